import Derived.Test.YtlpcjiollnnmgabGreatDoorM10
import Derived.Laws.AppendOwnNone
set_option maxRecDepth 100000
set_option maxHeartbeats 8000000
set_option linter.all false
namespace Go.Proofs.YtlpcjiollnnmgabGreatDoor
open Go.Proofs.Tryz
section
open Go.RowKit bd
def II b l w(hT:cH w)(lX:1<b)(hr:Row w b [.string (str l)])(hl:l.length<=9223372036854775807):Calls prog 71 #[.pointer (some ⟨b,0,none⟩)] w (IF (Wr.Ur l) (λa=>a.1) 78 33 (λa=>a.2.length) (λa=>aJ a.2) b w):=by
 have hb:=hr.lt;have gY:=hT.lt;have hk:=And.intro lX hl;clear hk;have I0:PI w b l.length l (w.alloc (.cells cB.toArray 83)):=⟨hr.alloc _,Row.new w _ _,(cA.refl _ _ _).alloc ν _,ν⟩;rw[show cB.toArray=#[Value.string (str []),.slice none 0 0]from rfl]at I0;have HT:=η hT;have EQ:=η (show Wr.Ur l=(Wr.take 80 l).bind λh r=>(Wr.cM 1 16 r).bind λn r=>(Wr.bx n r).map λts=>(h,ts)from rfl);clear hr hT;go_enter func71,ntmps71;go_upto_region 1 with fail;generalize w.alloc _=w1 at I0|-;have T1:=η (bT b 80 l w1 I0.cur (by omega));have J:=η I0;clear I0;go_wp2_with fail;refine T1.o.mono ?_;clear T1;cases hx:Wr.take 80 l with
 |bad n=>rintro e w2⟨rfl,h⟩;rw[hx]at EQ;exact⟨rfl,IF.bh EQ.o (J.o.bad h)⟩
 |ok t1 r1=>
 rintro e w2⟨rfl,h3,h4⟩;rw[hx]at EQ;have iT:=η (show Wr.Ur l=(Wr.cM 1 16 r1).bind λn r=>(Wr.bx n r).map λts=>(t1,ts)from EQ.o);have J2:=η (J.o.step hb h3 h4 ((Wr.bH 80 l).le hx));have T2:=η (fV b 1 16 r1 w2 h3 (by omega) (by omega));clear h3 h4 J EQ hx;go_wp2_with fail;refine T2.o.mono ?_;clear T2;cases hx:Wr.cM 1 16 r1 with
 |bad n=>rintro e w3⟨rfl,h⟩;rw[hx]at iT;exact⟨rfl,IF.bh iT.o (J2.o.bad h)⟩
 |ok n r2=>
 rintro e w3⟨rfl,h3,h4⟩;rw[hx]at iT;have hn:=(Wr.eP hx).2;have FN:=η (show Wr.Ur l=(Wr.bx n r2).map λts=>(t1,ts)from iT.o);have J3:=η (J2.o.step hb h3 h4 ((Wr.eB 1 16 r1).le hx));clear h3 h4 J2 iT hx;have T3:=η (Es b n r2 w3 (J3.o.but.sE HT.o gY lX) lX J3.o.cur (Nat.le_trans J3.o.le hl) (by omega));go_wp2_with fail;refine T3.o.mono ?_;clear T3;cases hx:Wr.bx n r2 with
 |bad k=>rintro e w4⟨rfl,h⟩;rw[hx]at FN;exact⟨rfl,IF.bh FN.o (J3.o.bad h)⟩
 |ok ts r3=>rintro e w4⟨v,rfl,h2,h3,h4⟩;rw[hx]at FN;have J4:=η (J3.o.step hb h3 h4 ((Wr.zM n r2).le hx));have kQ:=J4.o.own;have nz:=J3.o.but.size;have aiK:=J3.o.own.lt;have hv:=aP h2;have mq:=dJ h2;have O1:=η (dg (S:=w.heap.size) h2 (pr t1 v).toArray (by omega));clear h2 h3 h4 J3 hx;go_wp2_with (first|(refine LA (o:=⟨some 15,_,_,_,_,_⟩) rfl _ _ rfl t1 v (by obtain⟨a,c,h⟩:=hv;exact⟨a,_,c,h⟩) rfl rfl ?_)|(with_reducible refine au (o:=⟨none,_,_,_,_,_⟩) rfl _ _ _ rfl w.heap.size cB (pr t1 v) rfl rfl kQ (bM.trans rfl) rfl (ft t1 mq) ?_));obtain⟨T2,Cj⟩:=kQ.setRow (pr t1 v);exact bodyPost_ret (v:=.agg (pr t1 v).toArray) (results_cell_row (fn:=Tryz.f71) rfl _ _ w.heap.size T2 _ (0,0) _ rfl Cj underlying83 rfl (bM.trans rfl)) rfl (IF.kz (a:=(t1,ts)) FN.o (eV O1.o nz) (J4.o.cur.aG (by omega) _) (J4.o.but.trans (cA.aH (below_setRow (Below.refl _ _) ν _))))
def yR g h w:CallsD prog 114 #[.pointer (some ⟨g,0,none⟩),.pointer (some ⟨h,0,none⟩)] .returning w λe u' w'=>e=.returned (.tuple #[])/\u'=.returning/\w'=w:=by refine callsD_of_wpS func114 rfl λuR cs hu=>?_;simp only[ntmps114,List.size_toArray,List.length_cons,List.length_nil,Nat.reduceAdd,Nat.reduceSub,Array.replicate_succ,Array.replicate_zero,List.push_toArray,List.append_toArray,List.nil_append,List.cons_append];apply wpS_seq;apply wpS_region;simp[wpOpsS,go_sem,recoverD,hu,Exit.thenS];refine wpS_of_wp ?_;go_wp2_with fail;cases uR;simp_all[bodyPostS,results,results114]
def kj g h n m l w(hg:Row w g l)(hh:Row w h [.int .i64 m])(hl:l.length=2)(bZ:g≠h):CallsD prog 114 #[.pointer (some ⟨g,0,none⟩),.pointer (some ⟨h,0,none⟩)] (.panicking (fJ n)) w λe u' w'=>e=.returned (.tuple #[])/\u'=.panicking [{v:=.iface 178 (.agg #[.int .i64 n]),recovered:=true}]/\Row w' g cB/\Row w' h [.int .i64 n]/\aU (λk=>k=g∨k=h) w w':=by
 refine callsD_of_wpS func114 rfl λuR cs hu=>?_;simp only[ntmps114,List.size_toArray,List.length_cons,List.length_nil,Nat.reduceAdd,Nat.reduceSub,Array.replicate_succ,Array.replicate_zero,List.push_toArray,List.append_toArray,List.nil_append,List.cons_append];apply wpS_seq;apply wpS_region;unfold fJ at hu;have ZP:=tE n;simp[wpOpsS,go_sem,recoverD,hu,Exit.thenS];refine wpS_of_wp ?_;have hzg:=hg.lt;have hzh:=hh.lt;have r1:Row ((w.alloc (.cells #[.int .i64 n] 178)).alloc (.cells #[.string (str []),.slice none 0 0] 83)) w.heap.size [.int .i64 n]:=(Row.new w [.int .i64 n] 178).alloc _;have r2:Row ((w.alloc (.cells #[.int .i64 n] 178)).alloc (.cells #[.string (str []),.slice none 0 0] 83)) (w.heap.size+1) cB:=by have:=Row.new (w.alloc (.cells #[.int .i64 n] 178)) cB 83;rw[World.size_alloc]at this;exact this
 have r3:Row ((w.alloc (.cells #[.int .i64 n] 178)).alloc (.cells #[.string (str []),.slice none 0 0] 83)) g l:=(hg.alloc _).alloc _;have r4:Row ((w.alloc (.cells #[.int .i64 n] 178)).alloc (.cells #[.string (str []),.slice none 0 0] 83)) h [.int .i64 m]:=(hh.alloc _).alloc _;have kk:aU (λk=>k=g∨k=h) w ((w.alloc (.cells #[.int .i64 n] 178)).alloc (.cells #[.string (str []),.slice none 0 0] 83)):=((aU.refl _ _).alloc _).alloc _;clear hg hh;go_wp2_with fail;generalize(w.alloc _).alloc _=w1 at r1 r2 r3 r4 kk|-;generalize w.heap.size=A at *;have hu:∀u:ax.Of (λu=>Row u A [.int .i64 n]/\Row u (A+1) cB),u.w.cell? ⟨A,0,none⟩=some (.int .i64 n):=λu=>u.h.1.cell 0;haveI aby:Nonempty (ax.Of (λu=>Row u A [.int .i64 n]/\Row u (A+1) cB)):=⟨⟨w1,r1,r2⟩⟩;refine ax.bA [0,1,2] 2 mixed (by kernel_rfl) rfl rfl (λc a d v w h=>by cases d<;>exact h) (by as_aux_lemma=>kernel_rfl) rfl (λu=>Row u A [.int .i64 n]/\Row u (A+1) cB) ⟨r1.drew,r2.drew⟩ ?_;show wpQuiet _ _ _ _ [_,_,_] _;refine fK (o:=⟨some 12,_,_,_,_,_⟩) rfl _ _ rfl (A+1) cB rfl (λw hw=>by obtain⟨u,rfl⟩:=hw;exact u.h.2) _ underlying83 (bM.trans rfl) _ rfl ?_;go_frame;repeat(go_big_quiet_step (fail))
 refine wpQuiet_nil ?_;have r1:=r1.drew;have r2:=r2.drew;have r3:=r3.drew;have r4:=r4.drew;have kk:=kk.drew;generalize w1.drew=w2 at r1 r2 r3 r4 kk|-;refine ax.one 3 _ (by kernel_rfl) rfl rfl ?_;refine au rfl _ _ _ rfl g l cB rfl rfl r3 (bM.trans rfl) (by rw[hl];rfl) (by decide +kernel) ?_;have s1:=r1.aG (g:=g) (by omega) cB.toArray;have s2:=r2.aG (g:=g) (by omega) cB.toArray;have s3:=r3.setRow cB;have s4:=r4.aG (g:=g) (Ne.symm bZ) cB.toArray;have kk:=kk.setRow g cB.toArray (.inl rfl);generalize w2.setRow g _=w3 at s1 s2 s3 s4 kk|-;refine⟨ax.aj ⟨s1,s2⟩,?_⟩;refine ax.one 4 _ (by kernel_rfl) rfl rfl ?_;have hz:=s4.free 0;have hc:=s4.cell 0;try go_frame
 go_wp2_with fail;refine⟨ax.aj ⟨s1.other (show h≠A by omega) _,s2.other (show h≠A+1 by omega) _⟩,?_⟩
 refine wpAnyH_done (by kernel_rfl) ?_ 0;go_wp2_with fail;refine⟨rfl,_,rfl,.tuple #[],results_none rfl _ _ _,rfl,rfl,s3.other (Ne.symm bZ) _,s4.set 0 _,kk.set _ _ (.inr rfl)⟩
def yw l w(hT:cH w)(hl:l.length<=9223372036854775807):Calls prog 70 #[.string (str l),.func (.func 71) #[] #[]] w (vg (Wr.dA l) (λa=>a.1) 78 33 (λa=>a.2.length) (λa=>aJ a.2) w):=by
 have hmf:=Fc;have gY:=hT.lt;have HT:=η hT;have EQ:=η (show Wr.dA l=(Wr.Ur l).bind λa r=>if r=[]then .ok a r else .bad 5 from rfl);have r1:Row (((w.alloc (.cells #[.string (str []),.slice none 0 0] 83)).alloc (.cells #[.int .i64 0] 37)).alloc (.cells #[.string (str l)] 136)) w.heap.size cB:=((Row.new w cB 83).alloc _).alloc _;have r2:Row (((w.alloc (.cells #[.string (str []),.slice none 0 0] 83)).alloc (.cells #[.int .i64 0] 37)).alloc (.cells #[.string (str l)] 136)) (w.heap.size+1) [.int .i64 0]:=by have:=Row.new (w.alloc (.cells cB.toArray 83)) [.int .i64 0] 37;rw[World.size_alloc]at this;exact this.alloc _
 have r3:Row (((w.alloc (.cells #[.string (str []),.slice none 0 0] 83)).alloc (.cells #[.int .i64 0] 37)).alloc (.cells #[.string (str l)] 136)) (w.heap.size+2) [.string (str l)]:=by have:=Row.new ((w.alloc (.cells cB.toArray 83)).alloc (.cells #[.int .i64 0] 37)) [.string (str l)] 136;rw[World.size_alloc,World.size_alloc]at this;exact this
 have hB:Below w.heap.size w (((w.alloc (.cells #[.string (str []),.slice none 0 0] 83)).alloc (.cells #[.int .i64 0] 37)).alloc (.cells #[.string (str l)] 136)):=(((Below.refl _ _).alloc ν _).alloc (by simp) _).alloc (by simp;omega) _;clear hT;go_enter_defers func70,ntmps70;go_wp2_with fail;generalize((w.alloc _).alloc _).alloc _=w1 at r1 r2 r3 hB|-;have HB:=η hB;have hz:=hB.size;have nz:=r3.lt;have R1:=η r1;have R2:=η r2;have T1:=η (II (w.heap.size+2) l w1 (HT.o.below hB gY) (by omega) r3 hl)
 clear r1 r2 r3 hB;refine T1.o.mono ?_;clear T1;cases hx:Wr.Ur l with
 |bad n=>rintro e w2⟨rfl,h⟩;rw[hx]at EQ;have H1:=h.row R1.o R1.o.lt (by omega);have H2:=h.row R2.o R2.o.lt (by omega);refine leaves_cons (f:=114) (args:=#[.pointer (some ⟨w.heap.size,0,none⟩),.pointer (some ⟨w.heap.size+1,0,none⟩)]) (by simp) (by simp[go_sem]) ?_;refine(kj w.heap.size (w.heap.size+1) n 0 cB w2 H1 H2 rfl (by omega)).mono ?_;rintro e u' w3⟨rfl,rfl,h5,h6,h7⟩;refine⟨_,cU rfl _ _ w.heap.size (w.heap.size+1) cB n rfl rfl h5 h6 _ underlying83 (bM.trans rfl),?_⟩;exact vg.bh EQ.o (HB.o.trans ⟨h7.os.trans h.os,h7.tape.trans h.tape,h7.output.trans h.output,Nat.le_trans h.size h7.size,λk hk=>(h7.block k (by have:=h.size;omega) (by omega)).trans (h.block k (by omega) (by omega))⟩)
 |ok t r=>
 rintro e w2⟨v,rfl,ho,h3,h⟩;rw[hx]at EQ;have iT:=η (show Wr.dA l=if r=[]then .ok t r else .bad 5 from EQ.o);have H1:=h.row R1.o R1.o.lt (by omega);have H2:=h.row R2.o R2.o.lt (by omega);have ik:=h.size;have mq:=dJ ho;have B2:=η (show Below w.heap.size w w2 from HB.o.trans ⟨h.os,h.tape,h.output,h.size,λk hk=>h.block k (by omega) (by omega)⟩);have S1:=η (H1.setRow (pr t.1 v));have S2:=η (H2.aG (g:=w.heap.size) (by omega) (pr t.1 v).toArray);have S3:=η (h3.aG (g:=w.heap.size) (by omega) (pr t.1 v).toArray);have B3:=η (below_setRow B2.o ν (pr t.1 v).toArray);have O3:=η (dg (S:=w.heap.size) ho (pr t.1 v).toArray (by omega));clear EQ h h3 H2 R1 R2 HB hx ho;go_wp2_with (with_reducible refine au (o:=⟨none,_,_,_,_,_⟩) rfl _ _ _ rfl w.heap.size cB (pr t.1 v) rfl rfl H1 (bM.trans rfl) rfl (ft t.1 mq) ?_);clear H1;generalize w2.setRow _ _=w3 at S1 S2 S3 B3 O3|-;refine(nI (w.heap.size+2) r w3 S3.o).mono ?_;by_cases hr:r=[]
 ·simp only[if_pos hr];rintro e w4⟨rfl,rfl⟩;have kQ:=S1.o;have S4:=η (S2.o.aG (g:=w.heap.size) (by omega) (pr t.1 v).toArray);have S5:=η (S1.o.setRow (pr t.1 v));have B5:=η (below_setRow B3.o ν (pr t.1 v).toArray);have O5:=η (dg (S:=w.heap.size) O3.o (pr t.1 v).toArray (by omega));have Xg:=S4.o.free 0;have ZW:=S4.o.cell 0;go_wp2_with (first|(refine bU (o:=⟨some 19,_,_,_,_,_⟩) rfl _ _ rfl w.heap.size (pr t.1 v) rfl kQ _ underlying83 (bM.trans rfl) _ rfl ?_)|(with_reducible refine au (o:=⟨none,_,_,_,_,_⟩) rfl _ _ _ rfl w.heap.size (pr t.1 v) (pr t.1 v) rfl rfl kQ (bM.trans rfl) rfl (ft t.1 mq) ?_));refine leaves_cons (f:=114) (args:=#[.pointer (some ⟨w.heap.size,0,none⟩),.pointer (some ⟨w.heap.size+1,0,none⟩)]) (by simp) (by simp[go_sem]) ?_;refine(yR w.heap.size (w.heap.size+1) _).mono ?_;rintro e u' w5⟨rfl,rfl,rfl⟩;refine⟨_,cU rfl _ _ w.heap.size (w.heap.size+1) (pr t.1 v) 0 rfl rfl (S5.o.other (show w.heap.size+1≠w.heap.size by omega) _) (S4.o.set 0 _) _ underlying83 (bM.trans rfl),?_⟩;exact vg.kz (iT.o.trans (if_pos hr)) (eV (bq O5.o _ (by show w.heap.size+1<_;omega)) hz) (B5.o.setCell (show w.heap.size<=w.heap.size+1 by omega) _)
 simp only[if_neg hr];rintro e w4⟨rfl,rfl⟩;refine leaves_cons (f:=114) (args:=#[.pointer (some ⟨w.heap.size,0,none⟩),.pointer (some ⟨w.heap.size+1,0,none⟩)]) (by simp) (by simp[go_sem]) ?_;refine(kj w.heap.size (w.heap.size+1) 5 0 (pr t.1 v) w4 S1.o S2.o rfl (by omega)).mono ?_;rintro e u' w5⟨rfl,rfl,h5,h6,h7⟩;refine⟨_,cU rfl _ _ w.heap.size (w.heap.size+1) cB 5 rfl rfl h5 h6 _ underlying83 (bM.trans rfl),?_⟩;exact vg.bh (k:=5) (iT.o.trans (if_neg hr)) (B3.o.trans ⟨h7.os,h7.tape,h7.output,h7.size,λk hk=>h7.block k (by have:=B3.o.size;omega) (by omega)⟩)
def mS l w(hT:cH w)(hl:l.length<=9223372036854775807):Calls prog 36 #[.string (str l)] w (vg (Wr.dA l) (λa=>a.1) 78 33 (λa=>a.2.length) (λa=>aJ a.2) w):=by
 have gY:=hT.lt;have r1:Row (w.alloc (.cells #[.string (str []),.slice none 0 0] 83)) w.heap.size cB:=Row.new w cB 83;have hB:Below w.heap.size w (w.alloc (.cells #[.string (str []),.slice none 0 0] 83)):=(Below.refl _ _).alloc ν _;go_enter func36,ntmps36;go_wp2_with fail;generalize w.alloc _=w1 at r1 hB|-;have HB:=η hB;have R1:=η r1;have hz:=r1.lt;have T1:=η (yw l w1 (hT.below hB gY) hl);clear hT hB r1;refine T1.o.mono ?_;clear T1;cases hx:Wr.dA l with
 |bad n=>have EQ:=η hx;clear hx;rintro e w2⟨rfl,h2⟩;have H1:=R1.o.below h2 hz;have B2:=η (HB.o.trans (h2.mono (by omega)));have S1:=η (H1.setRow cB);have B3:=η (below_setRow B2.o ν cB.toArray);clear h2 R1 HB;go_wp2_with (with_reducible refine au (o:=⟨none,_,_,_,_,_⟩) rfl _ _ _ rfl w.heap.size cB cB rfl rfl H1 (bM.trans rfl) rfl (by decide +kernel) ?_);exact bodyPost_ret (v:=.tuple #[.agg cB.toArray,.int .i64 n]) (cn rfl _ _ w.heap.size cB (.int .i64 n) rfl rfl S1.o _ underlying83 (bM.trans rfl)) rfl (vg.bh EQ.o B3.o)
 |ok t r=>have EQ:=η hx;clear hx;rintro e w2⟨v,rfl,ho,h2⟩;have mq:=dJ ho;have H1:=R1.o.below h2 hz;have B2:=η (HB.o.trans (h2.mono (by omega)));have S1:=η (H1.setRow (pr t.1 v));have B3:=η (below_setRow B2.o ν (pr t.1 v).toArray);have O3:=η (dg (S:=w.heap.size) ho (pr t.1 v).toArray (by omega));clear h2 R1 HB ho;go_wp2_with (with_reducible refine au (o:=⟨none,_,_,_,_,_⟩) rfl _ _ _ rfl w.heap.size cB (pr t.1 v) rfl rfl H1 (bM.trans rfl) rfl (ft t.1 mq) ?_);exact bodyPost_ret (v:=.tuple #[.agg (pr t.1 v).toArray,.int .i64 0]) (cn rfl _ _ w.heap.size (pr t.1 v) (.int .i64 0) rfl rfl S1.o _ underlying83 (bM.trans rfl)) rfl (vg.kz EQ.o (eV O3.o (by omega)) B3.o)
def Db b l w(hT:cH w)(lX:1<b)(hr:Row w b [.string (str l)])(hl:l.length<=9223372036854775807):Calls prog 92 #[.pointer (some ⟨b,0,none⟩)] w (IF (Wr.RV l) (λa=>a.1) 3 1 (λa=>a.2.length) (λa=>sC a.2) b w):=by
 have hb:=hr.lt;have gY:=hT.lt;have hk:=And.intro lX hl;clear hk;have I0:PI w b l.length l (w.alloc (.cells cB.toArray 105)):=⟨hr.alloc _,Row.new w _ _,(cA.refl _ _ _).alloc ν _,ν⟩;rw[show cB.toArray=#[Value.string (str []),.slice none 0 0]from rfl]at I0;have HT:=η hT;have EQ:=η (show Wr.RV l=(Wr.take 32 l).bind λh r=>(Wr.cM 1 16 r).bind λn r=>(Wr.indexes 16 n 0 r).map λts=>(h,ts)from rfl);clear hr hT;go_enter func92,ntmps92;go_upto_region 1 with fail;generalize w.alloc _=w1 at I0|-;have T1:=η (bT b 32 l w1 I0.cur (by omega));have J:=η I0;clear I0;go_wp2_with fail;refine T1.o.mono ?_;clear T1;cases hx:Wr.take 32 l with
 |bad n=>rintro e w2⟨rfl,h⟩;rw[hx]at EQ;exact⟨rfl,IF.bh EQ.o (J.o.bad h)⟩
 |ok t1 r1=>
 rintro e w2⟨rfl,h3,h4⟩;rw[hx]at EQ;have iT:=η (show Wr.RV l=(Wr.cM 1 16 r1).bind λn r=>(Wr.indexes 16 n 0 r).map λts=>(t1,ts)from EQ.o);have J2:=η (J.o.step hb h3 h4 ((Wr.bH 32 l).le hx));have T2:=η (fV b 1 16 r1 w2 h3 (by omega) (by omega));clear h3 h4 J EQ hx;go_wp2_with fail;refine T2.o.mono ?_;clear T2;cases hx:Wr.cM 1 16 r1 with
 |bad n=>rintro e w3⟨rfl,h⟩;rw[hx]at iT;exact⟨rfl,IF.bh iT.o (J2.o.bad h)⟩
 |ok n r2=>
 rintro e w3⟨rfl,h3,h4⟩;rw[hx]at iT;have hn:=(Wr.eP hx).2;have FN:=η (show Wr.RV l=(Wr.indexes 16 n 0 r2).map λts=>(t1,ts)from iT.o);have J3:=η (J2.o.step hb h3 h4 ((Wr.eB 1 16 r1).le hx));clear h3 h4 J2 iT hx;have T3:=η (DK b n 16 r2 w3 J3.o.cur (by omega) (by omega));go_wp2_with fail;refine T3.o.mono ?_;clear T3;cases hx:Wr.indexes 16 n 0 r2 with
 |bad k=>rintro e w4⟨rfl,h⟩;rw[hx]at FN;exact⟨rfl,IF.bh FN.o (J3.o.bad h)⟩
 |ok ts r3=>rintro e w4⟨v,rfl,h2,h3,h4⟩;rw[hx]at FN;have J4:=η (J3.o.step hb h3 h4 ((Wr.ux 16 n 0 r2).le hx));have kQ:=J4.o.own;have nz:=J3.o.but.size;have aiK:=J3.o.own.lt;have hv:=aP h2;have mq:=dJ h2;have O1:=η (dg (S:=w.heap.size) h2 (pr t1 v).toArray (by omega));clear h2 h3 h4 J3 hx;go_wp2_with (first|(refine Ee (o:=⟨some 15,_,_,_,_,_⟩) rfl _ _ rfl t1 v (by obtain⟨a,c,h⟩:=hv;exact⟨a,_,c,h⟩) rfl rfl ?_)|(with_reducible refine au (o:=⟨none,_,_,_,_,_⟩) rfl _ _ _ rfl w.heap.size cB (pr t1 v) rfl rfl kQ (bJ.trans rfl) rfl (ft t1 mq) ?_));obtain⟨T2,Cj⟩:=kQ.setRow (pr t1 v);exact bodyPost_ret (v:=.agg (pr t1 v).toArray) (results_cell_row (fn:=Tryz.f92) rfl _ _ w.heap.size T2 _ (0,0) _ rfl Cj underlying105 rfl (bJ.trans rfl)) rfl (IF.kz (a:=(t1,ts)) FN.o (eV O1.o nz) (J4.o.cur.aG (by omega) _) (J4.o.but.trans (cA.aH (below_setRow (Below.refl _ _) ν _))))
def uT g h w:CallsD prog 121 #[.pointer (some ⟨g,0,none⟩),.pointer (some ⟨h,0,none⟩)] .returning w λe u' w'=>e=.returned (.tuple #[])/\u'=.returning/\w'=w:=by refine callsD_of_wpS func121 rfl λuR cs hu=>?_;simp only[ntmps121,List.size_toArray,List.length_cons,List.length_nil,Nat.reduceAdd,Nat.reduceSub,Array.replicate_succ,Array.replicate_zero,List.push_toArray,List.append_toArray,List.nil_append,List.cons_append];apply wpS_seq;apply wpS_region;simp[wpOpsS,go_sem,recoverD,hu,Exit.thenS];refine wpS_of_wp ?_;go_wp2_with fail;cases uR;simp_all[bodyPostS,results,results121]
def jm g h n m l w(hg:Row w g l)(hh:Row w h [.int .i64 m])(hl:l.length=2)(bZ:g≠h):CallsD prog 121 #[.pointer (some ⟨g,0,none⟩),.pointer (some ⟨h,0,none⟩)] (.panicking (fJ n)) w λe u' w'=>e=.returned (.tuple #[])/\u'=.panicking [{v:=.iface 178 (.agg #[.int .i64 n]),recovered:=true}]/\Row w' g cB/\Row w' h [.int .i64 n]/\aU (λk=>k=g∨k=h) w w':=by
 refine callsD_of_wpS func121 rfl λuR cs hu=>?_;simp only[ntmps121,List.size_toArray,List.length_cons,List.length_nil,Nat.reduceAdd,Nat.reduceSub,Array.replicate_succ,Array.replicate_zero,List.push_toArray,List.append_toArray,List.nil_append,List.cons_append];apply wpS_seq;apply wpS_region;unfold fJ at hu;have ZP:=tE n;simp[wpOpsS,go_sem,recoverD,hu,Exit.thenS];refine wpS_of_wp ?_;have hzg:=hg.lt;have hzh:=hh.lt;have r1:Row ((w.alloc (.cells #[.int .i64 n] 178)).alloc (.cells #[.string (str []),.slice none 0 0] 105)) w.heap.size [.int .i64 n]:=(Row.new w [.int .i64 n] 178).alloc _;have r2:Row ((w.alloc (.cells #[.int .i64 n] 178)).alloc (.cells #[.string (str []),.slice none 0 0] 105)) (w.heap.size+1) cB:=by have:=Row.new (w.alloc (.cells #[.int .i64 n] 178)) cB 105;rw[World.size_alloc]at this;exact this
 have r3:Row ((w.alloc (.cells #[.int .i64 n] 178)).alloc (.cells #[.string (str []),.slice none 0 0] 105)) g l:=(hg.alloc _).alloc _;have r4:Row ((w.alloc (.cells #[.int .i64 n] 178)).alloc (.cells #[.string (str []),.slice none 0 0] 105)) h [.int .i64 m]:=(hh.alloc _).alloc _;have kk:aU (λk=>k=g∨k=h) w ((w.alloc (.cells #[.int .i64 n] 178)).alloc (.cells #[.string (str []),.slice none 0 0] 105)):=((aU.refl _ _).alloc _).alloc _;clear hg hh;go_wp2_with fail;generalize(w.alloc _).alloc _=w1 at r1 r2 r3 r4 kk|-;generalize w.heap.size=A at *;have hu:∀u:ax.Of (λu=>Row u A [.int .i64 n]/\Row u (A+1) cB),u.w.cell? ⟨A,0,none⟩=some (.int .i64 n):=λu=>u.h.1.cell 0;haveI aby:Nonempty (ax.Of (λu=>Row u A [.int .i64 n]/\Row u (A+1) cB)):=⟨⟨w1,r1,r2⟩⟩;refine ax.bA [0,1,2] 2 mixed (by kernel_rfl) rfl rfl (λc a d v w h=>by cases d<;>exact h) (by as_aux_lemma=>kernel_rfl) rfl (λu=>Row u A [.int .i64 n]/\Row u (A+1) cB) ⟨r1.drew,r2.drew⟩ ?_;show wpQuiet _ _ _ _ [_,_,_] _;refine fK (o:=⟨some 12,_,_,_,_,_⟩) rfl _ _ rfl (A+1) cB rfl (λw hw=>by obtain⟨u,rfl⟩:=hw;exact u.h.2) _ underlying105 (bJ.trans rfl) _ rfl ?_;go_frame;repeat(go_big_quiet_step (fail))
 refine wpQuiet_nil ?_;have r1:=r1.drew;have r2:=r2.drew;have r3:=r3.drew;have r4:=r4.drew;have kk:=kk.drew;generalize w1.drew=w2 at r1 r2 r3 r4 kk|-;refine ax.one 3 _ (by kernel_rfl) rfl rfl ?_;refine au rfl _ _ _ rfl g l cB rfl rfl r3 (bJ.trans rfl) (by rw[hl];rfl) (by decide +kernel) ?_;have s1:=r1.aG (g:=g) (by omega) cB.toArray;have s2:=r2.aG (g:=g) (by omega) cB.toArray;have s3:=r3.setRow cB;have s4:=r4.aG (g:=g) (Ne.symm bZ) cB.toArray;have kk:=kk.setRow g cB.toArray (.inl rfl);generalize w2.setRow g _=w3 at s1 s2 s3 s4 kk|-;refine⟨ax.aj ⟨s1,s2⟩,?_⟩;refine ax.one 4 _ (by kernel_rfl) rfl rfl ?_;have hz:=s4.free 0;have hc:=s4.cell 0;try go_frame
 go_wp2_with fail;refine⟨ax.aj ⟨s1.other (show h≠A by omega) _,s2.other (show h≠A+1 by omega) _⟩,?_⟩
 refine wpAnyH_done (by kernel_rfl) ?_ 0;go_wp2_with fail;refine⟨rfl,_,rfl,.tuple #[],results_none rfl _ _ _,rfl,rfl,s3.other (Ne.symm bZ) _,s4.set 0 _,kk.set _ _ (.inr rfl)⟩
def tT l w(hT:cH w)(hl:l.length<=9223372036854775807):Calls prog 91 #[.string (str l),.func (.func 92) #[] #[]] w (vg (Wr.dp l) (λa=>a.1) 3 1 (λa=>a.2.length) (λa=>sC a.2) w):=by
 have hmf:=Fc;have gY:=hT.lt;have HT:=η hT;have EQ:=η (show Wr.dp l=(Wr.RV l).bind λa r=>if r=[]then .ok a r else .bad 5 from rfl);have r1:Row (((w.alloc (.cells #[.string (str []),.slice none 0 0] 105)).alloc (.cells #[.int .i64 0] 37)).alloc (.cells #[.string (str l)] 136)) w.heap.size cB:=((Row.new w cB 105).alloc _).alloc _;have r2:Row (((w.alloc (.cells #[.string (str []),.slice none 0 0] 105)).alloc (.cells #[.int .i64 0] 37)).alloc (.cells #[.string (str l)] 136)) (w.heap.size+1) [.int .i64 0]:=by have:=Row.new (w.alloc (.cells cB.toArray 105)) [.int .i64 0] 37;rw[World.size_alloc]at this;exact this.alloc _
 have r3:Row (((w.alloc (.cells #[.string (str []),.slice none 0 0] 105)).alloc (.cells #[.int .i64 0] 37)).alloc (.cells #[.string (str l)] 136)) (w.heap.size+2) [.string (str l)]:=by have:=Row.new ((w.alloc (.cells cB.toArray 105)).alloc (.cells #[.int .i64 0] 37)) [.string (str l)] 136;rw[World.size_alloc,World.size_alloc]at this;exact this
 have hB:Below w.heap.size w (((w.alloc (.cells #[.string (str []),.slice none 0 0] 105)).alloc (.cells #[.int .i64 0] 37)).alloc (.cells #[.string (str l)] 136)):=(((Below.refl _ _).alloc ν _).alloc (by simp) _).alloc (by simp;omega) _;clear hT;go_enter_defers func91,ntmps91;go_wp2_with fail;generalize((w.alloc _).alloc _).alloc _=w1 at r1 r2 r3 hB|-;have HB:=η hB;have hz:=hB.size;have nz:=r3.lt;have R1:=η r1;have R2:=η r2;have T1:=η (Db (w.heap.size+2) l w1 (HT.o.below hB gY) (by omega) r3 hl)
 clear r1 r2 r3 hB;refine T1.o.mono ?_;clear T1;cases hx:Wr.RV l with
 |bad n=>rintro e w2⟨rfl,h⟩;rw[hx]at EQ;have H1:=h.row R1.o R1.o.lt (by omega);have H2:=h.row R2.o R2.o.lt (by omega);refine leaves_cons (f:=121) (args:=#[.pointer (some ⟨w.heap.size,0,none⟩),.pointer (some ⟨w.heap.size+1,0,none⟩)]) (by simp) (by simp[go_sem]) ?_;refine(jm w.heap.size (w.heap.size+1) n 0 cB w2 H1 H2 rfl (by omega)).mono ?_;rintro e u' w3⟨rfl,rfl,h5,h6,h7⟩;refine⟨_,cU rfl _ _ w.heap.size (w.heap.size+1) cB n rfl rfl h5 h6 _ underlying105 (bJ.trans rfl),?_⟩;exact vg.bh EQ.o (HB.o.trans ⟨h7.os.trans h.os,h7.tape.trans h.tape,h7.output.trans h.output,Nat.le_trans h.size h7.size,λk hk=>(h7.block k (by have:=h.size;omega) (by omega)).trans (h.block k (by omega) (by omega))⟩)
 |ok t r=>
 rintro e w2⟨v,rfl,ho,h3,h⟩;rw[hx]at EQ;have iT:=η (show Wr.dp l=if r=[]then .ok t r else .bad 5 from EQ.o);have H1:=h.row R1.o R1.o.lt (by omega);have H2:=h.row R2.o R2.o.lt (by omega);have ik:=h.size;have mq:=dJ ho;have B2:=η (show Below w.heap.size w w2 from HB.o.trans ⟨h.os,h.tape,h.output,h.size,λk hk=>h.block k (by omega) (by omega)⟩);have S1:=η (H1.setRow (pr t.1 v));have S2:=η (H2.aG (g:=w.heap.size) (by omega) (pr t.1 v).toArray);have S3:=η (h3.aG (g:=w.heap.size) (by omega) (pr t.1 v).toArray);have B3:=η (below_setRow B2.o ν (pr t.1 v).toArray);have O3:=η (dg (S:=w.heap.size) ho (pr t.1 v).toArray (by omega));clear EQ h h3 H2 R1 R2 HB hx ho;go_wp2_with (with_reducible refine au (o:=⟨none,_,_,_,_,_⟩) rfl _ _ _ rfl w.heap.size cB (pr t.1 v) rfl rfl H1 (bJ.trans rfl) rfl (ft t.1 mq) ?_);clear H1;generalize w2.setRow _ _=w3 at S1 S2 S3 B3 O3|-;refine(nI (w.heap.size+2) r w3 S3.o).mono ?_;by_cases hr:r=[]
 ·simp only[if_pos hr];rintro e w4⟨rfl,rfl⟩;have kQ:=S1.o;have S4:=η (S2.o.aG (g:=w.heap.size) (by omega) (pr t.1 v).toArray);have S5:=η (S1.o.setRow (pr t.1 v));have B5:=η (below_setRow B3.o ν (pr t.1 v).toArray);have O5:=η (dg (S:=w.heap.size) O3.o (pr t.1 v).toArray (by omega));have Xg:=S4.o.free 0;have ZW:=S4.o.cell 0;go_wp2_with (first|(refine bU (o:=⟨some 19,_,_,_,_,_⟩) rfl _ _ rfl w.heap.size (pr t.1 v) rfl kQ _ underlying105 (bJ.trans rfl) _ rfl ?_)|(with_reducible refine au (o:=⟨none,_,_,_,_,_⟩) rfl _ _ _ rfl w.heap.size (pr t.1 v) (pr t.1 v) rfl rfl kQ (bJ.trans rfl) rfl (ft t.1 mq) ?_));refine leaves_cons (f:=121) (args:=#[.pointer (some ⟨w.heap.size,0,none⟩),.pointer (some ⟨w.heap.size+1,0,none⟩)]) (by simp) (by simp[go_sem]) ?_;refine(uT w.heap.size (w.heap.size+1) _).mono ?_;rintro e u' w5⟨rfl,rfl,rfl⟩;refine⟨_,cU rfl _ _ w.heap.size (w.heap.size+1) (pr t.1 v) 0 rfl rfl (S5.o.other (show w.heap.size+1≠w.heap.size by omega) _) (S4.o.set 0 _) _ underlying105 (bJ.trans rfl),?_⟩;exact vg.kz (iT.o.trans (if_pos hr)) (eV (bq O5.o _ (by show w.heap.size+1<_;omega)) hz) (B5.o.setCell (show w.heap.size<=w.heap.size+1 by omega) _)
 simp only[if_neg hr];rintro e w4⟨rfl,rfl⟩;refine leaves_cons (f:=121) (args:=#[.pointer (some ⟨w.heap.size,0,none⟩),.pointer (some ⟨w.heap.size+1,0,none⟩)]) (by simp) (by simp[go_sem]) ?_;refine(jm w.heap.size (w.heap.size+1) 5 0 (pr t.1 v) w4 S1.o S2.o rfl (by omega)).mono ?_;rintro e u' w5⟨rfl,rfl,h5,h6,h7⟩;refine⟨_,cU rfl _ _ w.heap.size (w.heap.size+1) cB 5 rfl rfl h5 h6 _ underlying105 (bJ.trans rfl),?_⟩;exact vg.bh (k:=5) (iT.o.trans (if_neg hr)) (B3.o.trans ⟨h7.os,h7.tape,h7.output,h7.size,λk hk=>h7.block k (by have:=B3.o.size;omega) (by omega)⟩)
def sw l w(hT:cH w)(hl:l.length<=9223372036854775807):Calls prog 49 #[.string (str l)] w (vg (Wr.dp l) (λa=>a.1) 3 1 (λa=>a.2.length) (λa=>sC a.2) w):=by
 have gY:=hT.lt;have r1:Row (w.alloc (.cells #[.string (str []),.slice none 0 0] 105)) w.heap.size cB:=Row.new w cB 105;have hB:Below w.heap.size w (w.alloc (.cells #[.string (str []),.slice none 0 0] 105)):=(Below.refl _ _).alloc ν _;go_enter func49,ntmps49;go_wp2_with fail;generalize w.alloc _=w1 at r1 hB|-;have HB:=η hB;have R1:=η r1;have hz:=r1.lt;have T1:=η (tT l w1 (hT.below hB gY) hl);clear hT hB r1;refine T1.o.mono ?_;clear T1;cases hx:Wr.dp l with
 |bad n=>have EQ:=η hx;clear hx;rintro e w2⟨rfl,h2⟩;have H1:=R1.o.below h2 hz;have B2:=η (HB.o.trans (h2.mono (by omega)));have S1:=η (H1.setRow cB);have B3:=η (below_setRow B2.o ν cB.toArray);clear h2 R1 HB;go_wp2_with (with_reducible refine au (o:=⟨none,_,_,_,_,_⟩) rfl _ _ _ rfl w.heap.size cB cB rfl rfl H1 (bJ.trans rfl) rfl (by decide +kernel) ?_);exact bodyPost_ret (v:=.tuple #[.agg cB.toArray,.int .i64 n]) (cn rfl _ _ w.heap.size cB (.int .i64 n) rfl rfl S1.o _ underlying105 (bJ.trans rfl)) rfl (vg.bh EQ.o B3.o)
 |ok t r=>have EQ:=η hx;clear hx;rintro e w2⟨v,rfl,ho,h2⟩;have mq:=dJ ho;have H1:=R1.o.below h2 hz;have B2:=η (HB.o.trans (h2.mono (by omega)));have S1:=η (H1.setRow (pr t.1 v));have B3:=η (below_setRow B2.o ν (pr t.1 v).toArray);have O3:=η (dg (S:=w.heap.size) ho (pr t.1 v).toArray (by omega));clear h2 R1 HB ho;go_wp2_with (with_reducible refine au (o:=⟨none,_,_,_,_,_⟩) rfl _ _ _ rfl w.heap.size cB (pr t.1 v) rfl rfl H1 (bJ.trans rfl) rfl (ft t.1 mq) ?_);exact bodyPost_ret (v:=.tuple #[.agg (pr t.1 v).toArray,.int .i64 0]) (cn rfl _ _ w.heap.size (pr t.1 v) (.int .i64 0) rfl rfl S1.o _ underlying105 (bJ.trans rfl)) rfl (vg.kz EQ.o (eV O3.o (by omega)) B3.o)
def Ri(gs ts:List (List UInt8))(i:Nat)(hg:i<gs.length)(ht:i<ts.length):En.told (gs.take (i+1)) (ts.take (i+1))=En.told (gs.take i) (ts.take i)++(gs.getD i []++ts.getD i []):=by rw[List.take_succ_eq_append_getElem hg,List.take_succ_eq_append_getElem ht,En.Ev _ _ _ _ (by simp;omega),List.getD_eq_getElem?_getD,List.getD_eq_getElem?_getD,List.getElem?_eq_getElem hg,List.getElem?_eq_getElem ht];rfl
theorem Cm:∀(al:List Int)(lo:Int)(i:Nat),((En.dx lo al).getD i []).length<=9
 |[],lo,i=>by simp[En.dx]|a::al,lo,0=>by simp[En.dx];exact eG _|a::al,lo,i+1=>by have:=Cm al (a+1) i;simpa[En.dx]using this
def cP(h n:List UInt8)(sv av tv:Value):List Value:=[.string (str h),.string (str n),sv,av,tv]
def tf(h n:List UInt8)(sv av tv:Value)(ae ts:List (List UInt8))(al:List Int)(B N:Nat)(w:World) (hs:w.ownsRow B 9 1 sv ae.length (wt ae)) (ha:du w av al) (ht:w.ownsRow B 78 33 tv ts.length (aJ ts)) (hr:En.qE N 0 al) (hN:N<=16) (hal:al.length<=16) (zk:ts.length=al.length) (Fo:ae.length<=16) (h6:∀s∈ae,s.length<=610) (ala:∀t∈ts,t.length<=610) (hh:h.length<=100) (hn:n.length<=100):Calls prog 40 #[.agg (cP h n sv av tv).toArray] w λe w'=>e=.returned (.string (str (En.bytes h n ae al ts)))/\Below w.heap.size w w':=by
 obtain⟨sa,sc,rfl⟩:=aP hs;obtain⟨ta,tc,rfl⟩:=aP ht;obtain⟨aa,ac,rfl⟩:=ha.form;have rA:Row (w.alloc (.cells (cP h n (.slice sa ae.length sc) (.slice aa al.length ac) (.slice ta ts.length tc)).toArray 87)) w.heap.size (cP h n (.slice sa ae.length sc) (.slice aa al.length ac) (.slice ta ts.length tc)):=Row.new w _ _;have hB:Below w.heap.size w (w.alloc (.cells (cP h n (.slice sa ae.length sc) (.slice aa al.length ac) (.slice ta ts.length tc)).toArray 87)):=(Below.refl _ _).alloc ν _;have HS:=η hs;have HA:=η ha;have HT:=η ht;have HR:=η hr;have H6:=η h6;have ast:=η ala;have EQ:=η (show En.bytes h n ae al ts=h++n++(Wr.dI ae.length++ae.flatten)++(Wr.dI al.length++En.told (En.dx 0 al) ts)from rfl);have q1:IntKind.u64.wrap (ae.length:Int)=ae.length:=by rw[fW,lQ];omega
 have q2:IntKind.u64.wrap (al.length:Int)=al.length:=by rw[fW,lQ];omega
 have kP:=eG ae.length;have ik:=eG al.length;have HTL:=η zk;have LY:ts.length<=16:=by omega
 clear hs ha ht hr h6 ala zk;obtain⟨res,oA⟩:∃res,En.bytes h n ae al ts=res:=⟨_,rfl⟩;rw[oA]at EQ|-;clear oA;go_enter func40,ntmps40;go_upto_region 1 with fail;generalize w.alloc _=w1 at rA hB|-;obtain⟨A,hA⟩:∃A,w.heap.size=A:=⟨_,rfl⟩;rw[hA]at rA|-;have DM:∀u:ax.Of (λu=>Row u A (cP h n (.slice sa ae.length sc) (.slice aa al.length ac) (.slice ta ts.length tc))),u.w.cell? ⟨A,0,none⟩=some (.string (str h)):=λu=>u.h.cell 0;have yM:∀u:ax.Of (λu=>Row u A (cP h n (.slice sa ae.length sc) (.slice aa al.length ac) (.slice ta ts.length tc))),u.w.cell? ⟨A,1,none⟩=some (.string (str n)):=λu=>u.h.cell 1;have rP:∀u:ax.Of (λu=>Row u A (cP h n (.slice sa ae.length sc) (.slice aa al.length ac) (.slice ta ts.length tc))),u.w.cell? ⟨A,2,none⟩=some (.slice sa ae.length sc):=λu=>u.h.cell 2;haveI bZ:Nonempty (ax.Of (λu=>Row u A (cP h n (.slice sa ae.length sc) (.slice aa al.length ac) (.slice ta ts.length tc)))):=⟨⟨w1,rA⟩⟩;refine ax.bA [0,1,2,3,4,5,6,7,8] 3 mixed (by kernel_rfl) rfl rfl (λc a d v w h=>by cases d<;>exact h) (by as_aux_lemma=>kernel_rfl) rfl (λu=>Row u A (cP h n (.slice sa ae.length sc) (.slice aa al.length ac) (.slice ta ts.length tc))) rA.drew ?_;show wpQuiet _ _ _ _ [_,_,_,_,_,_,_,_,_] _;repeat(go_big_quiet_step (fail))
 refine wpQuiet_nil ?_;have r2:=rA.drew;have B2:=η hB.drew;have T1:=η (j7 ae.length w1.drew (by omega));have ZM:=r2.lt;clear rA hB DM yM rP;generalize w1.drew=w2 at r2 B2 T1 ZM|-;refine ax.one 9 _ (by kernel_rfl) rfl rfl ?_;try go_frame
 go_wp2_with fail;refine T1.o.mono ?_;clear T1;obtain⟨z1,afk⟩:∃z,Wr.dI ae.length=z:=⟨_,rfl⟩;obtain⟨z2,Kx⟩:∃z,Wr.dI al.length=z:=⟨_,rfl⟩;rw[afk,Kx]at EQ;rw[afk]at kP|-;rw[Kx]at ik;have Z2:=η Kx;clear afk Kx;rintro e w3⟨rfl,hb⟩;have r3:=r2.below hb ZM;have B3:=η (B2.o.trans (hb.mono (by omega)))
 have afi:A<w3.heap.size:=by have:=hb.size;omega
 clear hb r2 B2 ZM;have Yk:(h++n).length<=200:=by rw[List.length_append];omega
 go_wp2_with fail;refine⟨ax.aj r3,?_⟩;refine ax.one 10 _ (by kernel_rfl) rfl rfl ?_
 try go_frame
 go_wp2_with fail;refine⟨ax.aj r3,?_⟩;refine ax.one 11 _ (by kernel_rfl) rfl rfl ?_
 try go_frame
 go_wp2_with fail;refine⟨ax.aj r3,?_⟩;refine wpAnyH_done (by kernel_rfl) ?_ 0
 have XN:(h++(n++z1)).length<=300:=by rw[List.length_append]at Yk;rw[List.length_append,List.length_append];omega
 have at4:(n++z1).length<=300:=by rw[List.length_append]at Yk|-;omega
 generalize hP:h++(n++z1)=p1 at XN|-;have HP:=η hP;clear hP;have uF:=r3.cell 2;rw[show(cP h n (.slice sa ae.length sc) (.slice aa al.length ac) (.slice ta ts.length tc))[2]? =some (.slice sa ae.length sc)from rfl]at uF;go_wp2_with fail;clear uF;go_loopw [3,5,22] (λsv xv iv wr=>∃(i:Nat)(s:List UInt8),i<=ae.length/\iv=.int .i64 i/\sv=.string (str s)/\s.length<=300+610*i/\s=p1++(ae.take i).flatten/\wr=w3) (λ_ _ iv _=>ae.length-(intOf iv).toNat);exact⟨0,p1,by omega,rfl,rfl,by omega,by simp,rfl⟩;obtain⟨i,s,hi,rfl,rfl,hsn,BY,rfl⟩:=hrel;have HE:=η BY;clear BY;by_cases aM:i<ae.length
 ·have p2:(i:Int)< (ae.length:Int):=by omega
  obtain⟨g,CL,Kz,_,hg,oN⟩:=fL HS.o (by omega:0<ae.length);cases Kz;have ht:(ae.getD i []).length<=610:=H6.o _ (by rw[List.getD_eq_getElem?_getD,List.getElem?_eq_getElem aM];exact List.getElem_mem aM);have HT1:=η (vl ae i aM);have hc:wr.cell? ⟨g,i,none⟩=some (.string (str (ae.getD i []))):=by rw[<-OZ ae i aM,<-oN i (by omega)];exact World.cell?_of_block (w:=w) (B3.o.block g (by omega))
  obtain⟨t,het⟩:∃t,ae.getD i []=t:=⟨_,rfl⟩;rw[het]at ht HT1 hc;clear oN het;go_wp2_with fail;go_roundw
  ·exact⟨i+1,s++t,by omega,by go_num,rfl,by rw[List.length_append];omega,by rw[HE.o,HT1.o,List.append_assoc],by first|trivial|rfl⟩
  simp[intOf];omega
 obtain rfl:i=ae.length:=by omega
 have HE2:=η (show s=p1++ae.flatten by rw[HE.o,List.take_of_length_le ν]);have hs3:s.length<=11000:=by omega
 have KM:=r3.cell 3;rw[show(cP h n (.slice sa ae.length sc) (.slice aa al.length ac) (.slice ta ts.length tc))[3]? =some (.slice aa al.length ac)from rfl]at KM;have T1:=η (j7 al.length wr (by omega));rw[Z2.o]at T1;clear HE hsn;go_wp2_with fail;refine T1.o.mono ?_;clear T1 KM;rintro e w4⟨rfl,hb⟩;have r4:=r3.below hb afi;have B4:=η (B3.o.trans (hb.mono (by omega)));have api:A<w4.heap.size:=by have:=hb.size;omega
 clear hb;have Qx:=r4.cell 3;rw[show(cP h n (.slice sa ae.length sc) (.slice aa al.length ac) (.slice ta ts.length tc))[3]? =some (.slice aa al.length ac)from rfl]at Qx;have T2:=η (xF (.slice aa al.length ac) al N w4 ((HA.o.below B4.o ν)) HR.o (by omega) (by omega));go_wp2_with fail;refine T2.o.mono ?_;clear T2 Qx;rintro e w5⟨gv,rfl,hog,hb⟩;have r5:=r4.below hb api;have B5:=η (B4.o.trans (hb.mono (by omega)))
 have axq:A<w5.heap.size:=by have:=hb.size;omega
 have OG:=η hog;obtain⟨ga,gc,rfl⟩:=aP hog;clear hb hog;have lU:(s++z2).length<=11100:=by rw[List.length_append];omega
 go_wp2_with fail;generalize hQ:s++z2=p3 at lU|-;have HQ:=η hQ;clear hQ;go_loopw [3,6,7,41] (λsv kv xv iv wq=>∃(i:Nat)(s':List UInt8),i<=al.length/\iv=.int .i64 i/\sv=.string (str s')/\s'.length<=11100+620*i/\s'=p3++En.told ((En.dx 0 al).take i) (ts.take i)/\wq=w5) (λ_ _ _ iv _=>al.length-(intOf iv).toNat)
 exact⟨0,p3,by omega,rfl,rfl,by omega,by simp[En.told],rfl⟩;obtain⟨i,s',hi,rfl,rfl,hsn,BY,rfl⟩:=hrel;have HE:=η BY;clear BY;by_cases aM:i<al.length
 ·have p2:(i:Int)< (al.length:Int):=by omega
  have hit:i<ts.length:=by rw[HTL.o];exact aM
  have p4:(i:Int)< (ts.length:Int):=by omega
  have Qt:(wt (En.dx 0 al)).length=al.length:=by simp[wt,En.gy]
  obtain⟨g,CL,Kz,_,hg,oN⟩:=fL OG.o (by omega:0<al.length);cases Kz;have L6:i< (En.dx 0 al).length:=by rw[En.gy];exact aM
  have hc:wr.cell? ⟨g,i,none⟩=some (.string (str ((En.dx 0 al).getD i []))):=by rw[<-OZ _ i L6,<-oN i (by omega)]
  have hg9:=Cm al 0 i;obtain⟨gt,ct,Kz,_,hgt,ZP⟩:=mm HT.o (by omega:0<ts.length);cases Kz;have ht:(ts.getD i []).length<=610:=ast.o _ (by rw[List.getD_eq_getElem?_getD,List.getElem?_eq_getElem hit];exact List.getElem_mem hit);have hct:wr.cell? ⟨gt,i*33,none⟩=some (.string (str (ts.getD i []))):=by have:=ZP i hit 0 (.string (str (ts.getD i []))) rfl;rw[<-this,Nat.add_zero,Nat.mul_comm];exact World.cell?_of_block (w:=w) (B5.o.block gt (by omega))
  have HT1:=η (Ri (En.dx 0 al) ts i L6 hit);have ZW:=r5.cell 4;rw[show(cP h n (.slice sa ae.length sc) (.slice aa al.length ac) (.slice (some ⟨gt,0,none⟩) ts.length tc))[4]? =some (.slice (some ⟨gt,0,none⟩) ts.length tc)from rfl]at ZW;obtain⟨t,het⟩:∃t,ts.getD i []=t:=⟨_,rfl⟩;obtain⟨y,hye⟩:∃y,(En.dx 0 al).getD i []=y:=⟨_,rfl⟩;rw[het]at ht HT1 hct;rw[hye]at hg9 HT1 hc;have hyt:(y++t).length<=620:=by rw[List.length_append];omega
  clear oN het ZP hye hit L6 Qt;go_wp2_with fail;go_roundw
  ·exact⟨i+1,s'++(y++t),by omega,by go_num,rfl,by rw[List.length_append];omega,by rw[HE.o,HT1.o,List.append_assoc],by first|trivial|rfl⟩
  simp[intOf];omega
 obtain rfl:i=al.length:=by omega
 go_wp2_with fail;go_ret;refine⟨?_,B5.o⟩;have h1:En.told ((En.dx 0 al).take al.length) (ts.take al.length)=En.told (En.dx 0 al) ts:=by rw[List.take_of_length_le (by rw[En.gy];exact ν),List.take_of_length_le (by rw[HTL.o];exact ν)]
 rw[EQ.o,show s'=p3++En.told (En.dx 0 al) ts by rw[HE.o,h1],<-HQ.o,HE2.o,<-HP.o];show _=Ending.returned (.string (str _));simp only[List.append_assoc];rfl
def YU(n:Nat)(al:List Int)(i:Nat)(h:i<al.length)(hE:En.ef n 0 al=En.ef n (En.jA 0 (al.take i)) (al.drop i)):En.ef n 0 al=if al.getD i 0<0∨(n:Int)<=al.getD i 0 then 4 else if al.getD i 0<En.jA 0 (al.take i)then 11 else En.ef n (En.jA 0 (al.take (i+1))) (al.drop (i+1)):=by
 rw[hE,List.drop_eq_getElem_cons h,wB al 0 i h];have e:al.getD i 0=al[i]:=by rw[List.getD_eq_getElem?_getD,List.getElem?_eq_getElem h];rfl
 rw[e];rfl
def Ta(al:List Int)(i:Nat)(h0:0<i)(h:i<=al.length):En.jA 0 (al.take i)=al.getD (i-1) 0+1:=by have:=wB al 0 (i-1) (by omega);rwa[show i-1+1=i by omega]at this
def Hy(n:Nat)(al:List Int):En.chk n al=if En.ef n 0 al≠0 then En.ef n 0 al else if al.headD 1=0 then 0 else 11:=rfl
def afb(w:World):(Instr.makeSlice 35 (.int .i64 8) (.int .i64 8)).run prog w=.ok (.slice (some ⟨w.heap.size,0,none⟩) 8 8) (w.alloc (.cells (w8 [0,0,0,0,0,0,0,0]).toArray 5)):=by kernel_rfl
def uw:(prog.info? 87).map (·.size)=some 5:=by kernel_rfl
def SE{w:World}{B B' n m:Nat}{e e':TypeId}{z z':Nat}{v u:Value}{xs ys:List Value}(h:w.ownsRow B e z v n xs)(k:w.ownsRow B' e' z' u m ys)(he:e≠e'):v.ownBlock=none∨v.ownBlock≠u.ownBlock:=by
 rcases h.2 with⟨rfl,_⟩|⟨g,cap,cur,rfl,_,hg,_⟩;exact .inl rfl;refine .inr λhh=>?_;rcases k.2 with⟨rfl,_⟩|⟨g',CL,arO,rfl,_,IT,_⟩;cases hh;have:g=g':=by simpa[Value.ownBlock]using hh
 subst this;rw[hg]at IT;cases IT;exact he rfl
def Row.grown{w w':World}{b:Nat}{l:List Value}{row:Option Nat}(h:Row w b l)(hg:w.grownBy w' row)(bZ:row≠some b):Row w' b l:=by have hl:=h.lt;obtain⟨T,h⟩:=h;exact⟨T,by rw[hg.block b hl (λhh=>bZ hh.symm)];exact h⟩
theorem Kt(f:List UInt8->List UInt8)(al:List Int)(ts:List (List UInt8)):∀i,(En.kept f al ts i).length<=i
 |0=>ν|i+1=>by have:=Kt f al ts i;rw[En.kept];split;omega;rw[List.length_append];simp;omega
theorem Jp(al:List Int)(ts:List (List UInt8)):∀i,(En.ag al ts i).length<=i
 |0=>ν|i+1=>by have:=Jp al ts i;rw[En.ag];split;rw[List.length_append];simp;omega;omega
def WY(f:List UInt8->List UInt8)(al:List Int)(ts:List (List UInt8))(i:Nat)(h:(i:Int)∈al):En.kept f al ts (i+1)=En.kept f al ts i:=by rw[En.kept,if_pos h]
def abe(f:List UInt8->List UInt8)(al:List Int)(ts:List (List UInt8))(i:Nat)(h:¬(i:Int)∈al):En.kept f al ts (i+1)=En.kept f al ts i++[f (ts.getD i [])]:=by rw[En.kept,if_neg h]
def VN(al:List Int)(ts:List (List UInt8))(i:Nat)(h:(i:Int)∈al):En.ag al ts (i+1)=En.ag al ts i++[ts.getD i []]:=by rw[En.ag,if_pos h]
def aay(al:List Int)(ts:List (List UInt8))(i:Nat)(h:¬(i:Int)∈al):En.ag al ts (i+1)=En.ag al ts i:=by rw[En.ag,if_neg h]
theorem BH{P:List UInt8->Prop}(f:List UInt8->List UInt8)(al:List Int)(ts:List (List UInt8))(hf:∀t,P (f t)):∀i,∀s∈En.kept f al ts i,P s
 |0,s,h=>by cases h
 |i+1,s,h=>by rw[En.kept]at h;split at h;exact BH f al ts hf i s h;rcases List.mem_append.1 h with h|h;exact BH f al ts hf i s h;rw[List.mem_singleton.1 h];exact hf _
theorem Ab{P:List UInt8->Prop}(al:List Int)(ts:List (List UInt8))(hP:∀i,P (ts.getD i [])):∀i,∀s∈En.ag al ts i,P s
 |0,s,h=>by cases h
 |i+1,s,h=>by rw[En.ag]at h;split at h;rcases List.mem_append.1 h with h|h;exact Ab al ts hP i s h;rw[List.mem_singleton.1 h];exact hP _;exact Ab al ts hP i s h
def Mg{w:World}{g:Nat}{t:List UInt8}(h:Row w g (ai t)):w.rangeAt g 1 (w8 (Mk.ak t)):=λj v hv=>by rw[h.cell];unfold ai;rw[Nat.add_comm,List.getElem?_cons_succ];exact hv
def Rw(al:List Int)(ts:List (List UInt8))(h:En.qE ts.length 0 al):(En.ag al ts ts.length).length=al.length:=by
 rw[En.xe ts.length al ts h];have e:En.GV ts.length al=al:=by unfold En.GV;rw[List.filter_eq_self];intro x hx;have:=En.Gm _ al 0 h x hx;simpa using this
 rw[e]
def zx{u7 IK:World}{base C n m m2:Nat}{o:Obj}{l xs ys ys2:List Value}{tv tv2 sv:Value}{eS eT:TypeId}{zS zT:Nat}(fT:base<=u7.heap.size)(hC:C<base)(hRC:Row u7 C l) (hos:u7.ownsRow base eS zS sv n xs) (Qo:u7.ownsRow base eT zT tv m ys) (he:eS≠eT) (bY:IK.ownsRow base eT zT tv2 m2 ys2) (jY:(u7.alloc o).grownBy IK tv.ownBlock):∃pa pc,tv2=.slice pa m2 pc/\Row IK C l/\IK.ownsRow base eS zS sv n xs/\Below base u7 IK:=by have hb:Below base u7 IK:=((Below.refl base u7).alloc fT _).grown jY (by rw[World.size_alloc];omega) (λk hk=>(Qo.lt k hk).1);obtain⟨pa,pc,h1⟩:=aP bY;exact⟨pa,pc,h1,hRC.below hb hC,(hos.alloc o).kept jY (SE (hos.alloc o) (Qo.alloc o) he),hb⟩
def Ed(s n:ByteArray)(a:Option Addr)(l c:Nat):prog.built 87 [(0,.string s),(1,.string n),(3,.slice a l c)]=some #[.string s,.string n,.slice none 0 0,.slice a l c,.slice none 0 0]:=by kernel_rfl
def Ef{ops:Array Oper}{rest:List Oper}{o:Oper}{a:Act}{w:World}{Q:Exit->Act->World->Prop}(iW:o.guard=none)(x y z:Operand)(ho:o.op=.build 87 #[(0,x),(1,y),(3,z)]) (s n:List UInt8) (ad:Option Addr) (l c:Nat) (hx:a.eval x=.string (str s)) (hy:a.eval y=.string (str n)) (hz:a.eval z=.slice ad l c) (h:wpList prog ops Q rest (a.put o.dst (.agg (cP s n (.slice none 0 0) (.slice ad l c) (.slice none 0 0)).toArray)) w):wpList prog ops Q (o::rest) a w:=by refine wpList_buildTo iW 87 _ ho _ rfl _ ?_ h;simp only[List.map_toArray,List.map_cons,List.map_nil,hx,hy,hz];exact Ed (str s) (str n) ad l c
def cb0:List Value:=[.string (str []),.string (str []),.slice none 0 0,.slice none 0 0,.slice none 0 0]
def gK(blk:List UInt8)(nonce:UInt64)(av:Value)(al:List Int)(w:World)(hT:cH w)(hl1:blk.length<=9223372036854775807)(ha:du w av al)(hal:al.length<=1048576)(ajh:∀j,j<al.length-> -9223372036854775808<=al.getD j 0/\al.getD j 0<=9223372036854775807):Calls prog 20 #[.string (str blk),.int .u64 (U nonce),av] w λe w'=>e=.returned (Ih (En.encode blk nonce al))/\Below w.heap.size w w':=by
 have gY:=hT.lt;have HT:=η hT;have HA:=η ha;have asm:=η ajh;have T1:=η (mS blk w hT hl1);have ES:=η (show En.encode blk nonce al=match Wr.dA blk with
  |.bad e=>([],e)
  |.ok (h,bx) _=>if En.chk bx.length al≠0 then([],En.chk bx.length al)else
   (En.bytes h (Wr.low nonce.toNat 8) (En.kept (En.short h (Wr.low nonce.toNat 8)) al bx bx.length) al (En.ag al bx bx.length),0)from rfl)
 obtain⟨LM,qn⟩:∃p,En.encode blk nonce al=p:=⟨_,rfl⟩;rw[qn]at ES|-;obtain⟨aa,ac,rfl⟩:=ha.form;clear hT qn ha ajh;go_enter func20,ntmps20;go_wp2_with fail;refine T1.o.mono ?_;clear T1;cases hx:Wr.dA blk with
 |bad n=>
 rintro e w1⟨rfl,hb⟩;rw[hx]at ES;have hn:=Rf.xq hx;have p1:¬(n:Int)=0:=by omega
 have r1:Row (w1.alloc (.cells #[.string (str []),.slice none 0 0] 83)) w1.heap.size cB:=Row.new w1 cB 83;have hB:Below w1.heap.size w1 (w1.alloc (.cells #[.string (str []),.slice none 0 0] 83)):=(Below.refl _ _).alloc ν _;have B1:=η (hb.trans ((below_setRow hB ν cB.toArray).mono hb.size));clear hx hb hB hn;go_wp2_with (with_reducible refine au (o:=⟨none,_,_,_,_,_⟩) rfl _ _ _ rfl w1.heap.size cB cB rfl rfl r1 (bM.trans rfl) rfl (by decide +kernel) ?_);go_ret2;exact⟨by rw[show LM=([],n)from ES.o];rfl,B1.o⟩
 |ok a r=>
 obtain⟨h,ts⟩:=a;obtain⟨wF,afq,Qg,NP⟩:=Wr.QS hx;rintro e w1⟨bv,rfl,Qp,hb⟩;rw[hx]at ES;dsimp only at wF afq Qg NP Qp ES;obtain⟨gb,cb,rfl,aqk,sn,hTA⟩:=mm Qp (by omega);have r1:Row (w1.alloc (.cells #[.string (str []),.slice none 0 0] 83)) w1.heap.size cB:=Row.new w1 cB 83;have hB:Below w1.heap.size w1 (w1.alloc (.cells #[.string (str []),.slice none 0 0] 83)):=(Below.refl _ _).alloc ν _;have B1':=below_setRow hB ν (pr h (.slice (some ⟨gb,0,none⟩) ts.length cb)).toArray;have B1:=η (hb.trans (B1'.mono hb.size));have R1:=η (r1.setRow (pr h (.slice (some ⟨gb,0,none⟩) ts.length cb)));have HTA:=η (hTA.below B1' sn);have kP:=hb.size;have HS:=η NP;clear hx hb hB B1' Qp NP hTA;go_upto_region 4 with(with_reducible refine au (o:=⟨none,_,_,_,_,_⟩) rfl _ _ _ rfl w1.heap.size cB (pr h (.slice (some ⟨gb,0,none⟩) ts.length cb)) rfl rfl r1 (bM.trans rfl) rfl (ft h rfl) ?_);clear r1;generalize World.setRow _ _ _=w2 at B1 R1 HTA|-;obtain⟨A,hA⟩:∃A,w1.heap.size=A:=⟨_,rfl⟩;rw[hA]at R1 kP sn|-;clear hA;have Hh:=R1.o.lt;have EP:=η (show En.ef ts.length 0 al=En.ef ts.length (En.jA 0 (al.take 0)) (al.drop 0)by simp[En.jA]);have HA2:=η (HA.o.below B1.o ν);have hcA:=R1.o.cell 1;rw[show(pr h (.slice (some ⟨gb,0,none⟩) ts.length cb))[1]? =some (.slice (some ⟨gb,0,none⟩) ts.length cb)from rfl]at hcA;go_wp2_with fail;go_loopw [10,11,28] (λjv xv iv wr=>∃i:Nat,i<=al.length/\iv=.int .i64 i/\En.ef ts.length 0 al=En.ef ts.length (En.jA 0 (al.take i)) (al.drop i)/\wr=w2) (λ_ _ iv _=>al.length-(intOf iv).toNat);exact⟨0,by omega,rfl,EP.o,rfl⟩;clear EP;obtain⟨i,hi,rfl,hE,rfl⟩:=hrel;by_cases aM:i<al.length
 ·have p1:(i:Int)< (al.length:Int):=by omega
  have ST:=YU ts.length al i aM hE;have LP:=Ta al i;obtain⟨b,o,DU,jI,ep⟩:=HA2.o.at (by omega);subst DU;have UW:=ep i aM;obtain⟨x,Xj⟩:∃x,al.getD i 0=x:=⟨_,rfl⟩;rw[Xj]at ST UW;by_cases c1:x<0∨(ts.length:Int)<=x
  ·rw[if_pos c1]at ST;have Ma:=η (show LM=([],4)by rw[ES.o,Hy,ST];rfl);clear ST LP ep hE Xj;by_cases c2:x<0
   ·clear c1;go_wp2_with fail;go_ret2;exact⟨by rw[Ma.o];rfl,B1.o⟩
   have c3:x≥ (ts.length:Int):=by omega
   clear c1;go_wp2_with fail;go_ret2;exact⟨by rw[Ma.o];rfl,B1.o⟩
  rw[if_neg c1]at ST;have c2:¬x<0:=λhh=>c1 (.inl hh);have c3:¬x≥ (ts.length:Int):=λhh=>c1 (.inr hh);clear c1;by_cases fP:0<i
  ·have p2:(i:Int)>0:=by omega
   have LP2:=LP fP hi;have hcp:=ep (i-1) (by omega);have hir:=asm.o (i-1) (by omega);have q1:wrap64 ((i:Int) - 1)=((i-1:Nat):Int):=by unfold wrap64;omega
   have q1':(i:Int) - 1=((i-1:Nat):Int):=by omega
   have q3:((i-1:Nat):Int)< (al.length:Int):=by omega
   obtain⟨y,hye⟩:∃y,al.getD (i-1) 0=y:=⟨_,rfl⟩;rw[hye]at hcp LP2;obtain⟨k,hk⟩:∃k,i-1=k:=⟨_,rfl⟩;rw[hk]at hcp q1 q1' q3;by_cases c4:x<=y
   ·rw[if_pos (by omega)]at ST;have Ma:=η (show LM=([],11)by rw[ES.o,Hy,ST];rfl);clear ST LP LP2 ep hE Xj hye hk hir;go_wp2_with fail;go_ret2;exact⟨by rw[Ma.o];rfl,B1.o⟩
   rw[if_neg (by omega)]at ST;have ST2:=η ST;clear ST LP LP2 ep hE Xj hye hk hir;go_wp2_with fail;go_roundw
   ·exact⟨i+1,by omega,by go_num,ST2.o,by first|trivial|rfl⟩
   simp[intOf];omega
  obtain rfl:i=0:=by omega
  rw[if_neg (by show¬x<0;exact c2)]at ST;rw[Nat.add_zero]at UW;have ST2:=η ST;clear ST LP ep hE Xj;go_wp2_with fail;go_roundw
  ·exact⟨1,by omega,by go_num,ST2.o,by first|trivial|rfl⟩
  simp[intOf];omega
 obtain rfl:i=al.length:=by omega
 have CF:=η (show En.ef ts.length 0 al=0 by rw[hE,List.drop_length];rfl);have RI:=η (En.xm ts.length al 0 CF.o);clear hE;by_cases hz:al.length=0
 ·have Ma:=η (show LM=([],11)by obtain rfl:=List.eq_nil_of_length_eq_zero hz;rw[ES.o];rfl);clear aM;go_wp2_with fail;go_ret2;exact⟨by rw[Ma.o];rfl,B1.o⟩
 obtain⟨b,o,DU,jI,ep⟩:=HA2.o.at (by omega);subst DU;have xX:=ep 0 (by omega);rw[Nat.add_zero]at xX;have HD:=η (show al.headD 1=al.getD 0 0 by cases al with
  |nil=>exact absurd rfl hz
  |cons y ys=>rfl)
 have ap7:al.length<=16:=by rcases En.Ao ts.length al 0 (by omega) RI.o with h1|h1;omega;subst h1;simp
 obtain⟨x0,Xk⟩:∃x0,al.getD 0 0=x0:=⟨_,rfl⟩;rw[Xk]at xX HD;clear Xk ep;have p0:(0:Int)< (al.length:Int):=by omega
 by_cases hxz:x0=0
 ·subst hxz;have Ma:=η (show LM=(En.bytes h (Wr.low nonce.toNat 8) (En.kept (En.short h (Wr.low nonce.toNat 8)) al ts ts.length) al (En.ag al ts ts.length),0)by
  have h0:En.chk ts.length al=0:=by rw[Hy,CF.o,if_neg (λh=>h rfl),HD.o,if_pos rfl]
  rw[ES.o,h0];rfl)
  have hR:Row (wr.alloc (.cells (w8 [0,0,0,0,0,0,0,0]).toArray 5)) wr.heap.size (w8 [0,0,0,0,0,0,0,0]):=Row.new wr _ _;have hB:Below wr.heap.size wr (wr.alloc (.cells (w8 [0,0,0,0,0,0,0,0]).toArray 5)):=(Below.refl _ _).alloc ν _;have zo:=afb;clear ES CF HD aM hcA;go_wp2_with fail;generalize wr.alloc _=w3 at hR hB|-;have H1:=η hR;have H2:=η hB;clear hR hB zo xX;obtain⟨w2,hw2⟩:∃w2:World,w2=wr:=⟨_,rfl⟩;rw[<-hw2]at B1 R1 HTA HA2 Hh jI H1 H2|-;clear hw2;go_loopw [13,68] (λjv iv wr=>∃(i:Nat)(L:List UInt8),i<=8/\iv=.int .i64 i/\L.length=8/\Row wr w2.heap.size (w8 L)/\Below w2.heap.size w2 wr/\∀j,j<i->nth L j=nth (Wr.low nonce.toNat 8) j) (λ_ iv _=>8-(intOf iv).toNat);exact⟨0,[0,0,0,0,0,0,0,0],by omega,rfl,rfl,H1.o,H2.o,λj hj=>by omega⟩;clear H1 H2;obtain⟨i,L,hi,rfl,hL,hR,hB,hj⟩:=hrel;by_cases aM:i<8
  ·have p1:(i:Int)<8:=by omega
   have h8:0<=8*(i:Int):=by omega
   have e1:=vZ nonce i;have e2:=Wr.GQ nonce.toNat 8 i aM;have xX:=hR.cell i;rw[iX L i (by omega)]at xX;have hz:=hR.free i;obtain⟨y,hy⟩:∃y,(shr nonce (8*i)).toUInt8=y:=⟨_,rfl⟩;rw[hy]at e1;rw[<-e1]at e2;have S1:=η (show Row (wr.setCell ⟨w2.heap.size,i,none⟩ (.int .u8 (Y y))) w2.heap.size (w8 (L.set i y))from by rw[<-po];exact hR.set i _);have S2:=η (show Below w2.heap.size w2 (wr.setCell ⟨w2.heap.size,i,none⟩ (.int .u8 (Y y)))from hB.setCell ν _);have S3:=η (show∀j,j<i+1->nth (L.set i y) j=nth (Wr.low nonce.toNat 8) j from λj Hc=>by rw[GL L i j y (by omega)];split;rename_i h;subst h;rw[e2];exact hj j (by omega));subst hy;clear hR hB hj e2 e1;go_wp2_with fail;go_roundw
   ·exact⟨i+1,L.set i _,by omega,by go_num,by rw[List.length_set];exact hL,S1.o,S2.o,S3.o⟩
   simp[intOf];omega
  obtain rfl:i=8:=by omega
  have o8:=hR.bytes;have e:=GU L nonce.toNat 8 hL hj;subst e;have hn8:=Wr.aY nonce.toNat 8;obtain⟨nb,hnb⟩:∃nb,Wr.low nonce.toNat 8=nb:=⟨_,rfl⟩;rw[hnb]at o8 hn8 Ma;have B4:=η (B1.o.trans (hB.mono (by have:=B1.o.size;omega)));have axs:=hB.size;have R4:=η (R1.o.below hB Hh);have TA4:=η (HTA.o.below hB (by omega:gb<w2.heap.size));have A4:=η (HA2.o.below hB ν);have Yc:=R4.o.cell 0;rw[show(pr h (.slice (some ⟨gb,0,none⟩) ts.length cb))[0]? =some (.string (str h))from rfl]at Yc;have d1:Row (wr.alloc (.cells cb0.toArray 87)) wr.heap.size cb0:=Row.new wr cb0 _;have dB:=below_setRow ((Below.refl wr.heap.size wr).alloc ν (.cells cb0.toArray 87)) ν (cP h nb (.slice none 0 0) (.slice (some ⟨b,o,none⟩) al.length ac) (.slice none 0 0)).toArray;have RC:=η (d1.setRow (cP h nb (.slice none 0 0) (.slice (some ⟨b,o,none⟩) al.length ac) (.slice none 0 0)));have BC:=η dB;rw[show cb0.toArray=#[Value.string (str []),.string (str []),.slice none 0 0,.slice none 0 0,.slice none 0 0]from rfl]at d1 RC BC;clear hB hR hj hL dB hnb;go_upto_region 21 with(first|(with_reducible refine eJ (o:=⟨some 83,_,_,_,_,_⟩) rfl _ _ _ _ rfl w2.heap.size 0 8 8 nb hn8 rfl underlying35 underlying5 underlying9 o8 ?_)|(refine Ef (o:=⟨some 85,_,_,_,_,_⟩) rfl _ _ _ rfl h nb (some ⟨b,o,none⟩) al.length ac rfl rfl rfl ?_)|(with_reducible refine au (o:=⟨none,_,_,_,_,_⟩) rfl _ _ _ rfl wr.heap.size cb0 (cP h nb (.slice none 0 0) (.slice (some ⟨b,o,none⟩) al.length ac) (.slice none 0 0)) rfl rfl d1 (uw.trans rfl) rfl rfl ?_));clear d1 o8 Yc HTA R1 HA2;generalize World.setRow _ _ _=w5 at RC BC|-;obtain⟨C,hC⟩:∃C,wr.heap.size=C:=⟨_,rfl⟩;rw[hC]at RC BC|-;have hC5:=RC.o.lt;have B5:=η (B4.o.trans (BC.o.mono (by have:=B4.o.size;omega)));have R5:=η (R4.o.below BC.o (by omega));have TA5:=η (TA4.o.below BC.o (by omega:gb<C));have A5:=η (A4.o.below BC.o (by omega));clear B4 R4 TA4 A4 BC;have Yc:=R5.o.cell 0;rw[show(pr h (.slice (some ⟨gb,0,none⟩) ts.length cb))[0]? =some (.string (str h))from rfl]at Yc;have ajY:=RC.o.cell 1;rw[show(cP h nb (.slice none 0 0) (.slice (some ⟨b,o,none⟩) al.length ac) (.slice none 0 0))[1]? =some (.string (str nb))from rfl]at ajY;have T5:=η (xL h nb w5 (HT.o.below B5.o gY) (by omega));go_wp2_with fail;refine T5.o.mono ?_;clear T5 Yc ajY;rintro e w6⟨rfl,hb⟩;have hz6:=hb.size;obtain⟨kd,hkd⟩:∃kd,aQ.sum (h++nb)=kd:=⟨_,rfl⟩;rw[hkd];have FE:=η (show∀t,En.short h nb t=En.IL (cC.Mr (En.yL kd) (En.yK kd) (Mk.ak t))from λt=>by rw[<-hkd];rfl)
  clear hkd;have k1:Row (w6.alloc (.cells #[.int .u64 0,.int .u64 0] 89)) w6.heap.size [.int .u64 0,.int .u64 0]:=Row.new w6 [.int .u64 0,.int .u64 0] _;have kB:=below_setRow ((Below.refl w6.heap.size w6).alloc ν (.cells #[.int .u64 0,.int .u64 0] 89)) ν (aL kd).toArray;have RK:=η (k1.setRow (aL kd));have bb:=hb.trans (kB.mono hz6);have B7:=η (B5.o.trans (bb.mono (by have:=B5.o.size;omega)));have RC7:=η (RC.o.below bb hC5);have R7:=η (R5.o.below bb (by omega));have TA7:=η (TA5.o.below bb (by omega:gb<w5.heap.size));have A7:=η (A5.o.below bb ν);clear hb kB bb B5 RC R5 TA5 A5;go_upto_region 22 with(with_reducible refine au (o:=⟨none,_,_,_,_,_⟩) rfl _ _ _ rfl w6.heap.size [.int .u64 0,.int .u64 0] (aL kd) rfl rfl k1 (pV.trans rfl) rfl rfl ?_);clear k1;generalize World.setRow _ _ _=w7 at RK B7 RC7 R7 TA7 A7|-;obtain⟨K,hK⟩:∃K,w6.heap.size=K:=⟨_,rfl⟩;rw[hK]at RK|-;have hK7:=RK.o.lt;have aj0:=R7.o.cell 1;rw[show(pr h (.slice (some ⟨gb,0,none⟩) ts.length cb))[1]? =some (.slice (some ⟨gb,0,none⟩) ts.length cb)from rfl]at aj0;go_wp2_with fail;clear aj0;go_loopw [16,94] (λjv iv wq=>∃(i:Nat)(sv tv:Value),i<=ts.length/\iv=.int .i64 i/\Row wq C (cP h nb sv (.slice (some ⟨b,o,none⟩) al.length ac) tv)/\wq.ownsRow w7.heap.size 9 1 sv (En.kept (En.short h nb) al ts i).length (wt (En.kept (En.short h nb) al ts i))/\wq.ownsRow w7.heap.size 78 33 tv (En.ag al ts i).length (aJ (En.ag al ts i))/\cA w7.heap.size C w7 wq) (λ_ iv _=>ts.length-(intOf iv).toNat);exact⟨0,.slice none 0 0,.slice none 0 0,by omega,rfl,RC7.o,World.ownsRow_nil _ _ _ _,World.ownsRow_nil _ _ _ _,cA.refl _ _ _⟩;obtain⟨i0,fP,abk,abj,abi⟩:=info_parts qX;obtain⟨i1,ZV,xQ,Ca,rQ⟩:=info_parts oz;have HI:=η fP;have HI1:=η ZV;clear fP ZV;obtain⟨i,sv,tv,hi,rfl,hRC,hos,Qo,hN⟩:=hrel;have mH:=hN.size;have UX:C<w7.heap.size:=by omega
  have hgC:gb<C:=by omega
  have hkl:=Kt (En.short h nb) al ts i;have Fo:=Jp al ts i;by_cases aM:i<ts.length
  ·have p1:(i:Int)< (ts.length:Int):=by omega
   have zk:(ts.getD i []).length<=610:=HS.o _ (by rw[List.getD_eq_getElem?_getD,List.getElem?_eq_getElem aM];exact List.getElem_mem aM);have qY:wr.rangeAt gb (33*i) (ai (ts.getD i [])):=rangeAt_of_block (TA7.o i aM) (hN.block gb (by omega) (by omega));have KY:=λc=>η (WY (En.short h nb) al ts i c);have KNo:=λc=>η (abe (En.short h nb) al ts i c);have SY:=λc=>η (VN al ts i c);have SNo:=λc=>η (aay al ts i c);obtain⟨t,Qj⟩:∃t,ts.getD i []=t:=⟨_,rfl⟩;rw[Qj]at zk qY KNo SY;rw[FE.o t]at KNo;rw[Nat.mul_comm]at qY;have hAw:du wr (.slice (some ⟨b,o,none⟩) al.length ac) al:=by obtain⟨b',o',pf,ap4,TB⟩:=A7.o.at (by omega);cases pf;exact .inr ⟨b,o,ac,rfl,by omega,λj hj=>(World.cell?_of_block (w:=w7) (hN.block b (by omega) (by omega))).trans (TB j hj)⟩
   have r1:Row (wr.alloc (.cells db.toArray 78)) wr.heap.size db:=Row.new wr db 78;have bw:=below_setRow ((Below.refl wr.heap.size wr).alloc ν (.cells db.toArray 78)) ν (ai t).toArray;have IE:=η (r1.setRow (ai t));have UB:=η (hRC.below bw (by omega));have O10:=η (aE hos bw ν);have UC:=η (aE Qo bw ν);have UA:=η ((hN.row RK.o hK7 (by omega)).below bw (by omega));have N10:=η (hN.trans (cA.aH (S:=C) (bw.mono mH)));have A10:=η (hAw.below bw ν);have hsT:sv.ownBlock≠some wr.heap.size:=λhh=>by have:=(hos.lt _ hh).2;omega
   have afl:=bw.size;have Yl:=IE.o.lt;rw[Tryz.gU]at r1 bw IE UB O10 UC UA N10 A10 afl Yl;clear hRC hos Qo hN hAw bw Qj;go_wp2_with (first|(refine v7 (o:=⟨some 98,_,_,_,_,_⟩) rfl _ rfl gb (i*33) t rfl qY ?_)|(with_reducible refine au (o:=⟨none,_,_,_,_,_⟩) rfl _ _ _ rfl wr.heap.size db (ai t) rfl rfl r1 (cW.trans (by rw[aC])) (by rw[aC,bp]) (aX t) ?_));clear r1 qY;generalize World.setRow _ _ _=ZK at IE UB O10 UC UA N10 A10 afl Yl|-;obtain⟨T,hTe⟩:∃T,wr.heap.size=T:=⟨_,rfl⟩;rw[hTe]at IE hsT Yl mH|-;refine(CD _ al i ZK A10.o (by omega)).mono ?_;rintro e u7⟨rfl,rfl⟩;have fT:w7.heap.size<=u7.heap.size:=by omega
   by_cases hm:(i:Int)∈al
   ·rw[decide_eq_true hm];have KN:=KY hm;have SN:=SY hm;clear KY KNo SY SNo;have hrT:=IE.o;have aqF:=UB.o.cell 4;rw[show(cP h nb sv (.slice (some ⟨b,o,none⟩) al.length ac) tv)[4]? =some tv from rfl]at aqF;have L1:=η (show∀(j:Nat)(u:Value),(ai t)[j]? =some u->(u7.alloc (.cells (ai t).toArray 78)).cell? (Addr.add ⟨u7.heap.size,0,none⟩ j)=some u from λj u hu=>by rw[Addr.add_lit,Nat.zero_add,(Row.new u7 _ _).cell];exact hu);go_wp2_with (first|(refine bU (o:=⟨some 104,_,_,_,_,_⟩) rfl _ _ rfl T (ai t) rfl hrT _ underlying78 (cW.trans (by rw[aC])) _ rfl ?_)|(refine gL (o:=⟨some 105,_,_,_,_,_⟩) rfl _ rfl t rfl ?_)|(at_builtin;refine wpList_append_own _ rfl _ _ 42 rfl w7.heap.size 78 i0 (.agg db.toArray) 33 48 underlying42 HI.o abk abj abi (by rw[Value.cells,List.size_toArray,bp]) (by decide) _ _ _ rfl (UC.o.alloc _) ⟨u7.heap.size,0,none⟩ 1 1 (ai t) rfl (by rw[aC]) L1.o (λu hu=>List.all_eq_true.1 (aX t) u hu) (by unfold maxLen;omega) (by omega) (by rw[World.size_alloc];omega) ?_;intro tv2 IK NU adB _;obtain⟨pa,pc,rfl,wZ,ad3,akl⟩:=zx fT UX UB.o O10.o UC.o (by decide) NU adB;have Xh:=wZ.free 4;have ayO:=wZ.cell 4;have ase:=η ad3;have H1:=η NU;have H2:=η akl;have H3:=η wZ;clear NU adB akl wZ ad3))
    go_roundw
    ·exact⟨i+1,sv,_,by omega,by go_num,H3.o.set 4 _,by rw[KN.o];exact bq (a:=⟨C,4,none⟩) ase.o _ UX,by rw[SN.o,List.length_append,<-dD];exact bq (a:=⟨C,4,none⟩) H1.o _ UX,(N10.o.trans (cA.aH H2.o)).eA 4 _⟩
    simp[intOf];omega
   rw[decide_eq_false hm];have KN:=KNo hm;have SN:=SNo hm;clear KY KNo SY SNo;go_upto_region 27 with fail;haveI bZ:Nonempty (ax.Of (λu=>Row u K (aL kd)/\Row u T (ai t))):=⟨⟨u7,UA.o,IE.o⟩⟩;refine ax.bA [0,2,3,4] 6 mixed (by kernel_rfl) rfl rfl (λc a d v w h=>by cases d<;>exact h) (by as_aux_lemma=>kernel_rfl) rfl (λu=>Row u K (aL kd)/\Row u T (ai t)) ⟨UA.o.drew,IE.o.drew⟩ ?_;show wpQuiet _ _ _ _ [_,_,_,_] _;go_big_quiet_step (fail);refine fK (o:=⟨some 110,_,_,_,_,_⟩) rfl _ _ rfl K (aL kd) rfl (λw hw=>by obtain⟨u,rfl⟩:=hw;exact u.h.1) _ underlying89 (pV.trans rfl) _ rfl ?_;go_frame;go_big_quiet_step (fail);refine eE (o:=⟨some 112,_,_,_,_,_⟩) rfl _ rfl T 1 (Mk.ak t) (eQ t) rfl (λw hw=>by obtain⟨u,rfl⟩:=hw;exact Mg u.h.2) ?_;go_frame;refine wpQuiet_nil ?_;obtain⟨y,hy⟩:∃y,En.IL (cC.Mr (En.yL kd) (En.yK kd) (Mk.ak t))=y:=⟨_,rfl⟩;have PS:=η (tW kd (Mk.ak t) u7.drew (eQ t));rw[hy]at PS KN;have hyl:y.length=6:=by rw[<-hy];exact Wr.aY _ _
   have acv:=η IE.o.drew;have acz:=η UA.o.drew;have acA:=η UB.o.drew;have N11:=η N10.o.drew;have UD:=η (show u7.drew.ownsRow w7.heap.size 9 1 sv _ _ from O10.o);have agZ:=η (show u7.drew.ownsRow w7.heap.size 78 33 tv _ _ from UC.o);have Xi:w7.heap.size<=u7.drew.heap.size:=fT;have agf:T<u7.drew.heap.size:=Yl;have agn:C<u7.drew.heap.size:=by omega
   have agl:K<u7.drew.heap.size:=by omega
   have adH:=acA.o.cell 2;rw[show(cP h nb sv (.slice (some ⟨b,o,none⟩) al.length ac) tv)[2]? =some sv from rfl]at adH;have S11:ax.cls (λu=>Row u K (aL kd)/\Row u T (ai t)) u7.drew:=ax.aj ⟨acz.o,acv.o⟩;have ay2:w7.heap.size<=T:=by omega
   clear IE UA UB N10 O10 UC A10 fT Yl afl hy;generalize u7.drew=aw3 at PS acv acz acA N11 UD agZ Xi agf agn agl adH S11|-;refine ax.two 1 5 _ _ (by kernel_rfl) rfl rfl rfl rfl ?_ ?_
   ·try go_frame
    go_wp2_with fail;refine⟨S11,?_⟩;refine ax.one 5 _ (by kernel_rfl) rfl rfl ?_
    try go_frame
    go_wp2_with fail;refine PS.o.mono ?_;rintro e IK⟨rfl,kq⟩;have O12:=η (aE UD.o kq ν);have acD:=η (aE agZ.o kq ν);have wZ:=η (acA.o.below kq agn);have LQ:=η (acz.o.below kq agl);have LO:=η (acv.o.below kq agf);have Z0:=η (N11.o.trans (cA.aH (kq.mono Xi)));have Xh:w7.heap.size<=IK.heap.size:=Nat.le_trans Xi kq.size;have af6:=wZ.o.cell 2;rw[show(cP h nb sv (.slice (some ⟨b,o,none⟩) al.length ac) tv)[2]? =some sv from rfl]at af6;have Yb:=(wZ.o.alloc (.cells #[.string (str y)] 9)).cell 2;rw[show(cP h nb sv (.slice (some ⟨b,o,none⟩) al.length ac) tv)[2]? =some sv from rfl]at Yb;have S12:ax.cls (λu=>Row u K (aL kd)/\Row u T (ai t)) IK:=ax.aj ⟨LQ.o,LO.o⟩
    have Zv:ax.cls (λu=>Row u K (aL kd)/\Row u T (ai t)) (IK.alloc (.cells #[.string (str y)] 9)):=ax.aj ⟨LQ.o.alloc _,LO.o.alloc _⟩;go_wp2_with fail;refine⟨S12,?_⟩;refine ax.one 6 _ (by kernel_rfl) rfl rfl ?_
    try go_frame
    go_wp2_with fail;refine⟨Zv,?_⟩;refine ax.one 7 _ (by kernel_rfl) rfl rfl ?_
    refine wpList_append_own _ rfl _ _ 28 rfl w7.heap.size 9 i1 (.string ByteArray.empty) 1 16 underlying28 HI1.o xQ Ca rQ rfl (by decide) _ _ _ rfl (O12.o.alloc _) ⟨IK.heap.size,0,none⟩ 1 1 [.string (str y)] rfl rfl (cell_one_new _ _ _) (iz [y]) (by unfold maxLen;omega) (by omega) (by rw[World.size_alloc];omega) ?_;intro sv2 UI lJ qg _;obtain⟨pa,pc,rfl,uZ,LR,Ci⟩:=zx Xh UX wZ.o acD.o O12.o (by decide) lJ qg;have Ei:Row UI K (aL kd)/\Row UI T (ai t):=⟨LQ.o.below Ci hK7,(LO.o.alloc _).grown qg hsT⟩;refine⟨ax.aj Ei,?_⟩;refine ax.one 8 _ (by kernel_rfl) rfl rfl ?_;try go_frame
    go_wp2_with fail;refine⟨ax.aj Ei,?_⟩;refine ax.one 9 _ (by kernel_rfl) rfl rfl ?_
    have aiM:=uZ.free 2;have aj1:=uZ.cell 2;have R14:=η (uZ.set 2 (.slice pa ((En.kept (En.short h nb) al ts i).length+1) pc));have O14:=η (bq (a:=⟨C,2,none⟩) lJ (.slice pa ((En.kept (En.short h nb) al ts i).length+1) pc) UX);have ZC:=η (bq (a:=⟨C,2,none⟩) LR (.slice pa ((En.kept (En.short h nb) al ts i).length+1) pc) UX);have U0:=η ((Z0.o.trans (cA.aH Ci)).eA 2 (.slice pa ((En.kept (En.short h nb) al ts i).length+1) pc));have S14:ax.cls (λu=>Row u K (aL kd)/\Row u T (ai t)) (UI.setCell ⟨C,2,none⟩ (.slice pa ((En.kept (En.short h nb) al ts i).length+1) pc)):=ax.aj ⟨Ei.1.other (show C≠K by omega) _,Ei.2.other (show C≠T by omega) _⟩;clear lJ qg Ci Ei LR uZ;try go_frame
    go_wp2_with fail;refine⟨S14,?_⟩;refine wpAnyH_done (by kernel_rfl) ?_ 0
    go_wp2_with fail;go_roundw
    ·exact⟨i+1,_,tv,by omega,by go_num,R14.o,by rw[KN.o,List.length_append,<-jQ];exact O14.o,by rw[SN.o];exact ZC.o,U0.o⟩
    simp[intOf];omega
   try go_frame
   go_wp2_with fail;refine PS.o.mono ?_;rintro e IK⟨rfl,kq⟩;have O12:=η (aE UD.o kq ν);have acD:=η (aE agZ.o kq ν);have wZ:=η (acA.o.below kq agn);have LQ:=η (acz.o.below kq agl);have LO:=η (acv.o.below kq agf);have Z0:=η (N11.o.trans (cA.aH (kq.mono Xi)));have Xh:w7.heap.size<=IK.heap.size:=Nat.le_trans Xi kq.size;have af6:=wZ.o.cell 2;rw[show(cP h nb sv (.slice (some ⟨b,o,none⟩) al.length ac) tv)[2]? =some sv from rfl]at af6;have Yb:=(wZ.o.alloc (.cells #[.string (str y)] 9)).cell 2;rw[show(cP h nb sv (.slice (some ⟨b,o,none⟩) al.length ac) tv)[2]? =some sv from rfl]at Yb;have S12:ax.cls (λu=>Row u K (aL kd)/\Row u T (ai t)) IK:=ax.aj ⟨LQ.o,LO.o⟩
   have Zv:ax.cls (λu=>Row u K (aL kd)/\Row u T (ai t)) (IK.alloc (.cells #[.string (str y)] 9)):=ax.aj ⟨LQ.o.alloc _,LO.o.alloc _⟩;go_wp2_with fail;refine⟨S12,?_⟩;refine ax.two 1 6 _ _ (by kernel_rfl) rfl rfl rfl rfl ?_ ?_
   ·try go_frame
    go_wp2_with fail;refine⟨S12,?_⟩;refine ax.one 6 _ (by kernel_rfl) rfl rfl ?_
    try go_frame
    go_wp2_with fail;refine⟨Zv,?_⟩;refine ax.one 7 _ (by kernel_rfl) rfl rfl ?_
    refine wpList_append_own _ rfl _ _ 28 rfl w7.heap.size 9 i1 (.string ByteArray.empty) 1 16 underlying28 HI1.o xQ Ca rQ rfl (by decide) _ _ _ rfl (O12.o.alloc _) ⟨IK.heap.size,0,none⟩ 1 1 [.string (str y)] rfl rfl (cell_one_new _ _ _) (iz [y]) (by unfold maxLen;omega) (by omega) (by rw[World.size_alloc];omega) ?_;intro sv2 UI lJ qg _;obtain⟨pa,pc,rfl,uZ,LR,Ci⟩:=zx Xh UX wZ.o acD.o O12.o (by decide) lJ qg;have Ei:Row UI K (aL kd)/\Row UI T (ai t):=⟨LQ.o.below Ci hK7,(LO.o.alloc _).grown qg hsT⟩;refine⟨ax.aj Ei,?_⟩;refine ax.one 8 _ (by kernel_rfl) rfl rfl ?_;try go_frame
    go_wp2_with fail;refine⟨ax.aj Ei,?_⟩;refine ax.one 9 _ (by kernel_rfl) rfl rfl ?_
    have aiM:=uZ.free 2;have aj1:=uZ.cell 2;have R14:=η (uZ.set 2 (.slice pa ((En.kept (En.short h nb) al ts i).length+1) pc));have O14:=η (bq (a:=⟨C,2,none⟩) lJ (.slice pa ((En.kept (En.short h nb) al ts i).length+1) pc) UX);have ZC:=η (bq (a:=⟨C,2,none⟩) LR (.slice pa ((En.kept (En.short h nb) al ts i).length+1) pc) UX);have U0:=η ((Z0.o.trans (cA.aH Ci)).eA 2 (.slice pa ((En.kept (En.short h nb) al ts i).length+1) pc));have S14:ax.cls (λu=>Row u K (aL kd)/\Row u T (ai t)) (UI.setCell ⟨C,2,none⟩ (.slice pa ((En.kept (En.short h nb) al ts i).length+1) pc)):=ax.aj ⟨Ei.1.other (show C≠K by omega) _,Ei.2.other (show C≠T by omega) _⟩;clear lJ qg Ci Ei LR uZ;try go_frame
    go_wp2_with fail;refine⟨S14,?_⟩;refine wpAnyH_done (by kernel_rfl) ?_ 0
    go_wp2_with fail;go_roundw
    ·exact⟨i+1,_,tv,by omega,by go_num,R14.o,by rw[KN.o,List.length_append,<-jQ];exact O14.o,by rw[SN.o];exact ZC.o,U0.o⟩
    simp[intOf];omega
   try go_frame
   go_wp2_with fail;refine⟨Zv,?_⟩;refine ax.one 1 _ (by kernel_rfl) rfl rfl ?_
   try go_frame
   go_wp2_with fail;refine⟨Zv,?_⟩;refine ax.one 7 _ (by kernel_rfl) rfl rfl ?_
   refine wpList_append_own _ rfl _ _ 28 rfl w7.heap.size 9 i1 (.string ByteArray.empty) 1 16 underlying28 HI1.o xQ Ca rQ rfl (by decide) _ _ _ rfl (O12.o.alloc _) ⟨IK.heap.size,0,none⟩ 1 1 [.string (str y)] rfl rfl (cell_one_new _ _ _) (iz [y]) (by unfold maxLen;omega) (by omega) (by rw[World.size_alloc];omega) ?_;intro sv2 UI lJ qg _;obtain⟨pa,pc,rfl,uZ,LR,Ci⟩:=zx Xh UX wZ.o acD.o O12.o (by decide) lJ qg;have Ei:Row UI K (aL kd)/\Row UI T (ai t):=⟨LQ.o.below Ci hK7,(LO.o.alloc _).grown qg hsT⟩;refine⟨ax.aj Ei,?_⟩;refine ax.one 8 _ (by kernel_rfl) rfl rfl ?_;try go_frame
   go_wp2_with fail;refine⟨ax.aj Ei,?_⟩;refine ax.one 9 _ (by kernel_rfl) rfl rfl ?_
   have aiM:=uZ.free 2;have aj1:=uZ.cell 2;have R14:=η (uZ.set 2 (.slice pa ((En.kept (En.short h nb) al ts i).length+1) pc));have O14:=η (bq (a:=⟨C,2,none⟩) lJ (.slice pa ((En.kept (En.short h nb) al ts i).length+1) pc) UX);have ZC:=η (bq (a:=⟨C,2,none⟩) LR (.slice pa ((En.kept (En.short h nb) al ts i).length+1) pc) UX);have U0:=η ((Z0.o.trans (cA.aH Ci)).eA 2 (.slice pa ((En.kept (En.short h nb) al ts i).length+1) pc));have S14:ax.cls (λu=>Row u K (aL kd)/\Row u T (ai t)) (UI.setCell ⟨C,2,none⟩ (.slice pa ((En.kept (En.short h nb) al ts i).length+1) pc)):=ax.aj ⟨Ei.1.other (show C≠K by omega) _,Ei.2.other (show C≠T by omega) _⟩;clear lJ qg Ci Ei LR uZ;try go_frame
   go_wp2_with fail;refine⟨S14,?_⟩;refine wpAnyH_done (by kernel_rfl) ?_ 0
   go_wp2_with fail;go_roundw
   ·exact⟨i+1,_,tv,by omega,by go_num,R14.o,by rw[KN.o,List.length_append,<-jQ];exact O14.o,by rw[SN.o];exact ZC.o,U0.o⟩
   simp[intOf];omega
  obtain rfl:i=ts.length:=by omega
  have CB:=η (tf h nb sv (.slice (some ⟨b,o,none⟩) al.length ac) tv (En.kept (En.short h nb) al ts ts.length) (En.ag al ts ts.length) al w7.heap.size ts.length wr hos (by
  obtain⟨b',o',pf,ap4,TB⟩:=A7.o.at (by omega);cases pf;exact .inr ⟨b,o,ac,rfl,by omega,λj hj=>(World.cell?_of_block (w:=w7) (hN.block b (by omega) (by omega))).trans (TB j hj)⟩) Qo RI.o Qg ap7 (Rw al ts RI.o) (by omega) (BH _ al ts (λt=>by show(En.IL _).length<=610;unfold En.IL;rw[Wr.aY];omega) _) (Ab al ts (λj=>by
   by_cases hj:j<ts.length
   ·exact HS.o _ (by rw[List.getD_eq_getElem?_getD,List.getElem?_eq_getElem hj];exact List.getElem_mem hj)
   ·rw[List.getD_eq_getElem?_getD,List.getElem?_eq_none (by omega)];simp) _) (by omega) (by omega))
  have N2:=η (B7.o.trans ⟨hN.os,hN.tape,hN.output,hN.size,λk hk=>hN.block k (by have:=B7.o.size;omega) (by have:=B1.o.size;omega)⟩);clear hos Qo hN;obtain⟨res,oA⟩:∃res,En.bytes h nb (En.kept (En.short h nb) al ts ts.length) al (En.ag al ts ts.length)=res:=⟨_,rfl⟩;rw[oA]at CB Ma;clear oA hkl Fo;go_wp2_with (refine bU (o:=⟨some 118,_,_,_,_,_⟩) rfl _ _ rfl C (cP h nb sv (.slice (some ⟨b,o,none⟩) al.length ac) tv) rfl hRC _ underlying87 (uw.trans rfl) _ rfl ?_);refine CB.o.mono ?_;rintro e w9⟨rfl,rT⟩;have N3:=η (N2.o.trans (rT.mono N2.o.size));clear rT;go_wp2_with fail;go_ret2;exact⟨by rw[Ma.o];rfl,N3.o⟩
 have Ma:=η (show LM=([],11)by
 have h0:En.chk ts.length al=11:=by rw[Hy,CF.o,if_neg (λh=>h rfl),HD.o,if_neg hxz]
 rw[ES.o,h0];rfl)
 have afK:(x0==0)=false:=by simpa using hxz
 have ax3:(x0 != 0)=true:=by simpa using hxz
 clear aM;go_wp2_with fail;go_ret2;exact⟨by rw[Ma.o];rfl,B1.o⟩
end
section
open bd
namespace Mk
theorem Mv:∀(n:Nat)(l:List (List UInt8))(m:Bool),run n l m=((run n l false).1,m ||(run n l false).2)
 |0,l,m=>by simp[run]|n+1,l,m=>by rw[run,run];by_cases h:l.length<=1;rw[if_pos h,if_pos h];simp;rw[if_neg h,if_neg h,Mv n (up l) (m || lS l),Mv n (up l) (false || lS l)];simp[Bool.or_assoc]
def Pz(l:List (List UInt8))(m:Bool):root l m=((root l false).1,m ||(root l false).2):=Mv _ l m
theorem Jd:∀(l:List (List UInt8)),l.length % 2=1->lS (l++[l.getD (l.length-1) []])=true
 |[],h=>by simp at h|[a],_=>by simp[lS]|a::b::t,h=>by
  have ht:t.length % 2=1:=by simp at h;omega
  have h0:t.length-1+2=t.length+1:=by omega
  have e:(a::b::t).getD ((a::b::t).length-1) []=t.getD (t.length-1) []:=by show(a::b::t).getD (t.length+1) []=_;rw[<-h0];rfl
  rw[e];show(a==b || lS (t++[t.getD (t.length-1) []]))=true;rw[Jd t ht];simp
def VR(l:List (List UInt8))(h:l.length % 2=1)(h1:1<l.length):(root (l++[l.getD (l.length-1) []]) false).1=(root l false).1/\(root (l++[l.getD (l.length-1) []]) false).2=true:=by rw[y9 (l++[l.getD (l.length-1) []]) false (by rw[List.length_append];omega),y9 l false h1,Vf l h,Jd l h,Pz _ (false || true),Pz _ (false || _)];simp
end Mk
namespace Hn
open Wr En Cp
def mZ(n:Nat)(h:n<253):dI n=[UInt8.ofNat n]:=by unfold dI;rw[if_pos h]
theorem zN:∀(ts:List B)(r:B),(∀t∈ts,Sd.Tx t)->Wr.bx ts.length (ts.flatten++r)=.ok ts r
 |[],r,_=>rfl|t::ts,r,h=>by rw[List.length_cons,List.flatten_cons,List.append_assoc,Wr.bx,(h t List.mem_cons_self).app,R.aN,zN ts r λt ht=>h t (List.mem_cons_of_mem _ ht)];rfl
def CN(h:B)(ts:List B)(hh:h.length=80)(h0:0<ts.length)(h1:ts.length<=16)(ha:∀t∈ts,Sd.Tx t):dA (h++(UInt8.ofNat ts.length::ts.flatten))=.ok (h,ts) []:=by have:=zN ts [] ha;rw[List.append_nil]at this;unfold dA;rw[ah.eF h _ 80 hh,R.aN,ah.et 1 16 _ _ h0 h1 (by omega),R.aN,this];rfl
def Aq(n:B)(us:List B)(hn:n.length=32)(h0:0<us.length)(h1:us.length<=16)(ha:∀t∈us,Sd.Tx t):dz (n++(UInt8.ofNat us.length::us.flatten))=.ok (n,us) []:=by have:=zN us [] ha;rw[List.append_nil]at this;unfold dz;rw[ah.eF n _ 32 hn,R.aN,ah.et 1 16 _ _ h0 h1 (by omega),R.aN,this];rfl
theorem zV(k:Nat):∀(ss:List B)(r:B),(∀s∈ss,s.length=k)->iZ k ss.length (ss.flatten++r)=.ok ss r
 |[],r,_=>rfl|s::ss,r,h=>by rw[List.length_cons,List.flatten_cons,List.append_assoc,iZ,ah.eF s _ k (h s List.mem_cons_self),R.aN,zV k ss r λt ht=>h t (List.mem_cons_of_mem _ ht)];rfl
def Fj(next bound d:Nat)(r:B)(hd:d<253)(hb:next+d<bound):index next bound (UInt8.ofNat d::r)=.ok (next+d) r:=by unfold index;rw[ah.z6 d r hd,R.aN,if_neg (by omega)]
def Up(bound:Nat):Nat->List Nat->Prop
 |_,[]=>True|lo,i::l=>lo<=i/\i<bound/\Up bound (i+1) l
theorem uy(bound:Nat)(hb:bound<=252):∀(is:List Nat)(next:Nat)(r:B),Up bound next is->indexes bound is.length next ((dx next (ints is)).flatten++r)=.ok is r
 |[],_,_,_=>rfl|i::is,next,r,h=>by
  obtain⟨h1,h2,h3⟩:=h;have ih:=uy bound hb is (i+1) r h3;have e:(dx next (ints (i::is))).flatten++r=UInt8.ofNat (i-next)::((dx ((i+1:Nat):Int) (ints is)).flatten++r):=by show(dI ((i:Int) -(next:Int)).toNat::dx ((i:Int)+1) (ints is)).flatten++r=_;rw[show((i:Int) -(next:Int)).toNat=i-next by omega,mZ _ (by omega),List.flatten_cons];rfl
  rw[e,List.length_cons,indexes,Fj _ _ _ _ (by omega) (by omega),R.aN,show next+(i-next)=i by omega,ih];rfl
theorem Bh(bound:Nat)(hb:bound<=252):∀(is:List Nat)(ts:List B)(next:Nat)(r:B),is.length=ts.length->(∀t∈ts,Sd.Tx t)->Up bound next is->fH bound is.length next (told (dx next (ints is)) ts++r)=.ok (is.zip ts) r
 |[],[],_,_,_,_,_=>rfl|i::is,t::ts,next,r,hl,ha,h=>by
  obtain⟨h1,h2,h3⟩:=h;have ih:=Bh bound hb is ts (i+1) r (by simpa using hl) (λt ht=>ha t (List.mem_cons_of_mem _ ht)) h3;have e:told (dx next (ints (i::is))) (t::ts)++r=UInt8.ofNat (i-next)::(t++(told (dx ((i+1:Nat):Int) (ints is)) ts++r)):=by show(dI ((i:Int) -(next:Int)).toNat++t++told (dx ((i:Int)+1) (ints is)) ts)++r=_;rw[show((i:Int) -(next:Int)).toNat=i-next by omega,mZ _ (by omega),List.append_assoc,List.append_assoc];rfl
  rw[e,List.length_cons,fH,Fj _ _ _ _ (by omega) (by omega),R.aN,show next+(i-next)=i by omega,(ha t List.mem_cons_self).app,R.aN,ih];rfl|[],_::_,_,_,hl,_,_=>by simp at hl|_::_,[],_,_,hl,_,_=>by simp at hl
def Ht(h n:B)(ss ts:List B)(is:List Nat)(hh:h.length=80)(hn:n.length=8)(hs:∀s∈ss,s.length=6)(hl:is.length=ts.length)(ha:∀t∈ts,Sd.Tx t)(h0:0<is.length+ss.length)(Hi:is.length+ss.length<=16)(hu:Up (is.length+ss.length) 0 is):b9 (En.bytes h n ss (ints is) ts)=.ok ⟨h,n,ss,is.zip ts⟩ []:=by
 have e:En.bytes h n ss (ints is) ts=h++(n++(UInt8.ofNat ss.length::(ss.flatten++(UInt8.ofNat is.length::(told (dx ((0:Nat):Int) (ints is)) ts++[]))))):=by unfold En.bytes;rw[ij,mZ _ (by omega),mZ _ (by omega)];simp only[List.append_assoc,List.append_nil,List.cons_append,List.nil_append];rfl
 unfold b9;rw[e,ah.eF h _ 80 hh,R.aN,ah.eF n _ 8 hn,R.aN,ah.et 0 16 _ _ (by omega) (by omega) (by omega),R.aN,zV 6 ss _ hs,R.aN,ah.et 0 (16-ss.length) _ _ (by omega) (by omega) (by omega),R.aN,if_neg (by omega),Bh _ (by omega) is ts 0 [] hl ha hu];rfl
def idx(S:Nat->Bool)(n:Nat):List Nat:=(List.range n).filter S
def wC(S:Nat->Bool)(n:Nat):idx S n=(List.range' 0 n).filter S:=by unfold idx;rw[List.range_eq_range']
def lH(S:Nat->Bool)(n:Nat):idx S (n+1)=idx S n++(if S n then [n]else []):=by unfold idx;rw[List.range_succ,List.filter_append,List.filter_cons,List.filter_nil]
def fx{S:Nat->Bool}{n i:Nat}:i∈idx S n↔i<n/\S i=true:=by unfold idx;rw[List.mem_filter,List.mem_range]
theorem I7(S:Nat->Bool):∀(k i lo:Nat),lo<=i->Up (i+k) lo ((List.range' i k).filter S)
 |0,_,_,_=>trivial|k+1,i,lo,h=>by rw[List.range'_succ,List.filter_cons];have ih:=λlo h=>I7 S k (i+1) lo h;rw[show i+(k+1)=i+1+k by omega];by_cases hs:S i=true;rw[if_pos hs];exact⟨h,by omega,ih (i+1) (by omega)⟩;rw[if_neg hs];exact ih lo (by omega)
def Me(S:Nat->Bool)(n:Nat):Up n 0 (idx S n):=by have:=I7 S n 0 0 ν;rwa[Nat.zero_add,<-wC]at this
theorem FV{b b':Nat}(hb:b<=b'):∀(l:List Nat)(lo:Nat),Up b lo l->Up b' lo l
 |[],_,_=>trivial|i::l,lo,h=>⟨h.1,by have:=h.2.1;omega,FV hb l (i+1) h.2.2⟩
def GN{S:Nat->Bool}{n i:Nat}:(i:Int)∈ints (idx S n)↔i<n/\S i=true:=by
 unfold ints;rw[List.mem_map];constructor;rintro⟨j,hj,e⟩;obtain rfl:j=i:=by omega
 exact fx.1 hj;exact λh=>⟨i,fx.2 h,rfl⟩
theorem Ge(S:Nat->Bool)(ts:List B)(n:Nat):∀i,i<=n->ag (ints (idx S n)) ts i=(idx S i).map λj=>ts.getD j []
 |0,_=>rfl|i+1,h=>by rw[ag,lH,List.map_append,Ge S ts n i (by omega)];by_cases hs:S i=true;rw[if_pos (GN.2 ⟨by omega,hs⟩),if_pos hs];rfl;rw[if_neg (λhh=>hs (GN.1 hh).2),if_neg hs];simp
theorem jX(f:B->B)(S:Nat->Bool)(ts:List B)(n:Nat):∀i,i<=n->kept f (ints (idx S n)) ts i=(idx (λj=> !S j) i).map λj=>f (ts.getD j [])
 |0,_=>rfl|i+1,h=>by rw[kept,lH,List.map_append,jX f S ts n i (by omega)];by_cases hs:S i=true;rw[if_pos (GN.2 ⟨by omega,hs⟩),if_neg (by simp[hs])];simp;rw[if_neg (λhh=>hs (GN.1 hh).2),if_pos (by simpa using hs)];rfl
theorem YT(n:Nat):∀(is:List Nat)(lo:Nat),Up n lo is->ef n lo (ints is)=0
 |[],_,_=>rfl|i::is,lo,h=>by obtain⟨h1,h2,h3⟩:=h;have ih:=YT n is (i+1) h3;show ef n lo ((i:Int)::ints is)=0;rw[ef,if_neg (by omega),if_neg (by omega)];exact ih
def acb(S:Nat->Bool)(n:Nat)(h0:S 0=true)(hn:0<n):chk n (ints (idx S n))=0:=by unfold chk;rw[if_neg (by rw[show(0:Int)=((0:Nat):Int)from rfl,YT n _ 0 (Me S n)];simp)];obtain⟨m,rfl⟩:∃m,n=m+1:=⟨n-1,by omega⟩;rw[wC,List.range'_succ,List.filter_cons,if_pos h0];rfl
theorem uj(S:Nat->Bool)(g:Nat->B):∀(k i j:Nat),(((List.range' i k).filter S).zip (((List.range' i k).filter S).map g)).lookup j=if i<=j/\j<i+k/\S j=true then some (g j)else none
 |0,i,j=>by rw[if_neg (by omega)];rfl|k+1,i,j=>by
  have ih:=uj S g k (i+1) j;rw[List.range'_succ,List.filter_cons];by_cases hs:S i=true;rw[if_pos hs,List.map_cons,List.zip_cons_cons,List.lookup_cons];by_cases hj:j=i;subst hj;rw[if_pos ⟨by omega,by omega,hs⟩];simp;have:(j==i)=false:=by simpa using hj
  rw[this];simp only[ih];by_cases hc:i+1<=j/\j<i+1+k/\S j=true;rw[if_pos hc,if_pos ⟨by omega,by omega,hc.2.2⟩];rw[if_neg hc,if_neg λhh=>hc ⟨by omega,by omega,hh.2.2⟩];rw[if_neg hs,ih];by_cases hc:i+1<=j/\j<i+1+k/\S j=true;rw[if_pos hc,if_pos ⟨by omega,by omega,hc.2.2⟩];rw[if_neg hc,if_neg λhh=>hc ⟨by rcases Nat.lt_or_ge i j with h|h;omega;exact absurd (by rw[show i=j by omega];exact hh.2.2) hs,by omega,hh.2.2⟩]
def Nz(S:Nat->Bool)(g:Nat->B)(n j:Nat):((idx S n).zip ((idx S n).map g)).lookup j=if j<n/\S j=true then some (g j)else none:=by rw[wC,uj];by_cases hc:j<n/\S j=true;rw[if_pos hc,if_pos ⟨by omega,by omega,hc.2⟩];rw[if_neg hc,if_neg λhh=>hc ⟨by omega,hh.2.2⟩]
theorem Ct{f:B->B}{P:List B}{S p:Nat->Bool}{ts:List B}{sl:List (Nat×B)}(hH:∀j,j<ts.length->S j=false->sY f P (f (ts.getD j []))=if p j then [ts.getD j []]else []) (hL:∀j,j<ts.length->sl.lookup j=if S j then some (ts.getD j [])else none):∀(k i:Nat),i+k<=ts.length->fill f P sl k i (((List.range' i k).filter λj=> !S j).map λj=>f (ts.getD j []))=((List.range' i k).map (λj=>if S j || p j then ts.getD j []else []),(List.range' i k).filter λj=> !(S j || p j))
 |0,_,_=>rfl|k+1,i,h=>by have ih:=Ct hH hL k (i+1) (by omega);rw[List.range'_succ,List.filter_cons,List.filter_cons,List.map_cons,fill,hL i (by omega)];cases hs:S i with|true=>simp only[Bool.not_true,Bool.false_eq_true,if_false,if_true,Bool.true_or,ih]|false=>simp only[Bool.not_false,if_true,Bool.false_eq_true,if_false,Bool.false_or,List.map_cons,List.headD_cons,List.tail_cons,hH i (by omega) hs];cases p i with|true=>simp only[if_true,ih,Bool.not_true,Bool.false_eq_true,if_false]|false=>simp only[Bool.false_eq_true,if_false,ih,Bool.not_false,if_true]
def pU(ts:List B):(List.range ts.length).map (λj=>ts.getD j [])=ts:=by apply List.ext_getElem?;intro i;by_cases hi:i<ts.length;simp[hi,List.getElem?_eq_getElem hi];simp[hi]
def asked(S p:Nat->Bool)(n:Nat):List Nat:=idx (λj=> !(S j || p j)) n
def there(S p:Nat->Bool)(ts:List B):List B:=(List.range ts.length).map λj=>if S j || p j then ts.getD j []else []
def Rk{S p:Nat->Bool}{ts:List B}(h:asked S p ts.length=[]):there S p ts=ts:=by
 rw[show there S p ts=(List.range ts.length).map (λj=>ts.getD j [])from ?_,pU];unfold there;apply List.map_congr_left;intro j hj;have:j∉asked S p ts.length:=by rw[h];simp
 unfold asked at this;rw[fx]at this;have hc:(S j || p j)=true:=by cases hx:(S j || p j)with|true=>rfl|false=>exact absurd ⟨List.mem_range.1 hj,by simp[hx]⟩ this
 rw[if_pos hc]
def EB(h n t:B):(short h n t).length=6:=aY _ _
def tell(h nc:B)(S:Nat->Bool)(ts:List B):B:=En.bytes h nc (kept (short h nc) (ints (idx S ts.length)) ts ts.length) (ints (idx S ts.length)) (ag (ints (idx S ts.length)) ts ts.length)
def qu(h:B)(nonce:UInt64)(S:Nat->Bool)(ts:List B)(hh:h.length=80)(h0:0<ts.length)(h1:ts.length<=16)(ha:∀t∈ts,Sd.Tx t)(hS:S 0=true):encode (h++(UInt8.ofNat ts.length::ts.flatten)) nonce (ints (idx S ts.length))=(tell h (low nonce.toNat 8) S ts,0):=by unfold encode;rw[CN h ts hh h0 h1 ha];dsimp only;rw[if_neg (by rw[acb S _ hS h0];simp)];rfl
theorem ze(S:Nat->Bool):∀n,(idx S n).length+(idx (λj=> !S j) n).length=n
 |0=>rfl|n+1=>by have:=ze S n;rw[lH,lH,List.length_append,List.length_append];cases S n<;>simp<;>omega
def dY{ts:List B}{j:Nat}(hj:j<ts.length):ts.getD j []∈ts:=by rw[List.getD_eq_getElem?_getD,List.getElem?_eq_getElem hj];exact List.getElem_mem hj
def SU(S:Nat->Bool)(n:Nat):(idx S n).Nodup:=List.Nodup.sublist List.filter_sublist List.nodup_range
theorem Fb{g:Nat->B}:∀ {l:List Nat},l.Nodup->(∀i∈l,∀j∈l,g i=g j->i=j)->(l.map g).Nodup
 |[],_,_=>List.nodup_nil|x::l,h,hg=>by rw[List.nodup_cons]at h;rw[List.map_cons,List.nodup_cons];refine⟨λhm=>?_,Fb h.2 λi hi j hj=>hg i (List.mem_cons_of_mem _ hi) j (List.mem_cons_of_mem _ hj)⟩;obtain⟨y,hy,e⟩:=List.mem_map.1 hm;have:=hg y (List.mem_cons_of_mem _ hy) x List.mem_cons_self e;subst this;exact h.1 hy
def Rl(h nc:B)(S:Nat->Bool)(ts:List B)(hh:h.length=80)(hn:nc.length=8)(h0:0<ts.length)(h1:ts.length<=16)(ha:∀t∈ts,Sd.Tx t):b9 (tell h nc S ts)=.ok ⟨h,nc,(idx (λj=> !S j) ts.length).map (λj=>short h nc (ts.getD j [])),(idx S ts.length).zip ((idx S ts.length).map λj=>ts.getD j [])⟩ []:=by have h2:=ze S ts.length;unfold tell;rw[Ge S ts _ _ ν,jX _ S ts _ _ ν];refine Ht h nc _ _ _ hh hn (λs hs=>?_) (by simp) (λt ht=>?_) (by rw[List.length_map];omega) (by rw[List.length_map];omega) (FV (by rw[List.length_map];omega) _ _ (Me S ts.length));obtain⟨j,_,rfl⟩:=List.mem_map.1 hs;exact EB _ _ _;obtain⟨j,hj,rfl⟩:=List.mem_map.1 ht;exact ha _ (dY (fx.1 hj).1)
def nU{P:List B}{h nc:B}{S p:Nat->Bool}{ts:List B}(hh:h.length=80)(hn:nc.length=8)(h0:0<ts.length)(h1:ts.length<=16)(ha:∀t∈ts,Sd.Tx t) (hi:∀i j,i<ts.length->j<ts.length->S i=false->S j=false->short h nc (ts.getD i [])=short h nc (ts.getD j [])->i=j) (hH:∀j,j<ts.length->S j=false->sY (short h nc) P (short h nc (ts.getD j []))=if p j then [ts.getD j []]else []):compact P (tell h nc S ts)=if asked S p ts.length=[]then(finish h ts,0,idle)else((1,request h (asked S p ts.length)),0,⟨h,there S p ts,asked S p ts.length⟩):=by
 have hr:=Rl h nc S ts hh hn h0 h1 ha;have hnd:((idx (λj=> !S j) ts.length).map λj=>short h nc (ts.getD j [])).Nodup:=Fb (SU _ _) λi KH j hj e=>hi i j (fx.1 KH).1 (fx.1 hj).1 (by simpa using(fx.1 KH).2) (by simpa using(fx.1 hj).2) e;have hf:=Ct hH (sl:=(idx S ts.length).zip ((idx S ts.length).map λj=>ts.getD j [])) (λj hj=>by rw[Nz];by_cases hs:S j=true<;>simp[hs,hj]) ts.length 0 (by omega);rw[<-List.range_eq_range']at hf;have h2:=ze S ts.length;have hx:fill (short h nc) P ((idx S ts.length).zip ((idx S ts.length).map λj=>ts.getD j [])) (((idx (λj=> !S j) ts.length).map λj=>short h nc (ts.getD j [])).length+((idx S ts.length).zip ((idx S ts.length).map λj=>ts.getD j [])).length) 0 ((idx (λj=> !S j) ts.length).map λj=>short h nc (ts.getD j []))=(there S p ts,asked S p ts.length):=by rw[show((idx (λj=> !S j) ts.length).map λj=>short h nc (ts.getD j [])).length+((idx S ts.length).zip ((idx S ts.length).map λj=>ts.getD j [])).length=ts.length by rw[List.length_map,List.length_zip,List.length_map];omega];exact hf
 rw[CE hr hnd];unfold ix;dsimp only;rw[hx];dsimp only;by_cases hk:asked S p ts.length=[];rw[if_pos hk,if_pos hk,Rk hk];rw[if_neg hk,if_neg hk]
def Gs(h:B)(is:List Nat)(h0:0<is.length)(h1:is.length<=16)(hu:Up 16 0 is):dp (request h is)=.ok (Mk.ak h,is) []:=by
 have e:request h is=Mk.ak h++(UInt8.ofNat is.length::((dx ((0:Nat):Int) (ints is)).flatten++[])):=by unfold request;rw[mZ _ (by omega)];simp only[List.append_assoc,List.append_nil,List.cons_append,List.nil_append];rfl
 unfold dp;rw[e,ah.eF _ _ 32 (Mk.ec h),R.aN,ah.et 1 16 _ _ h0 h1 (by omega),R.aN,uy 16 (by omega) is 0 [] hu];rfl
theorem JY(ts:List B):∀(is:List Nat),(∀i∈is,i<ts.length)->pick ts is=some (is.map λj=>ts.getD j [])
 |[],_=>rfl|i::is,h=>by rw[pick,if_neg (by have:=h i List.mem_cons_self;omega),JY ts is λj hj=>h j (List.mem_cons_of_mem _ hj)];rfl
def served(h:B)(us:List B):B:=Mk.ak h++(UInt8.ofNat us.length::us.flatten)
def Jo{h:B}{ts:List B}{is:List Nat}(hh:h.length=80)(h0:0<is.length)(hu:Up ts.length 0 is)(h2:is.length<=16)(h1:ts.length<=16)(LY:0<ts.length)(ha:∀t∈ts,Sd.Tx t)(aM:∀i∈is,i<ts.length):En.serve (h++(UInt8.ofNat ts.length::ts.flatten)) (request h is)=(served h (is.map λj=>ts.getD j []),0):=by unfold En.serve;rw[CN h ts hh LY h1 ha,Gs h is h0 h2 (FV h1 _ _ hu)];dsimp only;rw[if_neg (λe=>e rfl),JY ts is aM];dsimp only;rw[mZ _ (by rw[List.length_map];omega)];rfl
theorem PJ(g:Nat->B):∀(is:List Nat)(ts:List B)(j:Nat),(put ts is (is.map g)).getD j []=if j∈is/\j<ts.length then g j else ts.getD j []
 |[],ts,j=>by simp[put]|i::is,ts,j=>by rw[List.map_cons,put,PJ g is (ts.set i (g i)) j,List.length_set];by_cases hj:j∈is/\j<ts.length;rw[if_pos hj,if_pos ⟨List.mem_cons_of_mem _ hj.1,hj.2⟩];rw[if_neg hj];by_cases aR:j=i;subst aR;by_cases aM:j<ts.length;rw[if_pos ⟨List.mem_cons_self,aM⟩,List.getD_eq_getElem?_getD,List.getElem?_set_self aM];rfl;rw[if_neg λhh=>aM hh.2,List.getD_eq_getElem?_getD,List.getD_eq_getElem?_getD,List.getElem?_eq_none (by rw[List.length_set];omega),List.getElem?_eq_none (by omega)];rw[nF (Ne.symm aR),if_neg λhh=>(by rcases List.mem_cons.1 hh.1 with e|hm;exact aR e;exact hj ⟨hm,hh.2⟩)]
def Sr(S p:Nat->Bool)(ts:List B)(g:Nat->B):put (there S p ts) (asked S p ts.length) ((asked S p ts.length).map g)=(List.range ts.length).map λj=>if S j || p j then ts.getD j []else g j:=by
 have hl:(there S p ts).length=ts.length:=by simp[there]
 apply List.ext_getElem;rw[gh,hl];simp;intro j h1 h2;rw[gh,hl]at h1;have:=PJ g (asked S p ts.length) (there S p ts) j;rw[List.getD_eq_getElem?_getD,List.getElem?_eq_getElem (by rw[gh,hl];exact h1)]at this;rw[Option.getD_some]at this;rw[this,hl];have ht:(there S p ts).getD j []=if S j || p j then ts.getD j []else []:=by unfold there;rw[List.getD_eq_getElem?_getD];simp[h1]
 have hm:j∈asked S p ts.length↔ ¬(S j || p j)=true:=by unfold asked;rw[fx];simp[h1]
 simp only[List.getElem_map,List.getElem_range];by_cases hc:(S j || p j)=true;rw[if_neg λhh=>hm.1 hh.1 hc,if_pos hc,ht,if_pos hc];rw[if_pos ⟨hm.2 hc,h1⟩,if_neg hc]
def Gt{h:B}{S p:Nat->Bool}{ts:List B}{g:Nat->B}(hk:asked S p ts.length≠ [])(h1:ts.length<=16)(ha:∀j∈asked S p ts.length,Sd.Tx (g j)):dL ⟨h,there S p ts,asked S p ts.length⟩ (served h ((asked S p ts.length).map g))=(finish h ((List.range ts.length).map λj=>if S j || p j then ts.getD j []else g j),0,idle):=by
 have h0:0< (asked S p ts.length).length:=List.length_pos_iff.2 hk;have h2:(asked S p ts.length).length<=16:=by have:(asked S p ts.length).length<=(List.range ts.length).length:=List.length_filter_le _ _;rw[List.length_range]at this;omega
 have hr:=Aq (Mk.ak h) ((asked S p ts.length).map g) (Mk.ec h) (by rw[List.length_map];exact h0) (by rw[List.length_map];exact h2) λt ht=>by obtain⟨j,hj,rfl⟩:=List.mem_map.1 ht;exact ha j hj
 unfold dL served;rw[hr];dsimp only;rw[if_neg hk,if_neg (λe=>e rfl),if_neg (by rw[List.length_map];exact λe=>e rfl),Sr]
def uM{h:B}{ts:List B}(hr:(Mk.root (ts.map Mk.ak) false).2=true∨(Mk.root (ts.map Mk.ak) false).1≠(h.drop 36).take 32):finish h ts=(3,[]):=by unfold finish;rw[if_pos hr]
def key(h nc:B)(d:B):UInt64:=cC.Mr (yL (aQ.sum (h++nc))) (yK (aQ.sum (h++nc))) d
def qJ(h nc t:B):short h nc t=IL (key h nc (Mk.ak t)):=rfl
def Rv{x y:UInt64}(h:IL x=IL y):shl x 16=shl y 16:=by
 unfold IL at h;have h1:=congrArg cC.jz h;rw[P8,P8]at h1;apply UInt64.toNat_inj.1;unfold shl;rw[UInt64.toNat_ofNat',UInt64.toNat_ofNat'];have e2:(2:Nat)^ (8*6)=281474976710656:=by decide
 rw[e2]at h1;omega
def Apart(h nc:B)(k:Nat)(all:List B):Prop:=∀i j,j<i->i<all.length->(all.getD i []=all.getD j []->k<=i)/\(all.getD i []≠all.getD j []->shl (key h nc (all.getD i [])) 16≠shl (key h nc (all.getD j [])) 16)
def Apart.IL{h nc:B}{k:Nat}{all:List B}(H:Apart h nc k all){d e:B}(hd:d∈all)(he:e∈all)(hs:En.IL (key h nc d)=En.IL (key h nc e)):d=e:=by
 obtain⟨i,hi,rfl⟩:=List.mem_iff_getElem.1 hd;obtain⟨j,hj,rfl⟩:=List.mem_iff_getElem.1 he;have e1:all.getD i []=all[i]:=by rw[List.getD_eq_getElem?_getD,List.getElem?_eq_getElem hi];rfl
 have e2:all.getD j []=all[j]:=by rw[List.getD_eq_getElem?_getD,List.getElem?_eq_getElem hj];rfl
 have hk:=Rv hs;apply Classical.byContradiction;intro bZ;rcases Nat.lt_trichotomy i j with h1|h1|h1;have:=(H j i h1 hj).2;rw[e1,e2]at this;exact this (Ne.symm bZ) hk.symm;subst h1;exact bZ rfl;have:=(H i j h1 hi).2;rw[e1,e2]at this;exact this bZ hk
def Apart.inj{h nc:B}{ids others:List B}(H:Apart h nc ids.length (ids++others)){i j:Nat}(hi:i<ids.length)(hj:j<ids.length)(e:ids.getD i []=ids.getD j []):i=j:=by
 have g:∀i,i<ids.length->(ids++others).getD i []=ids.getD i []:=λi hi=>by rw[List.getD_eq_getElem?_getD,List.getD_eq_getElem?_getD,List.getElem?_append_left hi]
 rcases Nat.lt_trichotomy i j with h1|h1|h1;have:=(H j i h1 (by rw[List.length_append];omega)).1 (by rw[g i hi,g j hj,e]);omega;exact h1;have:=(H i j h1 (by rw[List.length_append];omega)).1 (by rw[g i hi,g j hj,e]);omega
def filter_one{P:List B}{t:B}(hn:P.Nodup):P.filter (λu=>u==t)=if decide (t∈P)then [t]else []:=by
 induction P with
 |nil=>simp|cons u P ih=>
 rw[List.nodup_cons]at hn;rw[List.filter_cons,ih hn.2];by_cases hu:u=t;subst hu;simp[hn.1];have:(u==t)=false:=by simpa using hu
 rw[this];have e:(t∈u::P)↔t∈P:=by rw[List.mem_cons];exact⟨λh=>h.resolve_left (Ne.symm hu),.inr⟩
 simp[e,Ne.symm hu]
def Vg{P:List B}(h:Pl.Up Mk.ak P):P.Nodup:=List.Pairwise.imp (λ{a b} DU e=>by subst e;exact Pl.vX _ DU) h
def Tu{f:B->B}{P:List B}{t:B}(oZ:Pl.Up Mk.ak P)(hf:∀u∈P,f u=f t->Mk.ak u=Mk.ak t)(hd:∀u∈P,Mk.ak u=Mk.ak t->u=t):sY f P (f t)=if decide (Mk.ak t∈P.map Mk.ak)then [t]else []:=by unfold sY;rw[List.filter_congr (q:=λu=>u==t) λu hu=>?_,filter_one (Vg oZ)];have:t∈P↔Mk.ak t∈P.map Mk.ak:=⟨λh=>List.mem_map.2 ⟨t,h,rfl⟩,λh=>by obtain⟨u,hu,e⟩:=List.mem_map.1 h;have:=hd u hu e;subst this;exact hu⟩;simp only[this];rw[Bool.eq_iff_iff,beq_iff_eq,beq_iff_eq];exact⟨λe=>hd u hu (hf u hu e),λe=>by rw[e]⟩
end Hn
end
section
open bd Go.Conc
open Go.RowKit
open Ph (cb cl cr ci co aq aF ba cR gN nK cG gM eh uX de)
open Tp (bG bo bE bt bR fB eO gu bW cE dK eN ew mo FH FF)
namespace Al
def ts:List (List UInt8):=[ah.tx 1,ah.tx 2]
def b:List UInt8:=ah.blk ts 3
def c:List UInt8:=(En.encode b 5 [0,1]).1
def arI:ah.Good ts:=λt ht=>by have h:∀x,(ah.tx x).length<=610/\∃r,Wr.cV (ah.tx x)=.ok (ah.tx x) r:=λx=>⟨Mp.nZ (ah.vv x),_,ah.vv x⟩;rcases List.mem_cons.1 ht with rfl|ht;exact h 1;rw[List.mem_singleton.1 ht];exact h 2
def twins:(Mk.root (ts.map Mk.ak) false).2=false:=by decide +kernel
def enc:(En.encode b 5 [0,1]).2=0:=by decide +kernel
def cpt:(Cp.compact [] c).1=(2,b)/\(Cp.compact [] c).2.1=0/\c.length<=5000/\b.length<=5000:=by decide +kernel
noncomputable def sfr:Frame:={(default:Frame)with fn:=13,kind:=.normal}
def fn:prog.funcs[13]? =some Tryz.f13:=func13
noncomputable def QM:Code:=cb Tryz.f13
def enter:Frame.enter prog 13 #[] .normal=sfr.at ⟨List.toArray (undef::undef::undef::undef::undef::undef::undef::undef::undef::undef::undef::undef::undef::undef::undef::undef::undef::undef::undef::undef::undef::undef::undef::undef::undef::undef::undef::undef::undef::undef::undef::undef::undef::undef::undef::undef::undef::undef::undef::undef::undef::undef::undef::undef::undef::undef::undef::undef::undef::undef::undef::undef::undef::[]),[]⟩ [.code QM]:=by unfold Frame.enter;rw[func13];kernel_rfl
noncomputable def Q1:Code:=cr QM
noncomputable def Q2:Code:=cr Q1
noncomputable def Q3:Code:=cr Q2
noncomputable def Q4:Code:=cr Q3
noncomputable def Q5:Code:=cr Q4
noncomputable def Q6:Code:=cr Q5
def hQ0:QM=.seq (cl QM) Q1:=rfl
def hQ1:Q1=.seq (cl Q1) Q2:=rfl
def hQ2:Q2=.seq (cl Q2) Q3:=rfl
def hQ3:Q3=.seq (cl Q3) Q4:=rfl
def hQ4:Q4=.seq (cl Q4) Q5:=rfl
def hQ5:Q5=.seq (cl Q5) Q6:=rfl
end Al
def Ij(w:World)(hT:cH w):fB prog 13 #[] w λv w'=>v=.bool true/\Ph.fU w.heap.size w w':=by
 intro cx cs Stop K;have KK:=η K;have HT:=η hT;have gY:=hT.lt;clear hT K;rw[Al.enter];refine bW bo (cE λU2 n0=>?_);have B0:=η (show Ph.fU w.heap.size w (w.re U2 n0)from⟨rfl,rfl,ν,λ_ _=>rfl⟩);have T0:=η (show cH (w.re U2 n0)from HT.o.dZ B0.o gY);have U1:=η (show w.heap.size=(w.re U2 n0).heap.size from rfl);have TJ:1< (w.re U2 n0).heap.size:=gY;generalize w.re U2 n0=w0 at B0 T0 U1 TJ|-;have TX9:=η (λv=>px 1 v (by omega));have TY9:=η (λv=>px 2 v (by omega));have BK:=η (λ(u:World) (v:Value) (hTu:cH u) (hv:gA u v Al.ts)=>oy Al.ts v 3 u hTu hv Al.arI (by decide) (by decide));rw[show ah.blk Al.ts 3=Al.b from rfl,show ah.ids Al.ts=Al.ts.map Mk.ak from rfl,Al.twins]at BK;have CP:=Al.cpt;have EN:=η (λ(u:World) (v:Value) (hTu:cH u) (hv:du u v [0,1])=>gK Al.b 5 v [0,1] u hTu (Nat.le_trans CP.2.2.2 (by decide)) hv (by decide) (λi hi=>by
 match i,hi with
 |0,_=>exact⟨by decide,by decide⟩
 |1,_=>exact⟨by decide,by decide⟩
 |n+2,h=>exact absurd h (by simp)))
 rw[show En.encode Al.b 5 [0,1]=(Al.c,0)from Prod.ext rfl Al.enc]at EN;have LY:Al.ts=[ah.tx 1,ah.tx 2]:=rfl;rw[LY]at BK;generalize ah.tx 1=t1 at TX9 BK;generalize ah.tx 2=t2 at TY9 BK;clear LY;refine aq Al.hQ0 (aF (c':=.region _ _ _) rfl ?_);go_wp2_with fail;show bE _ _ _ _ _;refine aq Al.hQ1 (aF (c':=.region _ _ _) rfl ?_);go_wp2_with fail;refine(TX9.o _).mono ?_;clear TX9;rintro e wa⟨rfl,TD⟩;have Ba:=η TD;clear TD;go_wp2_with fail;refine(TY9.o _).mono ?_;clear TY9;rintro e wb⟨rfl,hbb⟩;have Bb:=η (Ba.o.trans (hbb.mono Ba.o.size));clear hbb Ba;go_wp2_with fail;have RS:=Row.new wb [.string (str t1),.string (str t2)] 9;rw[show([Value.string (str t1),.string (str t2)]).toArray=#[Value.string (str t1),.string (str t2)]from rfl]at RS;have Bc:=η (Bb.o.alloc Bb.o.size (.cells #[.string (str t1),.string (str t2)] 9));clear Bb;generalize wb.alloc _=wc at Bc RS|-;generalize wb.heap.size=G at RS|-;have TXc:gA wc (.slice (some ⟨G,0,none⟩) 2 2) [t1,t2]:=.inr ⟨G,0,2,rfl,RS.lt,λj hj=>by
 rw[RS.cell];match j,hj with
 |0,_=>rfl
 |1,_=>rfl
 |n+2,h=>exact absurd h (by simp)⟩
 refine(BK.o wc _ (T0.o.below Bc.o TJ) TXc).mono ?_;clear BK TXc RS;rintro e wd⟨iv,rfl,_,hbd⟩;have Bd:=η (Bc.o.trans (hbd.mono Bc.o.size));clear hbd Bc;go_wp2_with fail;show bE _ _ _ _ _;have T4:=η (Bt wd);refine aq Al.hQ2 (aF (c':=.region _ _ _) rfl ?_);go_wp2_with fail;refine T4.o.mono ?_;clear T4;rintro e w4⟨r,m,rfl,hr,hmp,hrw,hmw,XD,mN⟩;have hzd:=Bd.o.size;have NL:=mN.size;have h1d:1<wd.heap.size:=by omega
 have TBd:=η (T0.o.below Bd.o TJ);have U4:=η (show o9 wd w4 r m w4.heap.size [] Cp.idle from⟨.inl ⟨rfl,hr⟩,hmp,Ph.fU.of mN,(λt ht=>by cases ht),Sd.wG,XD,hrw,hmw,hr.lt,hmp.lt⟩);clear hr hmp mN;go_wp2_with fail;show bE _ _ _ _ _;refine aq Al.hQ3 (aF (c':=.seq (.region _ _ _) (.cond _ _ _)) rfl ?_);go_wp2_with fail;show bE _ _ _ _ _;refine aq Al.hQ4 (aF (c':=.region _ _ _) rfl ?_);go_wp2_with fail;have L7:=(Below.refl w4.heap.size w4).alloc ν (.cells #[.int .i64 0,.int .i64 1] 3);have RZ:=Row.new w4 [.int .i64 0,.int .i64 1] 3;rw[show([Value.int .i64 0,.int .i64 1]).toArray=#[Value.int .i64 0,.int .i64 1]from rfl]at RZ;have Ue:=η (U4.o.below L7);clear L7 U4;generalize w4.alloc _=we at Ue RZ|-;generalize w4.heap.size=G at RZ Ue|-;have ZF:du we (.slice (some ⟨G,0,none⟩) 2 2) [0,1]:=.inr ⟨G,0,2,rfl,RZ.lt,λj hj=>by
 rw[RZ.cell];match j,hj with
 |0,_=>rfl
 |1,_=>rfl
 |n+2,h=>exact absurd h (by simp)⟩
 rw[show(U 5:Int)=5 from rfl]at EN;refine(EN.o we _ (TBd.o.dZ Ue.o.dZ h1d) ZF).mono ?_;clear EN ZF RZ;rintro e wf⟨rfl,Yg⟩;have Uf:=η (Ue.o.below Yg);clear Yg Ue;dsimp only[Ih];rw[show((0:Nat):Int)=0 from rfl];go_wp2_with fail;show bE _ _ _ _ _;obtain⟨va,vb,vc,bQ⟩:=Uf.o.row;have CB:=fb Al.c [] r m va vb vc wf (TBd.o.dZ Uf.o.dZ h1d) (Nat.le_trans CP.2.2.1 (by decide)) (by omega) bQ Uf.o.map XD.symm (λt ht=>by cases ht);rw[CP.1,CP.2.1]at CB;dsimp only at CB;have zE:=η Uf.o.dZ;have hrf:=bQ.lt;clear Uf bQ CP;generalize Al.c=cc at CB|-;generalize Al.b=bb at CB|-;refine aq Al.hQ5 (eh 2 [2,3,4,5,6,7,8] rfl rfl (by decide) ?_);show wpList _ _ _ [_,_] _ _;go_wp2_with fail;show bE _ _ _ _ _;refine FH (R:=λv w'=>v=.bool true/\Ph.fU w.heap.size w w') bo Al.fn rfl rfl KK.o (i:=2) (rest:=[3,4,5,6,7,8]) rfl rfl (L2:=[_,_,_,_,_,_]) rfl CB (λ_ _=>by kernel_rfl) ?_;rintro v wg τ1 n1⟨rfl,_,kq⟩;clear CB KK;have u6:=η (show Ph.fU wd.heap.size wd (wg.re τ1 n1)from by have hz:=zE.o.size;exact zE.o.trans ⟨kq.os,kq.output,kq.size,λk hk=>kq.block k (by omega) (by omega)⟩);clear kq zE;generalize wg.re τ1 n1=pn at u6|-;show wpList _ _ _ [⟨some 35,.move (.tmp 38),_,_,_,none⟩,⟨some 39,.extract (.tmp 35) 0,_,_,_,none⟩,⟨some 40,.extract (.tmp 35) 1,_,_,_,none⟩,⟨some 8,.alloc _,_,_,_,none⟩,⟨none,.store _ (.tmp 8) (.tmp 39),_,_,_,none⟩,⟨some 9,.assign (.tmp 40),_,_,_,none⟩] _ _;rw[show(an 2 bb).toArray=#[Value.int .i64 2,.string (str bb)]from rfl];rw[show((0:Nat):Int)=0 from rfl];go_wp2_with fail;have RA:=Row.new pn (an 2 bb) 49;have uG:=(Below.refl pn.heap.size pn).alloc ν (.cells (an 2 bb).toArray 49);rw[show(an 2 bb).toArray=#[Value.int .i64 2,.string (str bb)]from rfl]at RA uG;have FO:=η (u6.o.trans ((Ph.fU.of uG).mono u6.o.size));clear uG u6;generalize pn.alloc _=wh at RA FO|-;generalize pn.heap.size=A at RA|-;show Code.wp _ (.seq (.region _ _ _) .ret) _ _ _;go_wp2_with (first|(with_reducible refine aW (d:=some 48) (by kernel_rfl) ?_)|(with_reducible refine aW (d:=some 50) (by kernel_rfl) ?_)|(with_reducible refine aW (d:=some 51) (by kernel_rfl) ?_)|(with_reducible refine bU (o:=⟨some 48,_,_,_,_,_⟩) rfl _ _ rfl A (an 2 bb) rfl RA _ underlying49 (aO.trans rfl) _ rfl ?_)|(with_reducible refine wT (o:=⟨some 50,_,_,_,_,_⟩) rfl _ _ rfl 2 bb rfl rfl ?_)|(with_reducible refine Sd.mu (o:=⟨some 51,_,_,_,_,_⟩) rfl _ _ _ rfl 2 bb rfl rfl ?_));refine Tp.ae9 (results_tmp rfl _ _ _) rfl ⟨rfl,?_⟩;exact(B0.o.trans ((Ph.fU.of Bd.o).mono (by have:=U1.o;omega))).trans (FO.o.mono (by have:=U1.o;omega))
end
section
open bd
open Go.RowKit
namespace ah
def bit(m:Int)(i:Nat):Bool:=bits .and .i64 (m/2^min i 64) 1==1
def ui(m:Int)(i:Nat):Bool:=i==0 || bit m i
def ach(i:Nat):bit (-1) i=true:=by
 unfold bit;have h:(-1:Int) / 2^min i 64= -1:=by generalize min i 64=k;have hp:(0:Int)<2^k:=Int.pow_pos (by decide);show Int.negSucc 0/_=_;rw[Int.negSucc_ediv 0 hp];have:Int.ediv ((0:Nat):Int) (2^k)=0:=Int.zero_ediv _;rw[this];rfl
 rw[h];decide +kernel
def zg(n:Nat):Hn.idx (ui (-1)) n=List.range n:=by unfold Hn.idx;rw[List.filter_eq_self];intro i _;unfold ui;rw[ach];simp
end ah
def yh(m:Int)(n:Nat)(w:World)(hm: -9223372036854775808<=m/\m<9223372036854775808)(hn:n<=100)(h0:0<n):Calls prog 26 #[.int .i64 m,.int .i64 n] w λe w'=>∃v,e=.returned v/\du w' v (Cp.ints (Hn.idx (ah.ui m) n))/\Below w.heap.size w w':=by
 obtain⟨i1,ZV,hq0,Tm,IQ⟩:=info_parts ny;have HI:=η ZV;clear ZV;go_enter func26,ntmps26;go_wp2_with fail;go_loopw [5,6] (λov iv wr=>∃i:Nat,i<=n/\1<=i/\iv=.int .i64 i/\wr.ownsRow w.heap.size 3 1 ov (Hn.idx (ah.ui m) i).length (sC (Hn.idx (ah.ui m) i))/\Below w.heap.size w wr) (λ_ iv _=>n-(intOf iv).toNat)
 exact⟨1,by omega,by omega,rfl,World.ownsRow_lit w #[.int .i64 0] 1 ν (by unfold maxLen;decide) rfl,(Below.refl _ _).alloc ν _⟩;obtain⟨i,hi,ZV,rfl,bY,hB⟩:=hrel;have HB:=η hB;have mH:=hB.size;have Ty:(Hn.idx (ah.ui m) i).length<=i:=by have:=List.length_filter_le (ah.ui m) (List.range i);rw[List.length_range]at this;exact this
 have EX:=η (Hn.lH (ah.ui m) i);generalize hl:Hn.idx (ah.ui m) i=l at bY Ty EX;have HO:=η bY;have HL:=η hl;clear hB bY hl;by_cases aM:i<n
 ·have p1:(i:Int)< (n:Int):=by omega
  by_cases hb:ah.bit m i=true
  ·have pf:(bits .and .i64 (m/2^min i 64) 1==1)=true:=hb;have E2:=η (show Hn.idx (ah.ui m) (i+1)=l++[i]by rw[EX.o,if_pos (by unfold ah.ui;rw[hb];simp)]);go_wp2_with (at_builtin;refine wpList_append_own _ rfl _ _ 25 rfl w.heap.size 3 i1 (.int .i64 0) 1 8 underlying25 HI.o hq0 Tm IQ rfl (by decide) _ _ _ rfl (HO.o.alloc _) ⟨wr.heap.size,0,none⟩ 1 1 [.int .i64 (i:Int)] rfl rfl (cell_one_new _ _ _) (λu hu=>by simp at hu;subst hu;rfl) (by unfold maxLen;omega) (by omega) (by rw[World.size_alloc];omega) ?_;intro Vd w3 cg dr _;have jI:Below w.heap.size wr w3:=((Below.refl w.heap.size wr).alloc mH _).grown dr (by rw[World.size_alloc];omega) (λk hk=>(HO.o.lt k hk).1);have H1:=η cg;have H2:=η jI;clear cg dr jI)
   go_roundw
   ·exact⟨i+1,by omega,by omega,by go_num,by rw[E2.o,<-tu,List.length_append];exact H1.o,HB.o.trans H2.o⟩
   simp[intOf];omega
  have pf:(bits .and .i64 (m/2^min i 64) 1==1)=false:=by simpa[ah.bit]using hb
  have E2:=η (show Hn.idx (ah.ui m) (i+1)=l by rw[EX.o,if_neg (by unfold ah.ui;simp[hb];omega)];simp);go_wp2_with fail;go_roundw
  ·exact⟨i+1,by omega,by omega,by go_num,by rw[E2.o];exact HO.o,HB.o⟩
  simp[intOf];omega
 obtain rfl:i=n:=by omega
 clear EX;go_wp2_with fail;go_ret;exact⟨_,rfl,by rw[HL.o];exact Ka HO.o,HB.o⟩
end
section
open Go.RowKit bd
def Aw(k l:UInt64)(s:List UInt8)(hs:s.length<=9223372036854775807)(w:World):Calls prog 33 #[.int .u64 (U k),.int .u64 (U l),.string (str s)] w λe w'=>e=.returned (.int .u64 (U (cC.Mr k l s)))/\Below w.heap.size w w':=by
 go_enter func33,ntmps33;go_wp2_with (go_at_call 67;refine(BV k l s hs _).mono ?_;rintro e w' ⟨rfl,hb⟩)
 go_ret;exact⟨rfl,hb⟩
def cC.aiC(b:UInt8)(l:List UInt8):cC.le (b::l)=shl (cC.le l) 8 ||| b.toUInt64:=by
 rw[cC.abb];apply UInt64.toNat_inj.1;have hb:=b.toNat_lt;have hx:=(cC.le l).toNat_lt;generalize cC.le l=x at hx;rw[UInt64.toNat_add,UInt64.toNat_mul,UInt64.toNat_or];have e1:(iY 256).toNat=256:=by decide +kernel
 have e2:(shl x 8).toNat=((x.toNat % 72057594037927936) <<< 8):=by unfold shl;rw[UInt64.toNat_ofNat',Nat.shiftLeft_eq];show x.toNat*256 % 18446744073709551616=_*256;omega
 have e3:b.toUInt64.toNat=b.toNat:=by simp
 rw[e1,e2,e3,<-Nat.shiftLeft_add_eq_or_of_lt (by omega),Nat.shiftLeft_eq];show(x.toNat*256 % 18446744073709551616+b.toNat) % 18446744073709551616=_*256+_;omega
def cC.NH(l:List UInt8)(k:Nat)(h:k<l.length):cC.le (l.drop k)=shl (cC.le (l.drop (k+1))) 8 |||(nth l k).toUInt64:=by rw[cC.drop_cons l k h,cC.aiC]
def sm(s:List UInt8)(hs:s.length<=9223372036854775807)(w:World):Calls prog 34 #[.string (str s)] w λe w'=>e=.returned (.int .u64 (U (cC.le s)))/\w=w':=by
 have h0:=η (show cC.le (s.drop s.length)=iY 0 by rw[List.drop_length];rfl);go_enter func34,ntmps34;go_wp2;go_loop [3,4] (λn i=>∃k:Nat,k<=s.length/\i=.int .i64 ((k:Int) - 1)/\n=.int .u64 (U (cC.le (s.drop k)))) (λ_ i=>(intOf i+1).toNat)
 ·exact⟨s.length,by omega,by go_num,by rw[h0.o];rfl⟩
 obtain⟨k,hk,rfl,rfl⟩:=hrel;by_cases h:0<k
 ·have hd:=η (cC.NH s (k-1) (by omega));go_wp2;go_round
  ·exact⟨k-1,by omega,by go_num,by rw[hd.o,show k-1+1=k by omega]⟩
  simp[intOf];omega
 go_wp2;go_ret;have:k=0:=by omega
 subst this;exact⟨rfl,rfl⟩
def Av(l:List UInt8)(w:World)(hT:cH w)(hm:l.length<=35184372088832):Calls prog 32 #[.string (str l)] w λe w'=>e=.returned (.string (str (aQ.sum l)))/\Below w.heap.size w w':=by
 have h1:=hT.lt;have hc:=Row.new w [.string (str l)] 9;have hB:=(Below.refl w.heap.size w).alloc ν (.cells #[.string (str l)] 9);have hZ:(w.alloc (.cells #[.string (str l)] 9)).heap.size=w.heap.size+1:=by simp
 have HT:=η hT;clear hT;go_enter func32,ntmps32;go_wp2_with fail;have TB:(w.alloc (.cells #[.string (str l)] 9)).cell? ⟨w.heap.size,0,none⟩=some (.string (str l)):=hc.cell 0;clear hc;generalize w.alloc _=w1 at TB hB hZ|-;refine(KC w.heap.size 1 l w1 (HT.o.below hB (by omega)) TB hm).mono ?_
 rintro e w2⟨rfl,Fu⟩;have ik:=Fu.size;obtain⟨IY,nz,KQ,Hg⟩:=Yz w2 (aQ.sum l) 76;rw[Tryz.nO]at IY nz KQ Hg;have il:=(hB.trans (Fu.mono (by omega))).trans (IY.mono (by omega:w.heap.size<=w2.heap.size));have C1:=η il;clear il hB Fu IY TB nz;go_wp2_with (first|(with_reducible refine fE (o:=⟨none,_,_,_,_,_⟩) rfl _ _ rfl w2.heap.size (List.replicate 32 0) (aQ.sum l) rfl (aQ.fQ _) rfl rfl Hg ?_)|(with_reducible refine eJ (o:=⟨some 8,_,_,_,_,_⟩) rfl _ _ _ _ rfl w2.heap.size 0 32 32 (aQ.sum l) (aQ.fQ _) rfl underlying35 underlying5 underlying9 KQ.bytes ?_));go_ret;exact⟨rfl,C1.o⟩
end
section
open bd
open Go.RowKit
theorem Ko(n:Nat):∀k,Wr.low n (k+1)=Wr.low n k++[UInt8.ofNat (n/256^k % 256)]
 |0=>by simp[Wr.low]|k+1=>by rw[Wr.low,Ko (n/256) k];show _=UInt8.ofNat (n % 256)::Wr.low (n/256) k++_;rw[List.cons_append,Nat.div_div_eq_div_mul,Nat.pow_succ,Nat.mul_comm 256]
def Y1(x:UInt64)(j:Nat):(shr x (8*j)).toUInt8=UInt8.ofNat (x.toNat/256^j % 256):=by
 apply UInt8.toNat_inj.1;have hp:(2:Nat)^ (8*j)=256^j:=by rw[Nat.pow_mul]
 have aM:x.toNat/256^j<18446744073709551616:=Nat.lt_of_le_of_lt (Nat.div_le_self _ _) x.toNat_lt;unfold shr;rw[UInt8.toNat_ofNat',UInt64.toNat_toUInt8,UInt64.toNat_ofNat',hp,Nat.mod_eq_of_lt aM];omega
def zG(a b:List (List UInt8)):wt a++wt b=wt (a++b):=by simp[wt]
def ug{w:World}{B n:Nat}{e:TypeId}{z:Nat}{v:Value}{xs:List Value}(h:w.ownsRow B e z v n xs)(h0:0<n):∃g c,v=.slice (some ⟨g,0,none⟩) n c/\n<=c:=by obtain⟨_,⟨_,h0'⟩|⟨g,cap,cur,rfl,hb,hg,zn,_,_,ht⟩⟩:=h;omega;exact⟨g,cap,rfl,zn⟩
def Oq{x y:UInt64}(h:(x==y)=false):x≠y:=by simpa using h
def Hn.Ok(h nc:List UInt8)(k i:Nat)(x y:List UInt8):Prop:=(x=y->k<=i)/\(x≠y->shl (Hn.key h nc x) 16≠shl (Hn.key h nc y) 16)
def qD(h:List UInt8)(nonce:UInt64)(iv ov:Value)(ids others:List (List UInt8))(w:World)(hT:cH w)(hi:gA w iv ids)(fP:0<ids.length) (ho:(ov=.slice none 0 0/\others=[])∨(gA w ov others/\0<others.length)) (hh:h.length=80) (Ty:ids.length<=16) (hol:others.length<=200) (ajG:∀x∈ids++others,x.length=32):Calls prog 18 #[.string (str h),.int .u64 (U nonce),iv,ov] w λe w'=>∃b:Bool,e=.returned (.bool b)/\(b=true->Hn.Apart h (Wr.low nonce.toNat 8) ids.length (ids++others))/\Below w.heap.size w w':=by
 obtain⟨i0,ajH,oL,kP,ik⟩:=info_parts oz;have HI:=η ajH;have HT:=η hT;have gY:=hT.lt;obtain⟨ib,io,ic,rfl,hib,hIP⟩:=hi.open fP;have IP:=η hIP;have H32:=η ajG;have TO:=η ho;obtain⟨oa,oc,hov⟩:∃a c,ov=.slice a others.length c:=by rcases ho with⟨rfl,rfl⟩|⟨h1,h2⟩;exact⟨_,_,rfl⟩;obtain⟨b,o,c,h3,_⟩:=h1.open h2;exact⟨_,_,h3⟩
 subst hov;clear ajH hT hi ho hIP ajG;go_enter func18,ntmps18;go_wp2_with fail;go_loopw [9,10,20] (λsv _ jv wr=>∃j:Nat,j<=8/\jv=.int .i64 j/\sv=.string (str (h++Wr.low nonce.toNat j))/\Below w.heap.size w wr) (λ_ _ jv _=>8-(intOf jv).toNat)
 exact⟨0,by omega,rfl,by simp[Wr.low],Below.refl _ _⟩;obtain⟨j,hj,rfl,rfl,hB⟩:=hrel;have HB:=η hB;have mH:=hB.size;clear hB;by_cases aM:j<8
 ·have p1:(j:Int)<8:=by omega
  have LS:=η (Ko nonce.toNat j);rw[<-Y1]at LS;have ll:=Wr.aY nonce.toNat j;generalize Wr.low nonce.toNat j=lo at LS ll;go_wp2_with fail;go_roundw
  ·exact⟨j+1,by omega,by go_num,by rw[LS.o],HB.o.alloc mH _⟩
  simp[intOf];omega
 obtain rfl:j=8:=by omega
 have ll:=Wr.aY nonce.toNat 8;generalize zn:Wr.low nonce.toNat 8=nc at ll;have HNC:=η zn;clear zn;have T1:=η (Av (h++nc) wr (HT.o.below HB.o gY) (by rw[List.length_append];omega));have d32:=aQ.fQ (h++nc);obtain⟨d,hd⟩:∃d,aQ.sum (h++nc)=d:=⟨_,rfl⟩;rw[hd]at T1 d32;have HD:=η hd;clear hd;go_wp2_with fail;refine T1.o.mono ?_;clear T1;rintro e w1⟨rfl,uI⟩;have B1:=η (HB.o.trans (uI.mono mH));have Ti:=B1.o.size;clear uI HB;have q32:(d.length:Int)=32:=by omega
 have src:∀(j:Nat)(u:Value),(wt ids)[j]? =some u->w1.cell? (Addr.add ⟨ib,io,none⟩ j)=some u:=Ez (λj hj=>(World.cell?_of_block (w:=w) (B1.o.block ib hib)).trans (IP.o j hj));go_upto_region 10 with fail;go_cut [12]from 38 to 41 (λav wx=>Below w.heap.size w wx/\wx.ownsRow w.heap.size 9 1 av (ids++others).length (wt (ids++others)))
 case first=>
  have SRC:=η src;clear src;rcases TO.o with⟨hov,hoe⟩|⟨hTx,cI⟩
  ·subst hoe;cases hov;go_wp2_with (first|(at_builtin;refine wpList_append_own_none rfl _ _ 28 rfl w.heap.size 9 i0 1 underlying28 HI.o _ _ _ rfl O2.o rfl ?_)|(at_builtin;refine wpList_append_own _ rfl _ _ 28 rfl w.heap.size 9 i0 (.string ByteArray.empty) 1 16 underlying28 HI.o oL kP ik rfl (by decide) _ 0 [] rfl (World.ownsRow_nil _ _ _ _) ⟨ib,io,none⟩ ids.length ic (wt ids) rfl (by rw[kV];omega) SRC.o (iz _) (by unfold maxLen;omega) (by omega) Ti ?_;intro v1 w2 nC KI _;have jI:Below w.heap.size w1 w2:=(Below.refl w.heap.size w1).grown KI Ti (λk hk=>by cases hk);rw[List.nil_append,Nat.zero_add]at nC;have O2:=η nC;have B2:=η (B1.o.trans jI);have oY:=B2.o.size;clear nC KI jI));go_meet;case rel=>exact⟨B2.o,by rw[List.append_nil];exact O2.o⟩
  obtain⟨ob,oo,oc',xO,Qp,hOP⟩:=hTx.open cI;cases xO;have OP:=η hOP;clear hOP hTx;go_wp2_with (first|(at_builtin;refine wpList_append_own _ rfl _ _ 28 rfl w.heap.size 9 i0 (.string ByteArray.empty) 1 16 underlying28 HI.o oL kP ik rfl (by decide) _ _ _ rfl O2.o ⟨ob,oo,none⟩ others.length oc (wt others) rfl (by rw[kV];omega) (Ez (λj hj=>(World.cell?_of_block (w:=w) (B2.o.block ob Qp)).trans (OP.o j hj))) (iz _) (by unfold maxLen;omega) (by omega) oY ?_;intro v3 w3 cg dr _;have aj9:Below w.heap.size w2 w3:=(Below.refl w.heap.size w2).grown dr oY (λk hk=>(O2.o.lt k hk).1);have O3:=η cg;have B3:=η (B2.o.trans aj9);clear cg dr aj9)|(at_builtin;refine wpList_append_own _ rfl _ _ 28 rfl w.heap.size 9 i0 (.string ByteArray.empty) 1 16 underlying28 HI.o oL kP ik rfl (by decide) _ 0 [] rfl (World.ownsRow_nil _ _ _ _) ⟨ib,io,none⟩ ids.length ic (wt ids) rfl (by rw[kV];omega) SRC.o (iz _) (by unfold maxLen;omega) (by omega) Ti ?_;intro v1 w2 nC KI _;have jI:Below w.heap.size w1 w2:=(Below.refl w.heap.size w1).grown KI Ti (λk hk=>by cases hk);rw[List.nil_append,Nat.zero_add]at nC;have O2:=η nC;have B2:=η (B1.o.trans jI);have oY:=B2.o.size;clear nC KI jI));go_meet;case rel=>exact⟨B3.o,by rw[<-zG,List.length_append];exact O3.o⟩
 case rest=>
 obtain⟨hbc,hoc⟩:=hcut;have HB:=η hbc;obtain⟨all,gJ⟩:∃l,ids++others=l:=⟨_,rfl⟩;have hal:all.length<=216:=by rw[<-gJ,List.length_append];omega
 rw[gJ]at hoc H32;have HO:=η hoc;have ass:=η gJ;obtain⟨ga,ca,rfl,hca⟩:=ug hoc (show 0<all.length by rw[<-gJ,List.length_append];omega);clear hbc hoc src gJ TO;generalize hwc:wc=wz at HB HO|-;clear hwc;have N0:=η (λu=>sm (d.take 8) (by rw[List.length_take];omega) u);have N1:=η (λu=>sm ((d.drop 8).take 8) (by rw[List.length_take];omega) u);have SP:=η (λx u (hx:x.length=32)=>Aw (cC.le (d.take 8)) (cC.le ((d.drop 8).take 8)) x (by omega) u);have KY:=η (λx=>show Hn.key h (Wr.low nonce.toNat 8) x=cC.Mr (cC.le (d.take 8)) (cC.le ((d.drop 8).take 8)) x from by unfold Hn.key En.yL En.yK;rw[HNC.o,HD.o]);have NC:=HNC;generalize cC.le (d.take 8)=k0 at N0 SP KY;generalize cC.le ((d.drop 8).take 8)=k1 at N1 SP KY;go_wp2_with fail;go_loopw [13,14,16,17,18,44] (λ_ _ _ _ _ iv wr=>∃i:Nat,i<=all.length/\iv=.int .i64 i/\Below wz.heap.size wz wr/\∀a b,b<a->a<i->Hn.Ok h nc ids.length a (all.getD a []) (all.getD b [])) (λ_ _ _ _ _ iv _=>all.length-(intOf iv).toNat);exact⟨0,by omega,rfl,Below.refl _ _,λa b _ ha=>absurd ha (Nat.not_lt_zero _)⟩;obtain⟨i,hi,rfl,QC,hAp⟩:=hrel;have BR:=η QC;have AP:=η hAp;clear QC hAp;by_cases aM:i<all.length
 ·have p1:(i:Int)< (all.length:Int):=by omega
  have p1':(i:Int)<=(ca:Int):=by omega
  obtain⟨gb,go,cb,xO,sn,hP⟩:=(k6 HO.o rfl).open (by omega);cases xO;have hPr:∀(u:World),Below wz.heap.size wz u->∀j,j<all.length->u.cell? ⟨ga,j,none⟩=some (.string (str (all.getD j []))):=λu hb j hj=>(World.cell?_of_block (w:=wz) (hb.block ga sn)).trans (by have:=hP j hj;rwa[Nat.zero_add]at this);have PR:=η hPr;have c1:=PR.o wr BR.o i aM;have ym:=H32.o (all.getD i []) (by rw[List.getD_eq_getElem?_getD,List.getElem?_eq_getElem aM];exact List.getElem_mem aM);obtain⟨x,hx⟩:∃x,all.getD i []=x:=⟨_,rfl⟩;rw[hx]at c1 ym;have HX:=η hx;have S1:=η (λu=>SP.o x u ym);clear hx hP hPr;go_wp2_with fail;go_loopw [16,17,18,53] (λ_ _ _ jv wx=>∃j:Nat,j<=i/\jv=.int .i64 j/\Below wz.heap.size wz wx/\∀b,b<j->Hn.Ok h nc ids.length i x (all.getD b [])) (λ_ _ _ jv _=>i-(intOf jv).toNat);exact⟨0,by omega,rfl,BR.o,λb hb=>absurd hb (Nat.not_lt_zero _)⟩;obtain⟨j,hj,rfl,hBx,hOk⟩:=hrel;have BX:=η hBx;have OK:=η hOk;clear hBx hOk;by_cases qe:j<i
  ·have p2:(j:Int)< (i:Int):=by omega
   have c2:=PR.o _ BX.o j (by omega);have y32:=H32.o (all.getD j []) (by rw[List.getD_eq_getElem?_getD,List.getElem?_eq_getElem (show j<all.length by omega)];exact List.getElem_mem _);obtain⟨y,hy⟩:∃y,all.getD j []=y:=⟨_,rfl⟩;rw[hy]at c2 y32;have HY:=η hy;have S2:=η (λu=>SP.o y u y32);clear hy;by_cases ZN:x=y
   ·subst ZN;by_cases hk:i<ids.length
    ·have pk:(i:Int)< (ids.length:Int):=by omega
     go_wp2_with fail;go_ret;exact⟨false,rfl,(λh=>by cases h),HB.o.trans (BX.o.mono HB.o.size)⟩
    have pk:¬(i:Int)< (ids.length:Int):=by omega
    go_wp2_with fail;go_roundw
    ·exact⟨j+1,by omega,by go_num,BX.o,λb hb=>by by_cases DT:b=j;subst DT;rw[HY.o];exact⟨λ_=>by omega,λe=>absurd rfl e⟩;exact OK.o b (by omega)⟩
    simp[intOf];omega
   have hs:(x==y)=false:=by simpa using ZN
   go_upto_region 20 with fail;haveI atw:Nonempty (ax.Of (λ_:World=>True)):=⟨⟨w,trivial⟩⟩;refine ax.bA [0,1,3,4,6] 4 mixed (by kernel_rfl) rfl rfl (λc a d v w h=>by cases d<;>exact h) (by as_aux_lemma=>kernel_rfl) rfl (λ_=>True) trivial ?_;show wpQuiet _ _ _ _ [_,_,_,_,_] _;repeat(go_big_quiet_step (fail))
   refine wpQuiet_nil ?_;refine ax.one 2 _ (by kernel_rfl) rfl rfl ?_;try go_frame
   go_wp2_with fail;refine(N0.o _).mono ?_;rintro e _⟨rfl,rfl⟩;go_wp2_with fail;refine⟨ax.aj trivial,?_⟩;refine ax.one 5 _ (by kernel_rfl) rfl rfl ?_
   try go_frame
   go_wp2_with fail;refine(N1.o _).mono ?_;rintro e _⟨rfl,rfl⟩;go_wp2_with fail;refine⟨ax.aj trivial,?_⟩;refine ax.one 7 _ (by kernel_rfl) rfl rfl ?_
   try go_frame
   go_wp2_with fail;refine(S1.o _).mono ?_;rintro e w20⟨rfl,akk⟩;have B20:=η (BX.o.drew.trans (akk.mono BX.o.size));clear akk;go_wp2_with fail;refine⟨ax.aj trivial,?_⟩;refine ax.one 8 _ (by kernel_rfl) rfl rfl ?_
   try go_frame
   go_wp2_with fail;refine⟨ax.aj trivial,?_⟩;refine wpAnyH_done (by kernel_rfl) ?_ 0
   go_upto_region 21 with fail;haveI atv:Nonempty (ax.Of (λ_:World=>True)):=⟨⟨w,trivial⟩⟩;refine ax.bA [0,1,3,4,6] 4 mixed (by kernel_rfl) rfl rfl (λc a d v w h=>by cases d<;>exact h) (by as_aux_lemma=>kernel_rfl) rfl (λ_=>True) trivial ?_;show wpQuiet _ _ _ _ [_,_,_,_,_] _;repeat(go_big_quiet_step (fail))
   refine wpQuiet_nil ?_;refine ax.one 2 _ (by kernel_rfl) rfl rfl ?_;try go_frame
   go_wp2_with fail;refine(N0.o _).mono ?_;rintro e _⟨rfl,rfl⟩;go_wp2_with fail;refine⟨ax.aj trivial,?_⟩;refine ax.one 5 _ (by kernel_rfl) rfl rfl ?_
   try go_frame
   go_wp2_with fail;refine(N1.o _).mono ?_;rintro e _⟨rfl,rfl⟩;go_wp2_with fail;refine⟨ax.aj trivial,?_⟩;refine ax.one 7 _ (by kernel_rfl) rfl rfl ?_
   try go_frame
   go_wp2_with fail;refine(S2.o _).mono ?_;rintro e w21⟨rfl,akj⟩;have B21:=η (B20.o.drew.trans (akj.mono B20.o.size));clear akj;go_wp2_with fail;refine⟨ax.aj trivial,?_⟩;refine ax.one 8 _ (by kernel_rfl) rfl rfl ?_
   try go_frame
   go_wp2_with fail;refine⟨ax.aj trivial,?_⟩;refine wpAnyH_done (by kernel_rfl) ?_ 0
   have KX:=KY.o x;have KYy:=KY.o y;generalize cC.Mr k0 k1 x=sx at KX|-;generalize cC.Mr k0 k1 y=sy at KYy|-;by_cases hq:(shl sx 16==shl sy 16)=true
   ·go_wp2_with fail;go_ret;exact⟨false,rfl,(λh=>by cases h),HB.o.trans (B21.o.mono HB.o.size)⟩
   have IQ:(shl sx 16==shl sy 16)=false:=by simpa using hq
   go_wp2_with fail;go_roundw
   ·exact⟨j+1,by omega,by go_num,B21.o,λb hb=>by by_cases DT:b=j;subst DT;rw[HY.o];refine⟨λe=>absurd e ZN,λ_=>?_⟩;rw[<-HNC.o,KX,KYy];exact Oq IQ;exact OK.o b (by omega)⟩
   simp[intOf];omega
  obtain rfl:j=i:=by omega
  go_wp2_with fail;go_roundw
  ·exact⟨j+1,by omega,by go_num,BX.o,λa b TD ha=>by by_cases haj:a=j;subst haj;rw[HX.o];exact OK.o b TD;exact AP.o a b TD (by omega)⟩
  simp[intOf];omega
 obtain rfl:i=all.length:=by omega
 go_wp2_with fail;go_ret;refine⟨true,rfl,λ_=>?_,HB.o.trans (BR.o.mono HB.o.size)⟩
 rw[ass.o,HNC.o];exact λa b TD ha=>AP.o a b TD ha
end
section
open bd
namespace Hn
open Wr En Cp
def pre(l:B):R Unit:=(take 4 l).bind λ_ r=>(cM 1 4 r).bind λn r=>(rep nN n r).bind λ_ r=>(cM 1 4 r).bind λn r=>rep fO n r
def aaM:Sd.Loc pre:=(Sd.ja 4).bind λ_=>(Sd.pw 1 4).bind λn=>(Sd.tQ Sd.Qc n).bind λ_=>(Sd.pw 1 4).bind λn=>Sd.tQ Sd.Kc n
def LC(l:B):body l=(pre l).bind λ_ r=>(take 4 r).void:=by unfold body pre;simp only[R.nJ]
def aap{t:B}(h:Sd.Tx t):∃u v,t=u++v/\v.length=4/\∀x,x.length=4->Sd.Tx (u++x):=by
 obtain⟨a,s,h1,h2⟩:=Sd.eL (show(body t).bind _=.ok t []from h);obtain rfl:s=[]:=by injection h2
 clear h2;rw[LC]at h1;obtain⟨b,v,h3,h4⟩:=Sd.eL h1;obtain⟨u,e,hu⟩:=aaM t b v h3;have hv:v.length=4:=by
  unfold Wr.take at h4;split at h4;cases h4;rename_i hl;have:v.drop 4=[]:=by injection h4
  have:=congrArg List.length this;rw[List.length_drop]at this;simp at this;omega
 refine⟨u,v,e,hv,λx hx=>?_⟩;show Wr.tx (u++x)=_;unfold Wr.tx;rw[LC,hu x,R.aN];have:Wr.take 4 x=.ok x []:=by have:=ah.eF x [] 4 hx;rwa[List.append_nil]at this
 rw[this];show R.bind (.ok () []) _=_;rw[R.aN,List.length_nil,Nat.sub_zero,List.take_length]
def flip(l:B):B:=l.set (l.length-1) (l.getD (l.length-1) 0 ^^^ 1)
def mr(l:B):(flip l).length=l.length:=by unfold flip;simp
def uK(a b:B)(hb:b≠ []):flip (a++b)=a++flip b:=by
 have h0:0<b.length:=List.length_pos_iff.2 hb;unfold flip;have e:(a++b).length-1=a.length+(b.length-1):=by rw[List.length_append];omega
 rw[e,List.set_append_right _ _ (by omega)];have e2:a.length+(b.length-1) - a.length=b.length-1:=by omega
 rw[e2];congr 3;rw[List.getD_eq_getElem?_getD,List.getD_eq_getElem?_getD,List.getElem?_append_right (by omega),e2]
def QF{t:B}(h:Sd.Tx t):Sd.Tx (flip t):=by obtain⟨u,v,rfl,hv,hx⟩:=aap h;rw[uK u v (by intro e;rw[e]at hv;cases hv)];exact hx _ (by rw[mr];exact hv)
def other(ts:List B):List B:=ts.set (ts.length-1) (flip (ts.getD (ts.length-1) []))
def je(ts:List B):(other ts).length=ts.length:=by unfold other;simp
def vT(a:List B)(t:B):other (a++[t])=a++[flip t]:=by unfold other;simp
def Ol{us:List B}(h:us≠ [])(ha:∀t∈us,Sd.Tx t):flip us.flatten=(other us).flatten:=by obtain⟨a,t,rfl⟩:∃a t,us=a++[t]:=⟨us.dropLast,us.getLast h,(List.dropLast_concat_getLast h).symm⟩;have ht:=(ha t (by simp)).ne;rw[vT,List.flatten_append,List.flatten_append];simp only[List.flatten_cons,List.flatten_nil,List.append_nil];exact uK _ _ ht
def La{h:B}{us:List B}(hk:us≠ [])(ha:∀t∈us,Sd.Tx t):flip (served h us)=served h (other us):=by
 have h0:us.flatten≠ []:=λe=>by obtain⟨t,ht⟩:=List.exists_mem_of_ne_nil us hk;have:=List.flatten_eq_nil_iff.1 e t ht;exact(ha t ht).ne this
 unfold served;rw[je,uK _ _ (by simp),show UInt8.ofNat us.length::us.flatten=[UInt8.ofNat us.length]++us.flatten from rfl,uK _ _ h0,Ol hk ha];rfl
def zero:Nat->Bool:=λj=>j==0
def gP:Nat->Bool:=λ_=>false
theorem lP:∀n,asked zero gP (n+1)=List.range' 1 n
 |0=>rfl|n+1=>by have:=lP n;unfold asked at this|-;rw[lH,this,if_pos (by simp[zero,gP]),List.range'_concat];simp[Nat.add_comm]
def Ke{ts:List B}(hn:2<=ts.length):(List.range ts.length).map (λj=>if zero j || gP j then ts.getD j []else(other ts).getD j [])=other ts:=by
 conv=>rhs;rw[<-pU (other ts),je]
 apply List.map_congr_left;intro j hj;by_cases h0:j=0;subst h0;rw[if_pos (by simp[zero])];unfold other;rw[nF (by omega)];rw[if_neg (by simp[zero,gP,h0])]
def LJ{ts:List B}(hn:2<=ts.length):other ((asked zero gP ts.length).map λj=>ts.getD j [])=(asked zero gP ts.length).map λj=>(other ts).getD j []:=by obtain⟨n,hl⟩:∃n,ts.length=n+1+1:=⟨ts.length-2,by omega⟩;rw[hl,lP,List.range'_concat,List.map_append,List.map_append];simp only[List.map_cons,List.map_nil,Nat.one_mul];rw[vT];congr 1;apply List.map_congr_left;intro j hj;have:=List.mem_range'_1.1 hj;unfold other;rw[nF (by omega)];unfold other;rw[show ts.length-1=1+n by omega,List.getD_eq_getElem?_getD (l:=ts.set _ _),List.getElem?_set_self (by omega)];rfl
def Wl{ts:List B}(ha:∀t∈ts,Sd.Tx t):∀t∈other ts,Sd.Tx t:=λt ht=>by unfold other at ht;rcases List.mem_or_eq_of_mem_set ht with h|h;exact ha t h;by_cases h0:ts=[];subst h0;simp at ht;rw[h];exact QF (ha _ (dY (by have:=List.length_pos_iff.2 h0;omega)))
def DX(l:List B)(h:l.length % 2=1):(Mk.root (l++[l.getD (l.length-1) []]) false).2=true:=by by_cases h1:1<l.length;exact(Mk.VR l h h1).2;obtain⟨x,rfl⟩:=List.length_eq_one_iff.1 (show l.length=1 by omega);rw[Mk.y9 _ _ (by simp)];show(Mk.root [_] _).2=true;rw[Mk.Jw _ _ (by simp)];simp[Mk.lS]
end Hn
end
section
open bd
open Go.RowKit
namespace ah
def oO(ts:List (List UInt8))(t:List UInt8):List (List UInt8):=if t∈ts then ts else if ts.length<16 then ts++[t]else ts
def gO(l:List Int):Nat->List (List UInt8)
 |0=>[]|k+1=>oO (gO l k) (tx (l.getD k 0))
def FK(ts:List (List UInt8))(t:List UInt8)(h:ts.length<=16):(oO ts t).length<=16/\ts.length<=(oO ts t).length:=by unfold oO;split;exact⟨h,ν⟩;split;rw[List.length_append];simp;omega;exact⟨h,ν⟩
theorem qH(l:List Int):∀k,(gO l k).length<=16
 |0=>by simp[gO]|k+1=>(FK _ _ (qH l k)).1
theorem mY(l:List Int):∀(k:Nat),∀t∈gO l k,∃x,t=tx x
 |0,t,h=>by cases h
 |k+1,t,h=>by rw[gO]at h;unfold oO at h;split at h;exact mY l k t h;split at h;rcases List.mem_append.1 h with h|h;exact mY l k t h;exact⟨_,List.mem_singleton.1 h⟩;exact mY l k t h
def acR(x:Int):tx x≠ []:=λe=>by have:=congrArg List.length e;simp[tx,zU,aT]at this
def aev(x:Int):(tx x).length<=610:=Mp.nZ (vv x)
end ah
def NI(al:List Int)(v:Value)(w:World)(hv:du w v al)(hsr:∀j,j<al.length-> -9223372036854775808<=al.getD j 0/\al.getD j 0<=9223372036854775807)(hn:al.length<=1000):Calls prog 14 #[v] w λe w'=>∃tv,e=.returned tv/\w'.ownsRow w.heap.size 9 1 tv (ah.gO al al.length).length (wt (ah.gO al al.length))/\Below w.heap.size w w':=by
 obtain⟨i0,fP,oL,kP,ik⟩:=info_parts oz;have HI:=η fP;clear fP;have HV:=η hv;have HS:=η hsr;obtain⟨va,vc,rfl⟩:=hv.form;clear hv hsr;go_enter func14,ntmps14;go_wp2_with fail;go_loopw [3,5,6,8,11] (λov _ _ _ iv wr=>∃i:Nat,i<=al.length/\iv=.int .i64 i/\wr.ownsRow w.heap.size 9 1 ov (ah.gO al i).length (wt (ah.gO al i))/\Below w.heap.size w wr) (λ_ _ _ _ iv _=>al.length-(intOf iv).toNat)
 exact⟨0,by omega,rfl,World.ownsRow_nil _ _ _ _,Below.refl _ _⟩;obtain⟨i,hi,rfl,bY,hB⟩:=hrel;have HB:=η hB;have HO:=η bY;have mH:=hB.size;clear hB bY;by_cases aM:i<al.length
 ·have p1:(i:Int)< (al.length:Int):=by omega
  obtain⟨ab,ao,rfl,DU,ep⟩:=HV.o.at (by omega);have hc:wr.cell? ⟨ab,ao+i,none⟩=some (.int .i64 (al.getD i 0)):=by rw[<-ep i aM];exact World.cell?_of_block (w:=w) (HB.o.block ab DU)
  have hxr:=HS.o i aM;have EX:=η (show ah.gO al (i+1)=ah.oO (ah.gO al i) (ah.tx (al.getD i 0))from rfl);have Hi:=ah.qH al i;have NE:=η (λt (h:t∈ah.gO al i)=>show t≠ []from by obtain⟨x,rfl⟩:=ah.mY al i t h;exact ah.acR x);have T1:=η (λu=>px (al.getD i 0) u (by omega));have UM:=ah.acR (al.getD i 0);have zk:=ah.aev (al.getD i 0);generalize hx:al.getD i 0=x at hc hxr EX T1 UM zk;generalize ah.tx x=t at EX T1 UM zk;generalize LY:ah.gO al i=ts at HO EX Hi NE;clear ep hx LY hxr;go_wp2_with fail;refine(T1.o _).mono ?_;clear T1;rintro e w1⟨rfl,uI⟩;have O1:=η (aE HO.o uI ν);have B1:=η (HB.o.trans (uI.mono mH));have Ti:=B1.o.size;obtain⟨oa,oc,rfl⟩:=aP HO.o;clear uI HO HB hc;have TX:=η (k6 O1.o rfl);go_wp2_with fail;go_loopw [6,8,19] (λtv _ jv wx=>∃(j:Nat)(c:List UInt8),j<=ts.length/\jv=.int .i64 j/\tv=.string (str c)/\(c=[]/\t∈ts∨c=t/\∀k,k<j->ts.getD k []≠t)/\wx=w1) (λ_ _ jv _=>ts.length-(intOf jv).toNat);exact⟨0,t,by omega,rfl,rfl,.inr ⟨rfl,λk hk=>absurd hk (Nat.not_lt_zero _)⟩,rfl⟩;obtain⟨j,c,hj,rfl,rfl,hC,rfl⟩:=hrel;have HC:=η hC;clear hC;by_cases qe:j<ts.length
  ·have p2:(j:Int)< (ts.length:Int):=by omega
   obtain⟨gb,go,cb,xO,sn,hP⟩:=TX.o.open (by omega);cases xO;have uF:=hP j qe;have hm:ts.getD j []∈ts:=by rw[List.getD_eq_getElem?_getD,List.getElem?_eq_getElem qe];exact List.getElem_mem qe
   have Xp:=NE.o _ hm;clear hP;by_cases he:c=ts.getD j []
   ·have HN:=η (show t∈ts from by rcases HC.o with⟨h,h'⟩|⟨h,_⟩;exact h';rw[<-h,he];exact hm);subst he;clear HC;go_wp2_with fail;go_roundw
    ·exact⟨j+1,[],by omega,by go_num,rfl,.inl ⟨rfl,HN.o⟩,by first|trivial|rfl⟩
    simp[intOf];omega
   have hs:(str c==str (ts.getD j []))=false:=by rw[Ph.Po];simpa using he
   have rQ:(c==ts.getD j [])=false:=by simpa using he
   obtain⟨u,hu⟩:∃u,ts.getD j []=u:=⟨_,rfl⟩;rw[hu]at uF hs rQ he;have HU:=η hu;clear hu;go_wp2_with fail;go_roundw
   ·exact⟨j+1,c,by omega,by go_num,rfl,(by rcases HC.o with h|⟨h,h'⟩;exact .inl h;refine .inr ⟨h,λk hk=>?_⟩;by_cases hkj:k=j;subst hkj;rw[<-h,HU.o];exact λe=>he e.symm;exact h' k (by omega)),by first|trivial|rfl⟩
   simp[intOf];omega
  obtain rfl:j=ts.length:=by omega
  by_cases UR:t∈ts
  ·have xX:c=[]:=by rcases HC.o with⟨h,_⟩|⟨_,h'⟩;exact h;obtain⟨k,hk,e⟩:=List.mem_iff_getElem.1 UR;exact absurd (by rw[List.getD_eq_getElem?_getD,List.getElem?_eq_getElem hk];exact e) (h' k hk)
   subst xX;have E2:=η (show ah.gO al (i+1)=ts by rw[EX.o];unfold ah.oO;rw[if_pos UR]);go_wp2_with fail;go_roundw
   ·exact⟨i+1,by omega,by go_num,by rw[E2.o];exact O1.o,B1.o⟩
   simp[intOf];omega
  have hct:c=t:=by rcases HC.o with⟨_,h⟩|⟨h,_⟩;exact absurd h UR;exact h
  subst hct;have hs:c.isEmpty=false:=by cases c with|nil=>exact absurd rfl UM|cons a l=>rfl
  by_cases h6:ts.length<16
  ·have E2:=η (show ah.gO al (i+1)=ts++[c]by rw[EX.o];unfold ah.oO;rw[if_neg UR,if_pos h6]);have q6:(ts.length:Int)<16:=by omega
   go_wp2_with (at_builtin;refine wpList_append_own _ rfl _ _ 28 rfl w.heap.size 9 i0 (.string ByteArray.empty) 1 16 underlying28 HI.o oL kP ik rfl (by decide) _ _ _ rfl (O1.o.alloc _) ⟨wr.heap.size,0,none⟩ 1 1 [.string (str c)] rfl rfl (cell_one_new _ _ _) (iz [c]) (by unfold maxLen;omega) (by omega) (by rw[World.size_alloc];omega) ?_;intro Vd w3 cg dr _;have jI:Below w.heap.size wr w3:=((Below.refl w.heap.size wr).alloc Ti _).grown dr (by rw[World.size_alloc];omega) (λk hk=>(O1.o.lt k hk).1);have H1:=η cg;have H2:=η jI;clear cg dr jI)
   go_roundw
   ·exact⟨i+1,by omega,by go_num,by rw[E2.o,<-jQ,List.length_append];exact H1.o,B1.o.trans H2.o⟩
   simp[intOf];omega
  have E2:=η (show ah.gO al (i+1)=ts by rw[EX.o];unfold ah.oO;rw[if_neg UR,if_neg h6]);have q6:¬(ts.length:Int)<16:=by omega
  go_wp2_with fail;go_roundw
  ·exact⟨i+1,by omega,by go_num,by rw[E2.o];exact O1.o,B1.o⟩
  simp[intOf];omega
 obtain rfl:i=al.length:=by omega
 go_wp2_with fail;go_ret;exact⟨_,rfl,HO.o,HB.o⟩
end
