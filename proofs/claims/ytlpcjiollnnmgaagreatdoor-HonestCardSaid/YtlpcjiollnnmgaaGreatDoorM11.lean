import Derived.Test.YtlpcjiollnnmgaaGreatDoorM10
import Derived.Laws.AppendOwnNone
set_option maxRecDepth 100000
set_option maxHeartbeats 8000000
set_option linter.all false
namespace Go.Proofs.YtlpcjiollnnmgaaGreatDoor
open Go.Proofs.Tryz
section
open Go.RowKit ba
def Hp(b:Nat)(l:List UInt8)(w:World)(hT:cG w)(lQ:1<b)(hr:Row w b [.string (str l)])(hl:l.length<=9223372036854775807):Calls prog 72 #[.pointer (some ⟨b,0,none⟩)] w (Hm (Wr.Tk l) (λa=>a.1) 69 33 (λa=>a.2.length) (λa=>aK a.2) b w):=by
 have hb:=hr.lt;have gM:=hT.lt;have hk:=And.intro lQ hl;clear hk;have I0:PI w b l.length l (w.alloc (.cells cD.toArray 101)):=⟨hr.alloc _,Row.new w _ _,(cA.refl _ _ _).alloc ν _,ν⟩;rw[show cD.toArray=#[Value.string (str []),.slice none 0 0]from rfl]at I0;have HT:=η hT;have EQ:=η (show Wr.Tk l=(Wr.take 80 l).bind λh r=>(Wr.cM 1 16 r).bind λn r=>(Wr.bE n r).map λts=>(h,ts)from rfl);clear hr hT;go_enter func72,ntmps72;go_upto_region 1 with fail;generalize w.alloc _=w1 at I0|-;have T1:=η (bV b 80 l w1 I0.cur (by omega));have J:=η I0;clear I0;go_wp2_with fail;refine T1.o.mono ?_;clear T1;cases hx:Wr.take 80 l with
 |bad n=>rintro e w2⟨rfl,h⟩;rw[hx]at EQ;exact⟨rfl,Hm.bh EQ.o (J.o.bad h)⟩
 |ok t1 r1=>
 rintro e w2⟨rfl,h3,h4⟩;rw[hx]at EQ;have iH:=η (show Wr.Tk l=(Wr.cM 1 16 r1).bind λn r=>(Wr.bE n r).map λts=>(t1,ts)from EQ.o);have J2:=η (J.o.step hb h3 h4 ((Wr.bG 80 l).le hx));have T2:=η (fU b 1 16 r1 w2 h3 (by omega) (by omega));clear h3 h4 J EQ hx;go_wp2_with fail;refine T2.o.mono ?_;clear T2;cases hx:Wr.cM 1 16 r1 with
 |bad n=>rintro e w3⟨rfl,h⟩;rw[hx]at iH;exact⟨rfl,Hm.bh iH.o (J2.o.bad h)⟩
 |ok n r2=>
 rintro e w3⟨rfl,h3,h4⟩;rw[hx]at iH;have hn:=(Wr.eL hx).2;have Ff:=η (show Wr.Tk l=(Wr.bE n r2).map λts=>(t1,ts)from iH.o);have J3:=η (J2.o.step hb h3 h4 ((Wr.ew 1 16 r1).le hx));clear h3 h4 J2 iH hx;have T3:=η (DW b n r2 w3 (J3.o.but.sj HT.o gM lQ) lQ J3.o.cur (Nat.le_trans J3.o.le hl) (by omega));go_wp2_with fail;refine T3.o.mono ?_;clear T3;cases hx:Wr.bE n r2 with
 |bad k=>rintro e w4⟨rfl,h⟩;rw[hx]at Ff;exact⟨rfl,Hm.bh Ff.o (J3.o.bad h)⟩
 |ok ts r3=>rintro e w4⟨v,rfl,h2,h3,h4⟩;rw[hx]at Ff;have J4:=η (J3.o.step hb h3 h4 ((Wr.zi n r2).le hx));have kK:=J4.o.own;have lL:=J3.o.but.size;have ali:=J3.o.own.lt;have hv:=aO h2;have kh:=dN h2;have O1:=η (dh (S:=w.heap.size) h2 (pr t1 v).toArray (by omega));clear h2 h3 h4 J3 hx;go_wp2_with (first|(refine KE (o:=⟨some 15,_,_,_,_,_⟩) rfl _ _ rfl t1 v (by obtain⟨a,c,h⟩:=hv;exact⟨a,_,c,h⟩) rfl rfl ?_)|(with_reducible refine au (o:=⟨none,_,_,_,_,_⟩) rfl _ _ _ rfl w.heap.size cD (pr t1 v) rfl rfl kK (bP.trans rfl) rfl (fq t1 kh) ?_));obtain⟨T2,BO⟩:=kK.setRow (pr t1 v);exact bodyPost_ret (v:=.agg (pr t1 v).toArray) (results_cell_row (fn:=Tryz.f72) rfl _ _ w.heap.size T2 _ (0,0) _ rfl BO underlying101 rfl (bP.trans rfl)) rfl (Hm.ko (a:=(t1,ts)) Ff.o (eP O1.o lL) (J4.o.cur.aG (by omega) _) (J4.o.but.trans (cA.aH (below_setRow (Below.refl _ _) ν _))))
def yu(g h:Nat)(w:World):CallsD prog 100 #[.pointer (some ⟨g,0,none⟩),.pointer (some ⟨h,0,none⟩)] .returning w λe u' w'=>e=.returned (.tuple #[])/\u'=.returning/\w'=w:=by refine callsD_of_wpS func100 rfl λuH cs hu=>?_;simp only[ntmps100,List.size_toArray,List.length_cons,List.length_nil,Nat.reduceAdd,Nat.reduceSub,Array.replicate_succ,Array.replicate_zero,List.push_toArray,List.append_toArray,List.nil_append,List.cons_append];apply wpS_seq;apply wpS_region;simp[wpOpsS,go_sem,recoverD,hu,Exit.thenS];refine wpS_of_wp ?_;go_wp2_with fail;cases uH;simp_all[bodyPostS,results,results100]
def j4(g h:Nat)(n m:Int)(l:List Value)(w:World)(hg:Row w g l)(hh:Row w h [.int .i64 m])(hl:l.length=2)(cE:g≠h):CallsD prog 100 #[.pointer (some ⟨g,0,none⟩),.pointer (some ⟨h,0,none⟩)] (.panicking (fI n)) w λe u' w'=>e=.returned (.tuple #[])/\u'=.panicking [{v:=.iface 146 (.agg #[.int .i64 n]),recovered:=true}]/\Row w' g cD/\Row w' h [.int .i64 n]/\aV (λk=>k=g∨k=h) w w':=by
 refine callsD_of_wpS func100 rfl λuH cs hu=>?_;simp only[ntmps100,List.size_toArray,List.length_cons,List.length_nil,Nat.reduceAdd,Nat.reduceSub,Array.replicate_succ,Array.replicate_zero,List.push_toArray,List.append_toArray,List.nil_append,List.cons_append];apply wpS_seq;apply wpS_region;unfold fI at hu;have Y5:=th n;simp[wpOpsS,go_sem,recoverD,hu,Exit.thenS];refine wpS_of_wp ?_;have hzg:=hg.lt;have hzh:=hh.lt;have r1:Row ((w.alloc (.cells #[.int .i64 n] 146)).alloc (.cells #[.string (str []),.slice none 0 0] 101)) w.heap.size [.int .i64 n]:=(Row.new w [.int .i64 n] 146).alloc _;have r2:Row ((w.alloc (.cells #[.int .i64 n] 146)).alloc (.cells #[.string (str []),.slice none 0 0] 101)) (w.heap.size+1) cD:=by have:=Row.new (w.alloc (.cells #[.int .i64 n] 146)) cD 101;rw[World.size_alloc]at this;exact this
 have r3:Row ((w.alloc (.cells #[.int .i64 n] 146)).alloc (.cells #[.string (str []),.slice none 0 0] 101)) g l:=(hg.alloc _).alloc _;have r4:Row ((w.alloc (.cells #[.int .i64 n] 146)).alloc (.cells #[.string (str []),.slice none 0 0] 101)) h [.int .i64 m]:=(hh.alloc _).alloc _;have kk:aV (λk=>k=g∨k=h) w ((w.alloc (.cells #[.int .i64 n] 146)).alloc (.cells #[.string (str []),.slice none 0 0] 101)):=((aV.refl _ _).alloc _).alloc _;clear hg hh;go_wp2_with fail;generalize(w.alloc _).alloc _=w1 at r1 r2 r3 r4 kk|-;generalize w.heap.size=A at *;have hu:∀u:ax.Of (λu=>Row u A [.int .i64 n]/\Row u (A+1) cD),u.w.cell? ⟨A,0,none⟩=some (.int .i64 n):=λu=>u.h.1.cell 0;haveI aaO:Nonempty (ax.Of (λu=>Row u A [.int .i64 n]/\Row u (A+1) cD)):=⟨⟨w1,r1,r2⟩⟩;refine ax.bM [0,1,2] 2 mixed (by kernel_rfl) rfl rfl (λc a d v w h=>by cases d<;>exact h) (by as_aux_lemma=>kernel_rfl) rfl (λu=>Row u A [.int .i64 n]/\Row u (A+1) cD) ⟨r1.drew,r2.drew⟩ ?_;show wpQuiet _ _ _ _ [_,_,_] _;refine fJ (o:=⟨some 12,_,_,_,_,_⟩) rfl _ _ rfl (A+1) cD rfl (λw hw=>by obtain⟨u,rfl⟩:=hw;exact u.h.2) _ underlying101 (bP.trans rfl) _ rfl ?_;go_frame;repeat(go_big_quiet_step (fail))
 refine wpQuiet_nil ?_;have r1:=r1.drew;have r2:=r2.drew;have r3:=r3.drew;have r4:=r4.drew;have kk:=kk.drew;generalize w1.drew=w2 at r1 r2 r3 r4 kk|-;refine ax.one 3 _ (by kernel_rfl) rfl rfl ?_;refine au rfl _ _ _ rfl g l cD rfl rfl r3 (bP.trans rfl) (by rw[hl];rfl) (by decide +kernel) ?_;have s1:=r1.aG (g:=g) (by omega) cD.toArray;have s2:=r2.aG (g:=g) (by omega) cD.toArray;have s3:=r3.setRow cD;have s4:=r4.aG (g:=g) (Ne.symm cE) cD.toArray;have kk:=kk.setRow g cD.toArray (.inl rfl);generalize w2.setRow g _=w3 at s1 s2 s3 s4 kk|-;refine⟨ax.aq ⟨s1,s2⟩,?_⟩;refine ax.one 4 _ (by kernel_rfl) rfl rfl ?_;have hz:=s4.free 0;have hc:=s4.cell 0;try go_frame
 go_wp2_with fail;refine⟨ax.aq ⟨s1.other (show h≠A by omega) _,s2.other (show h≠A+1 by omega) _⟩,?_⟩
 refine wpAnyH_done (by kernel_rfl) ?_ 0;go_wp2_with fail;refine⟨rfl,_,rfl,.tuple #[],results_none rfl _ _ _,rfl,rfl,s3.other (Ne.symm cE) _,s4.set 0 _,kk.set _ _ (.inr rfl)⟩
def xT(l:List UInt8)(w:World)(hT:cG w)(hl:l.length<=9223372036854775807):Calls prog 71 #[.string (str l),.func (.func 72) #[] #[]] w (uU (Wr.dx l) (λa=>a.1) 69 33 (λa=>a.2.length) (λa=>aK a.2) w):=by
 have hmf:=EC;have gM:=hT.lt;have HT:=η hT;have EQ:=η (show Wr.dx l=(Wr.Tk l).bind λa r=>if r=[]then .ok a r else .bad 5 from rfl);have r1:Row (((w.alloc (.cells #[.string (str []),.slice none 0 0] 101)).alloc (.cells #[.int .i64 0] 29)).alloc (.cells #[.string (str l)] 120)) w.heap.size cD:=((Row.new w cD 101).alloc _).alloc _;have r2:Row (((w.alloc (.cells #[.string (str []),.slice none 0 0] 101)).alloc (.cells #[.int .i64 0] 29)).alloc (.cells #[.string (str l)] 120)) (w.heap.size+1) [.int .i64 0]:=by have:=Row.new (w.alloc (.cells cD.toArray 101)) [.int .i64 0] 29;rw[World.size_alloc]at this;exact this.alloc _
 have r3:Row (((w.alloc (.cells #[.string (str []),.slice none 0 0] 101)).alloc (.cells #[.int .i64 0] 29)).alloc (.cells #[.string (str l)] 120)) (w.heap.size+2) [.string (str l)]:=by have:=Row.new ((w.alloc (.cells cD.toArray 101)).alloc (.cells #[.int .i64 0] 29)) [.string (str l)] 120;rw[World.size_alloc,World.size_alloc]at this;exact this
 have hB:Below w.heap.size w (((w.alloc (.cells #[.string (str []),.slice none 0 0] 101)).alloc (.cells #[.int .i64 0] 29)).alloc (.cells #[.string (str l)] 120)):=(((Below.refl _ _).alloc ν _).alloc (by simp) _).alloc (by simp;omega) _;clear hT;go_enter_defers func71,ntmps71;go_wp2_with fail;generalize((w.alloc _).alloc _).alloc _=w1 at r1 r2 r3 hB|-;have HB:=η hB;have hz:=hB.size;have lL:=r3.lt;have R1:=η r1;have R2:=η r2;have T1:=η (Hp (w.heap.size+2) l w1 (HT.o.below hB gM) (by omega) r3 hl)
 clear r1 r2 r3 hB;refine T1.o.mono ?_;clear T1;cases hx:Wr.Tk l with
 |bad n=>rintro e w2⟨rfl,h⟩;rw[hx]at EQ;have H1:=h.row R1.o R1.o.lt (by omega);have H2:=h.row R2.o R2.o.lt (by omega);refine leaves_cons (f:=100) (args:=#[.pointer (some ⟨w.heap.size,0,none⟩),.pointer (some ⟨w.heap.size+1,0,none⟩)]) (by simp) (by simp[go_sem]) ?_;refine(j4 w.heap.size (w.heap.size+1) n 0 cD w2 H1 H2 rfl (by omega)).mono ?_;rintro e u' w3⟨rfl,rfl,h5,h6,h7⟩;refine⟨_,cV rfl _ _ w.heap.size (w.heap.size+1) cD n rfl rfl h5 h6 _ underlying101 (bP.trans rfl),?_⟩;exact uU.bh EQ.o (HB.o.trans ⟨h7.os.trans h.os,h7.tape.trans h.tape,h7.output.trans h.output,Nat.le_trans h.size h7.size,λk hk=>(h7.block k (by have:=h.size;omega) (by omega)).trans (h.block k (by omega) (by omega))⟩)
 |ok t r=>
 rintro e w2⟨v,rfl,ho,h3,h⟩;rw[hx]at EQ;have iH:=η (show Wr.dx l=if r=[]then .ok t r else .bad 5 from EQ.o);have H1:=h.row R1.o R1.o.lt (by omega);have H2:=h.row R2.o R2.o.lt (by omega);have gK:=h.size;have kh:=dN ho;have B2:=η (show Below w.heap.size w w2 from HB.o.trans ⟨h.os,h.tape,h.output,h.size,λk hk=>h.block k (by omega) (by omega)⟩);have S1:=η (H1.setRow (pr t.1 v));have S2:=η (H2.aG (g:=w.heap.size) (by omega) (pr t.1 v).toArray);have S3:=η (h3.aG (g:=w.heap.size) (by omega) (pr t.1 v).toArray);have B3:=η (below_setRow B2.o ν (pr t.1 v).toArray);have O3:=η (dh (S:=w.heap.size) ho (pr t.1 v).toArray (by omega));clear EQ h h3 H2 R1 R2 HB hx ho;go_wp2_with (with_reducible refine au (o:=⟨none,_,_,_,_,_⟩) rfl _ _ _ rfl w.heap.size cD (pr t.1 v) rfl rfl H1 (bP.trans rfl) rfl (fq t.1 kh) ?_);clear H1;generalize w2.setRow _ _=w3 at S1 S2 S3 B3 O3|-;refine(nt (w.heap.size+2) r w3 S3.o).mono ?_;by_cases hr:r=[]
 ·simp only[if_pos hr];rintro e w4⟨rfl,rfl⟩;have kK:=S1.o;have S4:=η (S2.o.aG (g:=w.heap.size) (by omega) (pr t.1 v).toArray);have S5:=η (S1.o.setRow (pr t.1 v));have B5:=η (below_setRow B3.o ν (pr t.1 v).toArray);have O5:=η (dh (S:=w.heap.size) O3.o (pr t.1 v).toArray (by omega));have Pf:=S4.o.free 0;have Zb:=S4.o.cell 0;go_wp2_with (first|(refine dW (o:=⟨some 19,_,_,_,_,_⟩) rfl _ _ rfl w.heap.size (pr t.1 v) rfl kK _ underlying101 (bP.trans rfl) _ rfl ?_)|(with_reducible refine au (o:=⟨none,_,_,_,_,_⟩) rfl _ _ _ rfl w.heap.size (pr t.1 v) (pr t.1 v) rfl rfl kK (bP.trans rfl) rfl (fq t.1 kh) ?_));refine leaves_cons (f:=100) (args:=#[.pointer (some ⟨w.heap.size,0,none⟩),.pointer (some ⟨w.heap.size+1,0,none⟩)]) (by simp) (by simp[go_sem]) ?_;refine(yu w.heap.size (w.heap.size+1) _).mono ?_;rintro e u' w5⟨rfl,rfl,rfl⟩;refine⟨_,cV rfl _ _ w.heap.size (w.heap.size+1) (pr t.1 v) 0 rfl rfl (S5.o.other (show w.heap.size+1≠w.heap.size by omega) _) (S4.o.set 0 _) _ underlying101 (bP.trans rfl),?_⟩;exact uU.ko (iH.o.trans (if_pos hr)) (eP (bt O5.o _ (by show w.heap.size+1<_;omega)) hz) (B5.o.setCell (show w.heap.size<=w.heap.size+1 by omega) _)
 simp only[if_neg hr];rintro e w4⟨rfl,rfl⟩;refine leaves_cons (f:=100) (args:=#[.pointer (some ⟨w.heap.size,0,none⟩),.pointer (some ⟨w.heap.size+1,0,none⟩)]) (by simp) (by simp[go_sem]) ?_;refine(j4 w.heap.size (w.heap.size+1) 5 0 (pr t.1 v) w4 S1.o S2.o rfl (by omega)).mono ?_;rintro e u' w5⟨rfl,rfl,h5,h6,h7⟩;refine⟨_,cV rfl _ _ w.heap.size (w.heap.size+1) cD 5 rfl rfl h5 h6 _ underlying101 (bP.trans rfl),?_⟩;exact uU.bh (k:=5) (iH.o.trans (if_neg hr)) (B3.o.trans ⟨h7.os,h7.tape,h7.output,h7.size,λk hk=>h7.block k (by have:=B3.o.size;omega) (by omega)⟩)
def mL(l:List UInt8)(w:World)(hT:cG w)(hl:l.length<=9223372036854775807):Calls prog 37 #[.string (str l)] w (uU (Wr.dx l) (λa=>a.1) 69 33 (λa=>a.2.length) (λa=>aK a.2) w):=by
 have gM:=hT.lt;have r1:Row (w.alloc (.cells #[.string (str []),.slice none 0 0] 101)) w.heap.size cD:=Row.new w cD 101;have hB:Below w.heap.size w (w.alloc (.cells #[.string (str []),.slice none 0 0] 101)):=(Below.refl _ _).alloc ν _;go_enter func37,ntmps37;go_wp2_with fail;generalize w.alloc _=w1 at r1 hB|-;have HB:=η hB;have R1:=η r1;have hz:=r1.lt;have T1:=η (xT l w1 (hT.below hB gM) hl);clear hT hB r1;refine T1.o.mono ?_;clear T1;cases hx:Wr.dx l with
 |bad n=>have EQ:=η hx;clear hx;rintro e w2⟨rfl,h2⟩;have H1:=R1.o.below h2 hz;have B2:=η (HB.o.trans (h2.mono (by omega)));have S1:=η (H1.setRow cD);have B3:=η (below_setRow B2.o ν cD.toArray);clear h2 R1 HB;go_wp2_with (with_reducible refine au (o:=⟨none,_,_,_,_,_⟩) rfl _ _ _ rfl w.heap.size cD cD rfl rfl H1 (bP.trans rfl) rfl (by decide +kernel) ?_);exact bodyPost_ret (v:=.tuple #[.agg cD.toArray,.int .i64 n]) (cn rfl _ _ w.heap.size cD (.int .i64 n) rfl rfl S1.o _ underlying101 (bP.trans rfl)) rfl (uU.bh EQ.o B3.o)
 |ok t r=>have EQ:=η hx;clear hx;rintro e w2⟨v,rfl,ho,h2⟩;have kh:=dN ho;have H1:=R1.o.below h2 hz;have B2:=η (HB.o.trans (h2.mono (by omega)));have S1:=η (H1.setRow (pr t.1 v));have B3:=η (below_setRow B2.o ν (pr t.1 v).toArray);have O3:=η (dh (S:=w.heap.size) ho (pr t.1 v).toArray (by omega));clear h2 R1 HB ho;go_wp2_with (with_reducible refine au (o:=⟨none,_,_,_,_,_⟩) rfl _ _ _ rfl w.heap.size cD (pr t.1 v) rfl rfl H1 (bP.trans rfl) rfl (fq t.1 kh) ?_);exact bodyPost_ret (v:=.tuple #[.agg (pr t.1 v).toArray,.int .i64 0]) (cn rfl _ _ w.heap.size (pr t.1 v) (.int .i64 0) rfl rfl S1.o _ underlying101 (bP.trans rfl)) rfl (uU.ko EQ.o (eP O3.o (by omega)) B3.o)
def CG(b:Nat)(l:List UInt8)(w:World)(hT:cG w)(lQ:1<b)(hr:Row w b [.string (str l)])(hl:l.length<=9223372036854775807):Calls prog 76 #[.pointer (some ⟨b,0,none⟩)] w (Hm (Wr.QJ l) (λa=>a.1) 3 1 (λa=>a.2.length) (λa=>oN a.2) b w):=by
 have hb:=hr.lt;have gM:=hT.lt;have hk:=And.intro lQ hl;clear hk;have I0:PI w b l.length l (w.alloc (.cells cD.toArray 96)):=⟨hr.alloc _,Row.new w _ _,(cA.refl _ _ _).alloc ν _,ν⟩;rw[show cD.toArray=#[Value.string (str []),.slice none 0 0]from rfl]at I0;have HT:=η hT;have EQ:=η (show Wr.QJ l=(Wr.take 32 l).bind λh r=>(Wr.cM 1 16 r).bind λn r=>(Wr.indexes 16 n 0 r).map λts=>(h,ts)from rfl);clear hr hT;go_enter func76,ntmps76;go_upto_region 1 with fail;generalize w.alloc _=w1 at I0|-;have T1:=η (bV b 32 l w1 I0.cur (by omega));have J:=η I0;clear I0;go_wp2_with fail;refine T1.o.mono ?_;clear T1;cases hx:Wr.take 32 l with
 |bad n=>rintro e w2⟨rfl,h⟩;rw[hx]at EQ;exact⟨rfl,Hm.bh EQ.o (J.o.bad h)⟩
 |ok t1 r1=>
 rintro e w2⟨rfl,h3,h4⟩;rw[hx]at EQ;have iH:=η (show Wr.QJ l=(Wr.cM 1 16 r1).bind λn r=>(Wr.indexes 16 n 0 r).map λts=>(t1,ts)from EQ.o);have J2:=η (J.o.step hb h3 h4 ((Wr.bG 32 l).le hx));have T2:=η (fU b 1 16 r1 w2 h3 (by omega) (by omega));clear h3 h4 J EQ hx;go_wp2_with fail;refine T2.o.mono ?_;clear T2;cases hx:Wr.cM 1 16 r1 with
 |bad n=>rintro e w3⟨rfl,h⟩;rw[hx]at iH;exact⟨rfl,Hm.bh iH.o (J2.o.bad h)⟩
 |ok n r2=>
 rintro e w3⟨rfl,h3,h4⟩;rw[hx]at iH;have hn:=(Wr.eL hx).2;have Ff:=η (show Wr.QJ l=(Wr.indexes 16 n 0 r2).map λts=>(t1,ts)from iH.o);have J3:=η (J2.o.step hb h3 h4 ((Wr.ew 1 16 r1).le hx));clear h3 h4 J2 iH hx;have T3:=η (Ds b n 16 r2 w3 J3.o.cur (by omega) (by omega));go_wp2_with fail;refine T3.o.mono ?_;clear T3;cases hx:Wr.indexes 16 n 0 r2 with
 |bad k=>rintro e w4⟨rfl,h⟩;rw[hx]at Ff;exact⟨rfl,Hm.bh Ff.o (J3.o.bad h)⟩
 |ok ts r3=>rintro e w4⟨v,rfl,h2,h3,h4⟩;rw[hx]at Ff;have J4:=η (J3.o.step hb h3 h4 ((Wr.uf 16 n 0 r2).le hx));have kK:=J4.o.own;have lL:=J3.o.but.size;have ali:=J3.o.own.lt;have hv:=aO h2;have kh:=dN h2;have O1:=η (dh (S:=w.heap.size) h2 (pr t1 v).toArray (by omega));clear h2 h3 h4 J3 hx;go_wp2_with (first|(refine DK (o:=⟨some 15,_,_,_,_,_⟩) rfl _ _ rfl t1 v (by obtain⟨a,c,h⟩:=hv;exact⟨a,_,c,h⟩) rfl rfl ?_)|(with_reducible refine au (o:=⟨none,_,_,_,_,_⟩) rfl _ _ _ rfl w.heap.size cD (pr t1 v) rfl rfl kK (bJ.trans rfl) rfl (fq t1 kh) ?_));obtain⟨T2,BO⟩:=kK.setRow (pr t1 v);exact bodyPost_ret (v:=.agg (pr t1 v).toArray) (results_cell_row (fn:=Tryz.f76) rfl _ _ w.heap.size T2 _ (0,0) _ rfl BO underlying96 rfl (bJ.trans rfl)) rfl (Hm.ko (a:=(t1,ts)) Ff.o (eP O1.o lL) (J4.o.cur.aG (by omega) _) (J4.o.but.trans (cA.aH (below_setRow (Below.refl _ _) ν _))))
def uJ(g h:Nat)(w:World):CallsD prog 103 #[.pointer (some ⟨g,0,none⟩),.pointer (some ⟨h,0,none⟩)] .returning w λe u' w'=>e=.returned (.tuple #[])/\u'=.returning/\w'=w:=by refine callsD_of_wpS func103 rfl λuH cs hu=>?_;simp only[ntmps103,List.size_toArray,List.length_cons,List.length_nil,Nat.reduceAdd,Nat.reduceSub,Array.replicate_succ,Array.replicate_zero,List.push_toArray,List.append_toArray,List.nil_append,List.cons_append];apply wpS_seq;apply wpS_region;simp[wpOpsS,go_sem,recoverD,hu,Exit.thenS];refine wpS_of_wp ?_;go_wp2_with fail;cases uH;simp_all[bodyPostS,results,results103]
def jb(g h:Nat)(n m:Int)(l:List Value)(w:World)(hg:Row w g l)(hh:Row w h [.int .i64 m])(hl:l.length=2)(cE:g≠h):CallsD prog 103 #[.pointer (some ⟨g,0,none⟩),.pointer (some ⟨h,0,none⟩)] (.panicking (fI n)) w λe u' w'=>e=.returned (.tuple #[])/\u'=.panicking [{v:=.iface 146 (.agg #[.int .i64 n]),recovered:=true}]/\Row w' g cD/\Row w' h [.int .i64 n]/\aV (λk=>k=g∨k=h) w w':=by
 refine callsD_of_wpS func103 rfl λuH cs hu=>?_;simp only[ntmps103,List.size_toArray,List.length_cons,List.length_nil,Nat.reduceAdd,Nat.reduceSub,Array.replicate_succ,Array.replicate_zero,List.push_toArray,List.append_toArray,List.nil_append,List.cons_append];apply wpS_seq;apply wpS_region;unfold fI at hu;have Y5:=th n;simp[wpOpsS,go_sem,recoverD,hu,Exit.thenS];refine wpS_of_wp ?_;have hzg:=hg.lt;have hzh:=hh.lt;have r1:Row ((w.alloc (.cells #[.int .i64 n] 146)).alloc (.cells #[.string (str []),.slice none 0 0] 96)) w.heap.size [.int .i64 n]:=(Row.new w [.int .i64 n] 146).alloc _;have r2:Row ((w.alloc (.cells #[.int .i64 n] 146)).alloc (.cells #[.string (str []),.slice none 0 0] 96)) (w.heap.size+1) cD:=by have:=Row.new (w.alloc (.cells #[.int .i64 n] 146)) cD 96;rw[World.size_alloc]at this;exact this
 have r3:Row ((w.alloc (.cells #[.int .i64 n] 146)).alloc (.cells #[.string (str []),.slice none 0 0] 96)) g l:=(hg.alloc _).alloc _;have r4:Row ((w.alloc (.cells #[.int .i64 n] 146)).alloc (.cells #[.string (str []),.slice none 0 0] 96)) h [.int .i64 m]:=(hh.alloc _).alloc _;have kk:aV (λk=>k=g∨k=h) w ((w.alloc (.cells #[.int .i64 n] 146)).alloc (.cells #[.string (str []),.slice none 0 0] 96)):=((aV.refl _ _).alloc _).alloc _;clear hg hh;go_wp2_with fail;generalize(w.alloc _).alloc _=w1 at r1 r2 r3 r4 kk|-;generalize w.heap.size=A at *;have hu:∀u:ax.Of (λu=>Row u A [.int .i64 n]/\Row u (A+1) cD),u.w.cell? ⟨A,0,none⟩=some (.int .i64 n):=λu=>u.h.1.cell 0;haveI aaO:Nonempty (ax.Of (λu=>Row u A [.int .i64 n]/\Row u (A+1) cD)):=⟨⟨w1,r1,r2⟩⟩;refine ax.bM [0,1,2] 2 mixed (by kernel_rfl) rfl rfl (λc a d v w h=>by cases d<;>exact h) (by as_aux_lemma=>kernel_rfl) rfl (λu=>Row u A [.int .i64 n]/\Row u (A+1) cD) ⟨r1.drew,r2.drew⟩ ?_;show wpQuiet _ _ _ _ [_,_,_] _;refine fJ (o:=⟨some 12,_,_,_,_,_⟩) rfl _ _ rfl (A+1) cD rfl (λw hw=>by obtain⟨u,rfl⟩:=hw;exact u.h.2) _ underlying96 (bJ.trans rfl) _ rfl ?_;go_frame;repeat(go_big_quiet_step (fail))
 refine wpQuiet_nil ?_;have r1:=r1.drew;have r2:=r2.drew;have r3:=r3.drew;have r4:=r4.drew;have kk:=kk.drew;generalize w1.drew=w2 at r1 r2 r3 r4 kk|-;refine ax.one 3 _ (by kernel_rfl) rfl rfl ?_;refine au rfl _ _ _ rfl g l cD rfl rfl r3 (bJ.trans rfl) (by rw[hl];rfl) (by decide +kernel) ?_;have s1:=r1.aG (g:=g) (by omega) cD.toArray;have s2:=r2.aG (g:=g) (by omega) cD.toArray;have s3:=r3.setRow cD;have s4:=r4.aG (g:=g) (Ne.symm cE) cD.toArray;have kk:=kk.setRow g cD.toArray (.inl rfl);generalize w2.setRow g _=w3 at s1 s2 s3 s4 kk|-;refine⟨ax.aq ⟨s1,s2⟩,?_⟩;refine ax.one 4 _ (by kernel_rfl) rfl rfl ?_;have hz:=s4.free 0;have hc:=s4.cell 0;try go_frame
 go_wp2_with fail;refine⟨ax.aq ⟨s1.other (show h≠A by omega) _,s2.other (show h≠A+1 by omega) _⟩,?_⟩
 refine wpAnyH_done (by kernel_rfl) ?_ 0;go_wp2_with fail;refine⟨rfl,_,rfl,.tuple #[],results_none rfl _ _ _,rfl,rfl,s3.other (Ne.symm cE) _,s4.set 0 _,kk.set _ _ (.inr rfl)⟩
def tB(l:List UInt8)(w:World)(hT:cG w)(hl:l.length<=9223372036854775807):Calls prog 75 #[.string (str l),.func (.func 76) #[] #[]] w (uU (Wr.dp l) (λa=>a.1) 3 1 (λa=>a.2.length) (λa=>oN a.2) w):=by
 have hmf:=EC;have gM:=hT.lt;have HT:=η hT;have EQ:=η (show Wr.dp l=(Wr.QJ l).bind λa r=>if r=[]then .ok a r else .bad 5 from rfl);have r1:Row (((w.alloc (.cells #[.string (str []),.slice none 0 0] 96)).alloc (.cells #[.int .i64 0] 29)).alloc (.cells #[.string (str l)] 120)) w.heap.size cD:=((Row.new w cD 96).alloc _).alloc _;have r2:Row (((w.alloc (.cells #[.string (str []),.slice none 0 0] 96)).alloc (.cells #[.int .i64 0] 29)).alloc (.cells #[.string (str l)] 120)) (w.heap.size+1) [.int .i64 0]:=by have:=Row.new (w.alloc (.cells cD.toArray 96)) [.int .i64 0] 29;rw[World.size_alloc]at this;exact this.alloc _
 have r3:Row (((w.alloc (.cells #[.string (str []),.slice none 0 0] 96)).alloc (.cells #[.int .i64 0] 29)).alloc (.cells #[.string (str l)] 120)) (w.heap.size+2) [.string (str l)]:=by have:=Row.new ((w.alloc (.cells cD.toArray 96)).alloc (.cells #[.int .i64 0] 29)) [.string (str l)] 120;rw[World.size_alloc,World.size_alloc]at this;exact this
 have hB:Below w.heap.size w (((w.alloc (.cells #[.string (str []),.slice none 0 0] 96)).alloc (.cells #[.int .i64 0] 29)).alloc (.cells #[.string (str l)] 120)):=(((Below.refl _ _).alloc ν _).alloc (by simp) _).alloc (by simp;omega) _;clear hT;go_enter_defers func75,ntmps75;go_wp2_with fail;generalize((w.alloc _).alloc _).alloc _=w1 at r1 r2 r3 hB|-;have HB:=η hB;have hz:=hB.size;have lL:=r3.lt;have R1:=η r1;have R2:=η r2;have T1:=η (CG (w.heap.size+2) l w1 (HT.o.below hB gM) (by omega) r3 hl)
 clear r1 r2 r3 hB;refine T1.o.mono ?_;clear T1;cases hx:Wr.QJ l with
 |bad n=>rintro e w2⟨rfl,h⟩;rw[hx]at EQ;have H1:=h.row R1.o R1.o.lt (by omega);have H2:=h.row R2.o R2.o.lt (by omega);refine leaves_cons (f:=103) (args:=#[.pointer (some ⟨w.heap.size,0,none⟩),.pointer (some ⟨w.heap.size+1,0,none⟩)]) (by simp) (by simp[go_sem]) ?_;refine(jb w.heap.size (w.heap.size+1) n 0 cD w2 H1 H2 rfl (by omega)).mono ?_;rintro e u' w3⟨rfl,rfl,h5,h6,h7⟩;refine⟨_,cV rfl _ _ w.heap.size (w.heap.size+1) cD n rfl rfl h5 h6 _ underlying96 (bJ.trans rfl),?_⟩;exact uU.bh EQ.o (HB.o.trans ⟨h7.os.trans h.os,h7.tape.trans h.tape,h7.output.trans h.output,Nat.le_trans h.size h7.size,λk hk=>(h7.block k (by have:=h.size;omega) (by omega)).trans (h.block k (by omega) (by omega))⟩)
 |ok t r=>
 rintro e w2⟨v,rfl,ho,h3,h⟩;rw[hx]at EQ;have iH:=η (show Wr.dp l=if r=[]then .ok t r else .bad 5 from EQ.o);have H1:=h.row R1.o R1.o.lt (by omega);have H2:=h.row R2.o R2.o.lt (by omega);have gK:=h.size;have kh:=dN ho;have B2:=η (show Below w.heap.size w w2 from HB.o.trans ⟨h.os,h.tape,h.output,h.size,λk hk=>h.block k (by omega) (by omega)⟩);have S1:=η (H1.setRow (pr t.1 v));have S2:=η (H2.aG (g:=w.heap.size) (by omega) (pr t.1 v).toArray);have S3:=η (h3.aG (g:=w.heap.size) (by omega) (pr t.1 v).toArray);have B3:=η (below_setRow B2.o ν (pr t.1 v).toArray);have O3:=η (dh (S:=w.heap.size) ho (pr t.1 v).toArray (by omega));clear EQ h h3 H2 R1 R2 HB hx ho;go_wp2_with (with_reducible refine au (o:=⟨none,_,_,_,_,_⟩) rfl _ _ _ rfl w.heap.size cD (pr t.1 v) rfl rfl H1 (bJ.trans rfl) rfl (fq t.1 kh) ?_);clear H1;generalize w2.setRow _ _=w3 at S1 S2 S3 B3 O3|-;refine(nt (w.heap.size+2) r w3 S3.o).mono ?_;by_cases hr:r=[]
 ·simp only[if_pos hr];rintro e w4⟨rfl,rfl⟩;have kK:=S1.o;have S4:=η (S2.o.aG (g:=w.heap.size) (by omega) (pr t.1 v).toArray);have S5:=η (S1.o.setRow (pr t.1 v));have B5:=η (below_setRow B3.o ν (pr t.1 v).toArray);have O5:=η (dh (S:=w.heap.size) O3.o (pr t.1 v).toArray (by omega));have Pf:=S4.o.free 0;have Zb:=S4.o.cell 0;go_wp2_with (first|(refine dW (o:=⟨some 19,_,_,_,_,_⟩) rfl _ _ rfl w.heap.size (pr t.1 v) rfl kK _ underlying96 (bJ.trans rfl) _ rfl ?_)|(with_reducible refine au (o:=⟨none,_,_,_,_,_⟩) rfl _ _ _ rfl w.heap.size (pr t.1 v) (pr t.1 v) rfl rfl kK (bJ.trans rfl) rfl (fq t.1 kh) ?_));refine leaves_cons (f:=103) (args:=#[.pointer (some ⟨w.heap.size,0,none⟩),.pointer (some ⟨w.heap.size+1,0,none⟩)]) (by simp) (by simp[go_sem]) ?_;refine(uJ w.heap.size (w.heap.size+1) _).mono ?_;rintro e u' w5⟨rfl,rfl,rfl⟩;refine⟨_,cV rfl _ _ w.heap.size (w.heap.size+1) (pr t.1 v) 0 rfl rfl (S5.o.other (show w.heap.size+1≠w.heap.size by omega) _) (S4.o.set 0 _) _ underlying96 (bJ.trans rfl),?_⟩;exact uU.ko (iH.o.trans (if_pos hr)) (eP (bt O5.o _ (by show w.heap.size+1<_;omega)) hz) (B5.o.setCell (show w.heap.size<=w.heap.size+1 by omega) _)
 simp only[if_neg hr];rintro e w4⟨rfl,rfl⟩;refine leaves_cons (f:=103) (args:=#[.pointer (some ⟨w.heap.size,0,none⟩),.pointer (some ⟨w.heap.size+1,0,none⟩)]) (by simp) (by simp[go_sem]) ?_;refine(jb w.heap.size (w.heap.size+1) 5 0 (pr t.1 v) w4 S1.o S2.o rfl (by omega)).mono ?_;rintro e u' w5⟨rfl,rfl,h5,h6,h7⟩;refine⟨_,cV rfl _ _ w.heap.size (w.heap.size+1) cD 5 rfl rfl h5 h6 _ underlying96 (bJ.trans rfl),?_⟩;exact uU.bh (k:=5) (iH.o.trans (if_neg hr)) (B3.o.trans ⟨h7.os,h7.tape,h7.output,h7.size,λk hk=>h7.block k (by have:=B3.o.size;omega) (by omega)⟩)
def rZ(l:List UInt8)(w:World)(hT:cG w)(hl:l.length<=9223372036854775807):Calls prog 41 #[.string (str l)] w (uU (Wr.dp l) (λa=>a.1) 3 1 (λa=>a.2.length) (λa=>oN a.2) w):=by
 have gM:=hT.lt;have r1:Row (w.alloc (.cells #[.string (str []),.slice none 0 0] 96)) w.heap.size cD:=Row.new w cD 96;have hB:Below w.heap.size w (w.alloc (.cells #[.string (str []),.slice none 0 0] 96)):=(Below.refl _ _).alloc ν _;go_enter func41,ntmps41;go_wp2_with fail;generalize w.alloc _=w1 at r1 hB|-;have HB:=η hB;have R1:=η r1;have hz:=r1.lt;have T1:=η (tB l w1 (hT.below hB gM) hl);clear hT hB r1;refine T1.o.mono ?_;clear T1;cases hx:Wr.dp l with
 |bad n=>have EQ:=η hx;clear hx;rintro e w2⟨rfl,h2⟩;have H1:=R1.o.below h2 hz;have B2:=η (HB.o.trans (h2.mono (by omega)));have S1:=η (H1.setRow cD);have B3:=η (below_setRow B2.o ν cD.toArray);clear h2 R1 HB;go_wp2_with (with_reducible refine au (o:=⟨none,_,_,_,_,_⟩) rfl _ _ _ rfl w.heap.size cD cD rfl rfl H1 (bJ.trans rfl) rfl (by decide +kernel) ?_);exact bodyPost_ret (v:=.tuple #[.agg cD.toArray,.int .i64 n]) (cn rfl _ _ w.heap.size cD (.int .i64 n) rfl rfl S1.o _ underlying96 (bJ.trans rfl)) rfl (uU.bh EQ.o B3.o)
 |ok t r=>have EQ:=η hx;clear hx;rintro e w2⟨v,rfl,ho,h2⟩;have kh:=dN ho;have H1:=R1.o.below h2 hz;have B2:=η (HB.o.trans (h2.mono (by omega)));have S1:=η (H1.setRow (pr t.1 v));have B3:=η (below_setRow B2.o ν (pr t.1 v).toArray);have O3:=η (dh (S:=w.heap.size) ho (pr t.1 v).toArray (by omega));clear h2 R1 HB ho;go_wp2_with (with_reducible refine au (o:=⟨none,_,_,_,_,_⟩) rfl _ _ _ rfl w.heap.size cD (pr t.1 v) rfl rfl H1 (bJ.trans rfl) rfl (fq t.1 kh) ?_);exact bodyPost_ret (v:=.tuple #[.agg (pr t.1 v).toArray,.int .i64 0]) (cn rfl _ _ w.heap.size (pr t.1 v) (.int .i64 0) rfl rfl S1.o _ underlying96 (bJ.trans rfl)) rfl (uU.ko EQ.o (eP O3.o (by omega)) B3.o)
def Ql(gs ts:List (List UInt8))(i:Nat)(hg:i<gs.length)(ht:i<ts.length):En.told (gs.take (i+1)) (ts.take (i+1))=En.told (gs.take i) (ts.take i)++(gs.getD i []++ts.getD i []):=by rw[List.take_succ_eq_append_getElem hg,List.take_succ_eq_append_getElem ht,En.DY _ _ _ _ (by simp;omega),List.getD_eq_getElem?_getD,List.getD_eq_getElem?_getD,List.getElem?_eq_getElem hg,List.getElem?_eq_getElem ht];rfl
theorem BU:∀(al:List Int)(lo:Int)(i:Nat),((En.dz lo al).getD i []).length<=9
 |[],lo,i=>by simp[En.dz]|a::al,lo,0=>by simp[En.dz];exact eF _|a::al,lo,i+1=>by have:=BU al (a+1) i;simpa[En.dz]using this
def cQ(h n:List UInt8)(sv av tv:Value):List Value:=[.string (str h),.string (str n),sv,av,tv]
def sR(h n:List UInt8)(sv av tv:Value)(ae ts:List (List UInt8))(al:List Int)(B N:Nat)(w:World) (hs:w.ownsRow B 9 1 sv ae.length (wt ae)) (ha:dC w av al) (ht:w.ownsRow B 69 33 tv ts.length (aK ts)) (hr:En.qh N 0 al) (hN:N<=16) (hal:al.length<=16) (yL:ts.length=al.length) (EM:ae.length<=16) (h6:∀s∈ae,s.length<=610) (anw:∀t∈ts,t.length<=610) (hh:h.length<=100) (hn:n.length<=100):Calls prog 40 #[.agg (cQ h n sv av tv).toArray] w λe w'=>e=.returned (.string (str (En.bytes h n ae al ts)))/\Below w.heap.size w w':=by
 obtain⟨sa,sc,rfl⟩:=aO hs;obtain⟨ta,tc,rfl⟩:=aO ht;obtain⟨aa,ac,rfl⟩:=ha.form;have rA:Row (w.alloc (.cells (cQ h n (.slice sa ae.length sc) (.slice aa al.length ac) (.slice ta ts.length tc)).toArray 82)) w.heap.size (cQ h n (.slice sa ae.length sc) (.slice aa al.length ac) (.slice ta ts.length tc)):=Row.new w _ _;have hB:Below w.heap.size w (w.alloc (.cells (cQ h n (.slice sa ae.length sc) (.slice aa al.length ac) (.slice ta ts.length tc)).toArray 82)):=(Below.refl _ _).alloc ν _;have HS:=η hs;have HA:=η ha;have HT:=η ht;have HR:=η hr;have H6:=η h6;have awc:=η anw;have EQ:=η (show En.bytes h n ae al ts=h++n++(Wr.dD ae.length++ae.flatten)++(Wr.dD al.length++En.told (En.dz 0 al) ts)from rfl);have q1:IntKind.u64.wrap (ae.length:Int)=ae.length:=by rw[fV,lK];omega
 have q2:IntKind.u64.wrap (al.length:Int)=al.length:=by rw[fV,lK];omega
 have ku:=eF ae.length;have gK:=eF al.length;have HTL:=η yL;have La:ts.length<=16:=by omega
 clear hs ha ht hr h6 anw yL;obtain⟨res,n6⟩:∃res,En.bytes h n ae al ts=res:=⟨_,rfl⟩;rw[n6]at EQ|-;clear n6;go_enter func40,ntmps40;go_upto_region 1 with fail;generalize w.alloc _=w1 at rA hB|-;obtain⟨A,hA⟩:∃A,w.heap.size=A:=⟨_,rfl⟩;rw[hA]at rA|-;have Gp:∀u:ax.Of (λu=>Row u A (cQ h n (.slice sa ae.length sc) (.slice aa al.length ac) (.slice ta ts.length tc))),u.w.cell? ⟨A,0,none⟩=some (.string (str h)):=λu=>u.h.cell 0;have yl:∀u:ax.Of (λu=>Row u A (cQ h n (.slice sa ae.length sc) (.slice aa al.length ac) (.slice ta ts.length tc))),u.w.cell? ⟨A,1,none⟩=some (.string (str n)):=λu=>u.h.cell 1;have rn:∀u:ax.Of (λu=>Row u A (cQ h n (.slice sa ae.length sc) (.slice aa al.length ac) (.slice ta ts.length tc))),u.w.cell? ⟨A,2,none⟩=some (.slice sa ae.length sc):=λu=>u.h.cell 2;haveI cE:Nonempty (ax.Of (λu=>Row u A (cQ h n (.slice sa ae.length sc) (.slice aa al.length ac) (.slice ta ts.length tc)))):=⟨⟨w1,rA⟩⟩;refine ax.bM [0,1,2,3,4,5,6,7,8] 3 mixed (by kernel_rfl) rfl rfl (λc a d v w h=>by cases d<;>exact h) (by as_aux_lemma=>kernel_rfl) rfl (λu=>Row u A (cQ h n (.slice sa ae.length sc) (.slice aa al.length ac) (.slice ta ts.length tc))) rA.drew ?_;show wpQuiet _ _ _ _ [_,_,_,_,_,_,_,_,_] _;repeat(go_big_quiet_step (fail))
 refine wpQuiet_nil ?_;have r2:=rA.drew;have B2:=η hB.drew;have T1:=η (jY ae.length w1.drew (by omega));have Y3:=r2.lt;clear rA hB Gp yl rn;generalize w1.drew=w2 at r2 B2 T1 Y3|-;refine ax.one 9 _ (by kernel_rfl) rfl rfl ?_;try go_frame
 go_wp2_with fail;refine T1.o.mono ?_;clear T1;obtain⟨z1,ahO⟩:∃z,Wr.dD ae.length=z:=⟨_,rfl⟩;obtain⟨z2,JJ⟩:∃z,Wr.dD al.length=z:=⟨_,rfl⟩;rw[ahO,JJ]at EQ;rw[ahO]at ku|-;rw[JJ]at gK;have Z2:=η JJ;clear ahO JJ;rintro e w3⟨rfl,hb⟩;have r3:=r2.below hb Y3;have B3:=η (B2.o.trans (hb.mono (by omega)))
 have ahN:A<w3.heap.size:=by have:=hb.size;omega
 clear hb r2 B2 Y3;have Xv:(h++n).length<=200:=by rw[List.length_append];omega
 go_wp2_with fail;refine⟨ax.aq r3,?_⟩;refine ax.one 10 _ (by kernel_rfl) rfl rfl ?_
 try go_frame
 go_wp2_with fail;refine⟨ax.aq r3,?_⟩;refine ax.one 11 _ (by kernel_rfl) rfl rfl ?_
 try go_frame
 go_wp2_with fail;refine⟨ax.aq r3,?_⟩;refine wpAnyH_done (by kernel_rfl) ?_ 0
 have hp1:(h++(n++z1)).length<=300:=by rw[List.length_append]at Xv;rw[List.length_append,List.length_append];omega
 have axz:(n++z1).length<=300:=by rw[List.length_append]at Xv|-;omega
 generalize hP:h++(n++z1)=p1 at hp1|-;have HP:=η hP;clear hP;have ur:=r3.cell 2;rw[show(cQ h n (.slice sa ae.length sc) (.slice aa al.length ac) (.slice ta ts.length tc))[2]? =some (.slice sa ae.length sc)from rfl]at ur;go_wp2_with fail;clear ur;go_loopw [3,5,22] (λsv xv iv wr=>∃(i:Nat)(s:List UInt8),i<=ae.length/\iv=.int .i64 i/\sv=.string (str s)/\s.length<=300+610*i/\s=p1++(ae.take i).flatten/\wr=w3) (λ_ _ iv _=>ae.length-(intOf iv).toNat);exact⟨0,p1,by omega,rfl,rfl,by omega,by simp,rfl⟩;obtain⟨i,s,hi,rfl,rfl,hsn,uk,rfl⟩:=hrel;have HE:=η uk;clear uk;by_cases aM:i<ae.length
 ·have p2:(i:Int)< (ae.length:Int):=by omega
  obtain⟨g,Ct,JK,_,hg,nj⟩:=fK HS.o (by omega:0<ae.length);cases JK;have ht:(ae.getD i []).length<=610:=H6.o _ (by rw[List.getD_eq_getElem?_getD,List.getElem?_eq_getElem aM];exact List.getElem_mem aM);have HT1:=η (uY ae i aM);have hc:wr.cell? ⟨g,i,none⟩=some (.string (str (ae.getD i []))):=by rw[<-NU ae i aM,<-nj i (by omega)];exact World.cell?_of_block (w:=w) (B3.o.block g (by omega))
  obtain⟨t,het⟩:∃t,ae.getD i []=t:=⟨_,rfl⟩;rw[het]at ht HT1 hc;clear nj het;go_wp2_with fail;go_roundw
  ·exact⟨i+1,s++t,by omega,by go_num,rfl,by rw[List.length_append];omega,by rw[HE.o,HT1.o,List.append_assoc],by first|trivial|rfl⟩
  simp[intOf];omega
 obtain rfl:i=ae.length:=by omega
 have HE2:=η (show s=p1++ae.flatten by rw[HE.o,List.take_of_length_le ν]);have hs3:s.length<=11000:=by omega
 have JY:=r3.cell 3;rw[show(cQ h n (.slice sa ae.length sc) (.slice aa al.length ac) (.slice ta ts.length tc))[3]? =some (.slice aa al.length ac)from rfl]at JY;have T1:=η (jY al.length wr (by omega));rw[Z2.o]at T1;clear HE hsn;go_wp2_with fail;refine T1.o.mono ?_;clear T1 JY;rintro e w4⟨rfl,hb⟩;have r4:=r3.below hb ahN;have B4:=η (B3.o.trans (hb.mono (by omega)));have asL:A<w4.heap.size:=by have:=hb.size;omega
 clear hb;have PB:=r4.cell 3;rw[show(cQ h n (.slice sa ae.length sc) (.slice aa al.length ac) (.slice ta ts.length tc))[3]? =some (.slice aa al.length ac)from rfl]at PB;have T2:=η (xf (.slice aa al.length ac) al N w4 ((HA.o.below B4.o ν)) HR.o (by omega) (by omega));go_wp2_with fail;refine T2.o.mono ?_;clear T2 PB;rintro e w5⟨gv,rfl,hog,hb⟩;have r5:=r4.below hb asL;have B5:=η (B4.o.trans (hb.mono (by omega)))
 have aAQ:A<w5.heap.size:=by have:=hb.size;omega
 have OG:=η hog;obtain⟨ga,gc,rfl⟩:=aO hog;clear hb hog;have lC:(s++z2).length<=11100:=by rw[List.length_append];omega
 go_wp2_with fail;generalize hQ:s++z2=p3 at lC|-;have HQ:=η hQ;clear hQ;go_loopw [3,6,7,41] (λsv kv xv iv wq=>∃(i:Nat)(s':List UInt8),i<=al.length/\iv=.int .i64 i/\sv=.string (str s')/\s'.length<=11100+620*i/\s'=p3++En.told ((En.dz 0 al).take i) (ts.take i)/\wq=w5) (λ_ _ _ iv _=>al.length-(intOf iv).toNat)
 exact⟨0,p3,by omega,rfl,rfl,by omega,by simp[En.told],rfl⟩;obtain⟨i,s',hi,rfl,rfl,hsn,uk,rfl⟩:=hrel;have HE:=η uk;clear uk;by_cases aM:i<al.length
 ·have p2:(i:Int)< (al.length:Int):=by omega
  have hit:i<ts.length:=by rw[HTL.o];exact aM
  have p4:(i:Int)< (ts.length:Int):=by omega
  have Lc:(wt (En.dz 0 al)).length=al.length:=by simp[wt,En.gn]
  obtain⟨g,Ct,JK,_,hg,nj⟩:=fK OG.o (by omega:0<al.length);cases JK;have Le:i< (En.dz 0 al).length:=by rw[En.gn];exact aM
  have hc:wr.cell? ⟨g,i,none⟩=some (.string (str ((En.dz 0 al).getD i []))):=by rw[<-NU _ i Le,<-nj i (by omega)]
  have hg9:=BU al 0 i;obtain⟨gt,ct,JK,_,hgt,Y5⟩:=lY HT.o (by omega:0<ts.length);cases JK;have ht:(ts.getD i []).length<=610:=awc.o _ (by rw[List.getD_eq_getElem?_getD,List.getElem?_eq_getElem hit];exact List.getElem_mem hit);have hct:wr.cell? ⟨gt,i*33,none⟩=some (.string (str (ts.getD i []))):=by have:=Y5 i hit 0 (.string (str (ts.getD i []))) rfl;rw[<-this,Nat.add_zero,Nat.mul_comm];exact World.cell?_of_block (w:=w) (B5.o.block gt (by omega))
  have HT1:=η (Ql (En.dz 0 al) ts i Le hit);have Zb:=r5.cell 4;rw[show(cQ h n (.slice sa ae.length sc) (.slice aa al.length ac) (.slice (some ⟨gt,0,none⟩) ts.length tc))[4]? =some (.slice (some ⟨gt,0,none⟩) ts.length tc)from rfl]at Zb;obtain⟨t,het⟩:∃t,ts.getD i []=t:=⟨_,rfl⟩;obtain⟨y,hye⟩:∃y,(En.dz 0 al).getD i []=y:=⟨_,rfl⟩;rw[het]at ht HT1 hct;rw[hye]at hg9 HT1 hc;have hyt:(y++t).length<=620:=by rw[List.length_append];omega
  clear nj het Y5 hye hit Le Lc;go_wp2_with fail;go_roundw
  ·exact⟨i+1,s'++(y++t),by omega,by go_num,rfl,by rw[List.length_append];omega,by rw[HE.o,HT1.o,List.append_assoc],by first|trivial|rfl⟩
  simp[intOf];omega
 obtain rfl:i=al.length:=by omega
 go_wp2_with fail;go_ret;refine⟨?_,B5.o⟩;have h1:En.told ((En.dz 0 al).take al.length) (ts.take al.length)=En.told (En.dz 0 al) ts:=by rw[List.take_of_length_le (by rw[En.gn];exact ν),List.take_of_length_le (by rw[HTL.o];exact ν)]
 rw[EQ.o,show s'=p3++En.told (En.dz 0 al) ts by rw[HE.o,h1],<-HQ.o,HE2.o,<-HP.o];show _=Ending.returned (.string (str _));simp only[List.append_assoc];rfl
def Yb(n:Nat)(al:List Int)(i:Nat)(h:i<al.length)(hE:En.ee n 0 al=En.ee n (En.jq 0 (al.take i)) (al.drop i)):En.ee n 0 al=if al.getD i 0<0∨(n:Int)<=al.getD i 0 then 4 else if al.getD i 0<En.jq 0 (al.take i)then 11 else En.ee n (En.jq 0 (al.take (i+1))) (al.drop (i+1)):=by
 rw[hE,List.drop_eq_getElem_cons h,vR al 0 i h];have e:al.getD i 0=al[i]:=by rw[List.getD_eq_getElem?_getD,List.getElem?_eq_getElem h];rfl
 rw[e];rfl
def RM(al:List Int)(i:Nat)(h0:0<i)(h:i<=al.length):En.jq 0 (al.take i)=al.getD (i-1) 0+1:=by have:=vR al 0 (i-1) (by omega);rwa[show i-1+1=i by omega]at this
def GI(n:Nat)(al:List Int):En.chk n al=if En.ee n 0 al≠0 then En.ee n 0 al else if al.headD 1=0 then 0 else 11:=rfl
def ahE(w:World):(Instr.makeSlice 64 (.int .i64 8) (.int .i64 8)).run prog w=.ok (.slice (some ⟨w.heap.size,0,none⟩) 8 8) (w.alloc (.cells (w8 [0,0,0,0,0,0,0,0]).toArray 5)):=by kernel_rfl
def ue:(prog.info? 82).map (·.size)=some 5:=by kernel_rfl
def Ro{w:World}{B B' n m:Nat}{e e':TypeId}{z z':Nat}{v u:Value}{xs ys:List Value}(h:w.ownsRow B e z v n xs)(k:w.ownsRow B' e' z' u m ys)(he:e≠e'):v.ownBlock=none∨v.ownBlock≠u.ownBlock:=by
 rcases h.2 with⟨rfl,_⟩|⟨g,cap,cur,rfl,_,hg,_⟩;exact .inl rfl;refine .inr λhh=>?_;rcases k.2 with⟨rfl,_⟩|⟨g',Ct,avy,rfl,_,Hz,_⟩;cases hh;have:g=g':=by simpa[Value.ownBlock]using hh
 subst this;rw[hg]at Hz;cases Hz;exact he rfl
def Row.grown{w w':World}{b:Nat}{l:List Value}{row:Option Nat}(h:Row w b l)(hg:w.grownBy w' row)(cE:row≠some b):Row w' b l:=by have hl:=h.lt;obtain⟨T,h⟩:=h;exact⟨T,by rw[hg.block b hl (λhh=>cE hh.symm)];exact h⟩
theorem JG(f:List UInt8->List UInt8)(al:List Int)(ts:List (List UInt8)):∀i,(En.kept f al ts i).length<=i
 |0=>ν|i+1=>by have:=JG f al ts i;rw[En.kept];split;omega;rw[List.length_append];simp;omega
theorem IA(al:List Int)(ts:List (List UInt8)):∀i,(En.ah al ts i).length<=i
 |0=>ν|i+1=>by have:=IA al ts i;rw[En.ah];split;rw[List.length_append];simp;omega;omega
def Wf(f:List UInt8->List UInt8)(al:List Int)(ts:List (List UInt8))(i:Nat)(h:(i:Int)∈al):En.kept f al ts (i+1)=En.kept f al ts i:=by rw[En.kept,if_pos h]
def aat(f:List UInt8->List UInt8)(al:List Int)(ts:List (List UInt8))(i:Nat)(h:¬(i:Int)∈al):En.kept f al ts (i+1)=En.kept f al ts i++[f (ts.getD i [])]:=by rw[En.kept,if_neg h]
def UZ(al:List Int)(ts:List (List UInt8))(i:Nat)(h:(i:Int)∈al):En.ah al ts (i+1)=En.ah al ts i++[ts.getD i []]:=by rw[En.ah,if_pos h]
def ZE(al:List Int)(ts:List (List UInt8))(i:Nat)(h:¬(i:Int)∈al):En.ah al ts (i+1)=En.ah al ts i:=by rw[En.ah,if_neg h]
theorem Bg{P:List UInt8->Prop}(f:List UInt8->List UInt8)(al:List Int)(ts:List (List UInt8))(hf:∀t,P (f t)):∀i,∀s∈En.kept f al ts i,P s
 |0,s,h=>by cases h
 |i+1,s,h=>by rw[En.kept]at h;split at h;exact Bg f al ts hf i s h;rcases List.mem_append.1 h with h|h;exact Bg f al ts hf i s h;rw[List.mem_singleton.1 h];exact hf _
theorem zA{P:List UInt8->Prop}(al:List Int)(ts:List (List UInt8))(hP:∀i,P (ts.getD i [])):∀i,∀s∈En.ah al ts i,P s
 |0,s,h=>by cases h
 |i+1,s,h=>by rw[En.ah]at h;split at h;rcases List.mem_append.1 h with h|h;exact zA al ts hP i s h;rw[List.mem_singleton.1 h];exact hP _;exact zA al ts hP i s h
def Ll{w:World}{g:Nat}{t:List UInt8}(h:Row w g (ai t)):w.rangeAt g 1 (w8 (Mk.ak t)):=λj v hv=>by rw[h.cell];unfold ai;rw[Nat.add_comm,List.getElem?_cons_succ];exact hv
def Qx(al:List Int)(ts:List (List UInt8))(h:En.qh ts.length 0 al):(En.ah al ts ts.length).length=al.length:=by
 rw[En.wM ts.length al ts h];have e:En.Gi ts.length al=al:=by unfold En.Gi;rw[List.filter_eq_self];intro x hx;have:=En.FF _ al 0 h x hx;simpa using this
 rw[e]
def yY{uQ Hq:World}{base C n m m2:Nat}{o:Obj}{l xs ys ys2:List Value}{tv tv2 sv:Value}{eS eT:TypeId}{zS zT:Nat}(eX:base<=uQ.heap.size)(hC:C<base)(hRC:Row uQ C l) (Sj:uQ.ownsRow base eS zS sv n xs) (Ps:uQ.ownsRow base eT zT tv m ys) (he:eS≠eT) (bL:Hq.ownsRow base eT zT tv2 m2 ys2) (jO:(uQ.alloc o).grownBy Hq tv.ownBlock):∃pa pc,tv2=.slice pa m2 pc/\Row Hq C l/\Hq.ownsRow base eS zS sv n xs/\Below base uQ Hq:=by have hb:Below base uQ Hq:=((Below.refl base uQ).alloc eX _).grown jO (by rw[World.size_alloc];omega) (λk hk=>(Ps.lt k hk).1);obtain⟨pa,pc,h1⟩:=aO bL;exact⟨pa,pc,h1,hRC.below hb hC,(Sj.alloc o).kept jO (Ro (Sj.alloc o) (Ps.alloc o) he),hb⟩
def DJ(s n:ByteArray)(a:Option Addr)(l c:Nat):prog.built 82 [(0,.string s),(1,.string n),(3,.slice a l c)]=some #[.string s,.string n,.slice none 0 0,.slice a l c,.slice none 0 0]:=by kernel_rfl
def DL{ops:Array Oper}{rest:List Oper}{o:Oper}{a:Act}{w:World}{Q:Exit->Act->World->Prop}(jk:o.guard=none)(x y z:Operand)(ho:o.op=.build 82 #[(0,x),(1,y),(3,z)]) (s n:List UInt8) (ad:Option Addr) (l c:Nat) (hx:a.eval x=.string (str s)) (hy:a.eval y=.string (str n)) (hz:a.eval z=.slice ad l c) (h:wpList prog ops Q rest (a.put o.dst (.agg (cQ s n (.slice none 0 0) (.slice ad l c) (.slice none 0 0)).toArray)) w):wpList prog ops Q (o::rest) a w:=by refine wpList_buildTo jk 82 _ ho _ rfl _ ?_ h;simp only[List.map_toArray,List.map_cons,List.map_nil,hx,hy,hz];exact DJ (str s) (str n) ad l c
def cb0:List Value:=[.string (str []),.string (str []),.slice none 0 0,.slice none 0 0,.slice none 0 0]
def uF(blk:List UInt8)(aI:UInt64)(av:Value)(al:List Int)(w:World)(hT:cG w)(hl1:blk.length<=9223372036854775807)(ha:dC w av al)(hal:al.length<=1048576)(alP:∀j,j<al.length-> -9223372036854775808<=al.getD j 0/\al.getD j 0<=9223372036854775807):Calls prog 17 #[.string (str blk),.int .u64 (U aI),av] w λe w'=>e=.returned (YD (En.encode blk aI al))/\Below w.heap.size w w':=by
 have gM:=hT.lt;have HT:=η hT;have HA:=η ha;have av3:=η alP;have T1:=η (mL blk w hT hl1);have ES:=η (show En.encode blk aI al=match Wr.dx blk with
  |.bad e=>([],e)
  |.ok (h,bE) _=>if En.chk bE.length al≠0 then([],En.chk bE.length al)else
   (En.bytes h (Wr.low aI.toNat 8) (En.kept (En.short h (Wr.low aI.toNat 8)) al bE bE.length) al (En.ah al bE bE.length),0)from rfl)
 obtain⟨KQ,pS⟩:∃p,En.encode blk aI al=p:=⟨_,rfl⟩;rw[pS]at ES|-;obtain⟨aa,ac,rfl⟩:=ha.form;clear hT pS ha alP;go_enter func17,ntmps17;go_wp2_with fail;refine T1.o.mono ?_;clear T1;cases hx:Wr.dx blk with
 |bad n=>
 rintro e w1⟨rfl,hb⟩;rw[hx]at ES;have hn:=Rf.wV hx;have p1:¬(n:Int)=0:=by omega
 have r1:Row (w1.alloc (.cells #[.string (str []),.slice none 0 0] 101)) w1.heap.size cD:=Row.new w1 cD 101;have hB:Below w1.heap.size w1 (w1.alloc (.cells #[.string (str []),.slice none 0 0] 101)):=(Below.refl _ _).alloc ν _;have B1:=η (hb.trans ((below_setRow hB ν cD.toArray).mono hb.size));clear hx hb hB hn;go_wp2_with (with_reducible refine au (o:=⟨none,_,_,_,_,_⟩) rfl _ _ _ rfl w1.heap.size cD cD rfl rfl r1 (bP.trans rfl) rfl (by decide +kernel) ?_);go_ret2;exact⟨by rw[show KQ=([],n)from ES.o];rfl,B1.o⟩
 |ok a r=>
 obtain⟨h,ts⟩:=a;obtain⟨aiq,ahT,Pj,MN⟩:=Wr.P7 hx;rintro e w1⟨bv,rfl,Pt,hb⟩;rw[hx]at ES;dsimp only at aiq ahT Pj MN Pt ES;obtain⟨gb,cb,rfl,atV,yP,hTA⟩:=lY Pt (by omega);have r1:Row (w1.alloc (.cells #[.string (str []),.slice none 0 0] 101)) w1.heap.size cD:=Row.new w1 cD 101;have hB:Below w1.heap.size w1 (w1.alloc (.cells #[.string (str []),.slice none 0 0] 101)):=(Below.refl _ _).alloc ν _;have B1':=below_setRow hB ν (pr h (.slice (some ⟨gb,0,none⟩) ts.length cb)).toArray;have B1:=η (hb.trans (B1'.mono hb.size));have R1:=η (r1.setRow (pr h (.slice (some ⟨gb,0,none⟩) ts.length cb)));have HTA:=η (hTA.below B1' yP);have ku:=hb.size;have HS:=η MN;clear hx hb hB B1' Pt MN hTA;go_upto_region 4 with(with_reducible refine au (o:=⟨none,_,_,_,_,_⟩) rfl _ _ _ rfl w1.heap.size cD (pr h (.slice (some ⟨gb,0,none⟩) ts.length cb)) rfl rfl r1 (bP.trans rfl) rfl (fq h rfl) ?_);clear r1;generalize World.setRow _ _ _=w2 at B1 R1 HTA|-;obtain⟨A,hA⟩:∃A,w1.heap.size=A:=⟨_,rfl⟩;rw[hA]at R1 ku yP|-;clear hA;have Gv:=R1.o.lt;have EP:=η (show En.ee ts.length 0 al=En.ee ts.length (En.jq 0 (al.take 0)) (al.drop 0)by simp[En.jq]);have HA2:=η (HA.o.below B1.o ν);have hcA:=R1.o.cell 1;rw[show(pr h (.slice (some ⟨gb,0,none⟩) ts.length cb))[1]? =some (.slice (some ⟨gb,0,none⟩) ts.length cb)from rfl]at hcA;go_wp2_with fail;go_loopw [10,11,28] (λjv xv iv wr=>∃i:Nat,i<=al.length/\iv=.int .i64 i/\En.ee ts.length 0 al=En.ee ts.length (En.jq 0 (al.take i)) (al.drop i)/\wr=w2) (λ_ _ iv _=>al.length-(intOf iv).toNat);exact⟨0,by omega,rfl,EP.o,rfl⟩;clear EP;obtain⟨i,hi,rfl,hE,rfl⟩:=hrel;by_cases aM:i<al.length
 ·have p1:(i:Int)< (al.length:Int):=by omega
  have ST:=Yb ts.length al i aM hE;have LP:=RM al i;obtain⟨b,o,yQ,hbl,dL⟩:=HA2.o.at (by omega);subst yQ;have Uc:=dL i aM;obtain⟨x,Ws⟩:∃x,al.getD i 0=x:=⟨_,rfl⟩;rw[Ws]at ST Uc;by_cases c1:x<0∨(ts.length:Int)<=x
  ·rw[if_pos c1]at ST;have Lg:=η (show KQ=([],4)by rw[ES.o,GI,ST];rfl);clear ST LP dL hE Ws;by_cases c2:x<0
   ·clear c1;go_wp2_with fail;go_ret2;exact⟨by rw[Lg.o];rfl,B1.o⟩
   have c3:x≥ (ts.length:Int):=by omega
   clear c1;go_wp2_with fail;go_ret2;exact⟨by rw[Lg.o];rfl,B1.o⟩
  rw[if_neg c1]at ST;have c2:¬x<0:=λhh=>c1 (.inl hh);have c3:¬x≥ (ts.length:Int):=λhh=>c1 (.inr hh);clear c1;by_cases fy:0<i
  ·have p2:(i:Int)>0:=by omega
   have LP2:=LP fy hi;have hcp:=dL (i-1) (by omega);have hir:=av3.o (i-1) (by omega);have q1:wrap64 ((i:Int) - 1)=((i-1:Nat):Int):=by unfold wrap64;omega
   have q1':(i:Int) - 1=((i-1:Nat):Int):=by omega
   have q3:((i-1:Nat):Int)< (al.length:Int):=by omega
   obtain⟨y,hye⟩:∃y,al.getD (i-1) 0=y:=⟨_,rfl⟩;rw[hye]at hcp LP2;obtain⟨k,hk⟩:∃k,i-1=k:=⟨_,rfl⟩;rw[hk]at hcp q1 q1' q3;by_cases c4:x<=y
   ·rw[if_pos (by omega)]at ST;have Lg:=η (show KQ=([],11)by rw[ES.o,GI,ST];rfl);clear ST LP LP2 dL hE Ws hye hk hir;go_wp2_with fail;go_ret2;exact⟨by rw[Lg.o];rfl,B1.o⟩
   rw[if_neg (by omega)]at ST;have ST2:=η ST;clear ST LP LP2 dL hE Ws hye hk hir;go_wp2_with fail;go_roundw
   ·exact⟨i+1,by omega,by go_num,ST2.o,by first|trivial|rfl⟩
   simp[intOf];omega
  obtain rfl:i=0:=by omega
  rw[if_neg (by show¬x<0;exact c2)]at ST;rw[Nat.add_zero]at Uc;have ST2:=η ST;clear ST LP dL hE Ws;go_wp2_with fail;go_roundw
  ·exact⟨1,by omega,by go_num,ST2.o,by first|trivial|rfl⟩
  simp[intOf];omega
 obtain rfl:i=al.length:=by omega
 have CF:=η (show En.ee ts.length 0 al=0 by rw[hE,List.drop_length];rfl);have RI:=η (En.wQ ts.length al 0 CF.o);clear hE;by_cases hz:al.length=0
 ·have Lg:=η (show KQ=([],11)by obtain rfl:=List.eq_nil_of_length_eq_zero hz;rw[ES.o];rfl);clear aM;go_wp2_with fail;go_ret2;exact⟨by rw[Lg.o];rfl,B1.o⟩
 obtain⟨b,o,yQ,hbl,dL⟩:=HA2.o.at (by omega);subst yQ;have vV:=dL 0 (by omega);rw[Nat.add_zero]at vV;have HD:=η (show al.headD 1=al.getD 0 0 by cases al with
  |nil=>exact absurd rfl hz
  |cons y ys=>rfl)
 have atI:al.length<=16:=by rcases En.zN ts.length al 0 (by omega) RI.o with h1|h1;omega;subst h1;simp
 obtain⟨x0,hx0⟩:∃x0,al.getD 0 0=x0:=⟨_,rfl⟩;rw[hx0]at vV HD;clear hx0 dL;have p0:(0:Int)< (al.length:Int):=by omega
 by_cases hxz:x0=0
 ·subst hxz;have Lg:=η (show KQ=(En.bytes h (Wr.low aI.toNat 8) (En.kept (En.short h (Wr.low aI.toNat 8)) al ts ts.length) al (En.ah al ts ts.length),0)by
  have h0:En.chk ts.length al=0:=by rw[GI,CF.o,if_neg (λh=>h rfl),HD.o,if_pos rfl]
  rw[ES.o,h0];rfl)
  have hR:Row (wr.alloc (.cells (w8 [0,0,0,0,0,0,0,0]).toArray 5)) wr.heap.size (w8 [0,0,0,0,0,0,0,0]):=Row.new wr _ _;have hB:Below wr.heap.size wr (wr.alloc (.cells (w8 [0,0,0,0,0,0,0,0]).toArray 5)):=(Below.refl _ _).alloc ν _;have yN:=ahE;clear ES CF HD aM hcA;go_wp2_with fail;generalize wr.alloc _=w3 at hR hB|-;have H1:=η hR;have H2:=η hB;clear hR hB yN vV;obtain⟨w2,hw2⟩:∃w2:World,w2=wr:=⟨_,rfl⟩;rw[<-hw2]at B1 R1 HTA HA2 Gv hbl H1 H2|-;clear hw2;go_loopw [13,68] (λjv iv wr=>∃(i:Nat)(L:List UInt8),i<=8/\iv=.int .i64 i/\L.length=8/\Row wr w2.heap.size (w8 L)/\Below w2.heap.size w2 wr/\∀j,j<i->nth L j=nth (Wr.low aI.toNat 8) j) (λ_ iv _=>8-(intOf iv).toNat);exact⟨0,[0,0,0,0,0,0,0,0],by omega,rfl,rfl,H1.o,H2.o,λj hj=>by omega⟩;clear H1 H2;obtain⟨i,L,hi,rfl,hL,hR,hB,hj⟩:=hrel;by_cases aM:i<8
  ·have p1:(i:Int)<8:=by omega
   have h8:0<=8*(i:Int):=by omega
   have e1:=vO aI i;have e2:=Wr.Gg aI.toNat 8 i aM;have vV:=hR.cell i;rw[iL L i (by omega)]at vV;have hz:=hR.free i;obtain⟨y,hy⟩:∃y,(shr aI (8*i)).toUInt8=y:=⟨_,rfl⟩;rw[hy]at e1;rw[<-e1]at e2;have S1:=η (show Row (wr.setCell ⟨w2.heap.size,i,none⟩ (.int .u8 (Y y))) w2.heap.size (w8 (L.set i y))from by rw[<-oT];exact hR.set i _);have S2:=η (show Below w2.heap.size w2 (wr.setCell ⟨w2.heap.size,i,none⟩ (.int .u8 (Y y)))from hB.setCell ν _);have S3:=η (show∀j,j<i+1->nth (L.set i y) j=nth (Wr.low aI.toNat 8) j from λj JQ=>by rw[Gd L i j y (by omega)];split;rename_i h;subst h;rw[e2];exact hj j (by omega));subst hy;clear hR hB hj e2 e1;go_wp2_with fail;go_roundw
   ·exact⟨i+1,L.set i _,by omega,by go_num,by rw[List.length_set];exact hL,S1.o,S2.o,S3.o⟩
   simp[intOf];omega
  obtain rfl:i=8:=by omega
  have n8:=hR.bytes;have e:=Gh L aI.toNat 8 hL hj;subst e;have hn8:=Wr.bo aI.toNat 8;obtain⟨nb,hnb⟩:∃nb,Wr.low aI.toNat 8=nb:=⟨_,rfl⟩;rw[hnb]at n8 hn8 Lg;have B4:=η (B1.o.trans (hB.mono (by have:=B1.o.size;omega)));have aAS:=hB.size;have R4:=η (R1.o.below hB Gv);have TA4:=η (HTA.o.below hB (by omega:gb<w2.heap.size));have A4:=η (HA2.o.below hB ν);have Xo:=R4.o.cell 0;rw[show(pr h (.slice (some ⟨gb,0,none⟩) ts.length cb))[0]? =some (.string (str h))from rfl]at Xo;have d1:Row (wr.alloc (.cells cb0.toArray 82)) wr.heap.size cb0:=Row.new wr cb0 _;have dB:=below_setRow ((Below.refl wr.heap.size wr).alloc ν (.cells cb0.toArray 82)) ν (cQ h nb (.slice none 0 0) (.slice (some ⟨b,o,none⟩) al.length ac) (.slice none 0 0)).toArray;have RC:=η (d1.setRow (cQ h nb (.slice none 0 0) (.slice (some ⟨b,o,none⟩) al.length ac) (.slice none 0 0)));have BC:=η dB;rw[show cb0.toArray=#[Value.string (str []),.string (str []),.slice none 0 0,.slice none 0 0,.slice none 0 0]from rfl]at d1 RC BC;clear hB hR hj hL dB hnb;go_upto_region 21 with(first|(with_reducible refine ja (o:=⟨some 83,_,_,_,_,_⟩) rfl _ _ _ _ rfl w2.heap.size 0 8 8 nb hn8 rfl underlying64 underlying5 underlying9 n8 ?_)|(refine DL (o:=⟨some 85,_,_,_,_,_⟩) rfl _ _ _ rfl h nb (some ⟨b,o,none⟩) al.length ac rfl rfl rfl ?_)|(with_reducible refine au (o:=⟨none,_,_,_,_,_⟩) rfl _ _ _ rfl wr.heap.size cb0 (cQ h nb (.slice none 0 0) (.slice (some ⟨b,o,none⟩) al.length ac) (.slice none 0 0)) rfl rfl d1 (ue.trans rfl) rfl rfl ?_));clear d1 n8 Xo HTA R1 HA2;generalize World.setRow _ _ _=w5 at RC BC|-;obtain⟨C,hC⟩:∃C,wr.heap.size=C:=⟨_,rfl⟩;rw[hC]at RC BC|-;have hC5:=RC.o.lt;have B5:=η (B4.o.trans (BC.o.mono (by have:=B4.o.size;omega)));have R5:=η (R4.o.below BC.o (by omega));have TA5:=η (TA4.o.below BC.o (by omega:gb<C));have A5:=η (A4.o.below BC.o (by omega));clear B4 R4 TA4 A4 BC;have Xo:=R5.o.cell 0;rw[show(pr h (.slice (some ⟨gb,0,none⟩) ts.length cb))[0]? =some (.string (str h))from rfl]at Xo;have amy:=RC.o.cell 1;rw[show(cQ h nb (.slice none 0 0) (.slice (some ⟨b,o,none⟩) al.length ac) (.slice none 0 0))[1]? =some (.string (str nb))from rfl]at amy;have T5:=η (xo h nb w5 (HT.o.below B5.o gM) (by omega));go_wp2_with fail;refine T5.o.mono ?_;clear T5 Xo amy;rintro e w6⟨rfl,hb⟩;have Pe:=hb.size;obtain⟨kd,hkd⟩:∃kd,aR.sum (h++nb)=kd:=⟨_,rfl⟩;rw[hkd];have FE:=η (show∀t,En.short h nb t=En.Hr (cC.Lt (En.yj kd) (En.yh kd) (Mk.ak t))from λt=>by rw[<-hkd];rfl)
  clear hkd;have k1:Row (w6.alloc (.cells #[.int .u64 0,.int .u64 0] 93)) w6.heap.size [.int .u64 0,.int .u64 0]:=Row.new w6 [.int .u64 0,.int .u64 0] _;have kB:=below_setRow ((Below.refl w6.heap.size w6).alloc ν (.cells #[.int .u64 0,.int .u64 0] 93)) ν (aN kd).toArray;have RK:=η (k1.setRow (aN kd));have bb:=hb.trans (kB.mono Pe);have B7:=η (B5.o.trans (bb.mono (by have:=B5.o.size;omega)));have RC7:=η (RC.o.below bb hC5);have R7:=η (R5.o.below bb (by omega));have TA7:=η (TA5.o.below bb (by omega:gb<w5.heap.size));have A7:=η (A5.o.below bb ν);clear hb kB bb B5 RC R5 TA5 A5;go_upto_region 22 with(with_reducible refine au (o:=⟨none,_,_,_,_,_⟩) rfl _ _ _ rfl w6.heap.size [.int .u64 0,.int .u64 0] (aN kd) rfl rfl k1 (pF.trans rfl) rfl rfl ?_);clear k1;generalize World.setRow _ _ _=w7 at RK B7 RC7 R7 TA7 A7|-;obtain⟨K,hK⟩:∃K,w6.heap.size=K:=⟨_,rfl⟩;rw[hK]at RK|-;have hK7:=RK.o.lt;have amA:=R7.o.cell 1;rw[show(pr h (.slice (some ⟨gb,0,none⟩) ts.length cb))[1]? =some (.slice (some ⟨gb,0,none⟩) ts.length cb)from rfl]at amA;go_wp2_with fail;clear amA;go_loopw [16,94] (λjv iv wq=>∃(i:Nat)(sv tv:Value),i<=ts.length/\iv=.int .i64 i/\Row wq C (cQ h nb sv (.slice (some ⟨b,o,none⟩) al.length ac) tv)/\wq.ownsRow w7.heap.size 9 1 sv (En.kept (En.short h nb) al ts i).length (wt (En.kept (En.short h nb) al ts i))/\wq.ownsRow w7.heap.size 69 33 tv (En.ah al ts i).length (aK (En.ah al ts i))/\cA w7.heap.size C w7 wq) (λ_ iv _=>ts.length-(intOf iv).toNat);exact⟨0,.slice none 0 0,.slice none 0 0,by omega,rfl,RC7.o,World.ownsRow_nil _ _ _ _,World.ownsRow_nil _ _ _ _,cA.refl _ _ _⟩;obtain⟨i0,fy,aaC,aaB,aaA⟩:=info_parts qI;obtain⟨i1,Za,rQ,yM,oO⟩:=info_parts me;have HI:=η fy;have HI1:=η Za;clear fy Za;obtain⟨i,sv,tv,hi,rfl,hRC,Sj,Ps,hN⟩:=hrel;have j0:=hN.size;have Ug:C<w7.heap.size:=by omega
  have hgC:gb<C:=by omega
  have hkl:=JG (En.short h nb) al ts i;have EM:=IA al ts i;by_cases aM:i<ts.length
  ·have p1:(i:Int)< (ts.length:Int):=by omega
   have yL:(ts.getD i []).length<=610:=HS.o _ (by rw[List.getD_eq_getElem?_getD,List.getElem?_eq_getElem aM];exact List.getElem_mem aM);have qJ:wr.rangeAt gb (33*i) (ai (ts.getD i [])):=rangeAt_of_block (TA7.o i aM) (hN.block gb (by omega) (by omega));have KY:=λc=>η (Wf (En.short h nb) al ts i c);have KNo:=λc=>η (aat (En.short h nb) al ts i c);have SY:=λc=>η (UZ al ts i c);have SNo:=λc=>η (ZE al ts i c);obtain⟨t,Pn⟩:∃t,ts.getD i []=t:=⟨_,rfl⟩;rw[Pn]at yL qJ KNo SY;rw[FE.o t]at KNo;rw[Nat.mul_comm]at qJ;have hAw:dC wr (.slice (some ⟨b,o,none⟩) al.length ac) al:=by obtain⟨b',o',nC,atF,Sv⟩:=A7.o.at (by omega);cases nC;exact .inr ⟨b,o,ac,rfl,by omega,λj hj=>(World.cell?_of_block (w:=w7) (hN.block b (by omega) (by omega))).trans (Sv j hj)⟩
   have r1:Row (wr.alloc (.cells dc.toArray 69)) wr.heap.size dc:=Row.new wr dc 69;have bw:=below_setRow ((Below.refl wr.heap.size wr).alloc ν (.cells dc.toArray 69)) ν (ai t).toArray;have Hl:=η (r1.setRow (ai t));have Tv:=η (hRC.below bw (by omega));have O10:=η (aB Sj bw ν);have Ty:=η (aB Ps bw ν);have Tu:=η ((hN.row RK.o hK7 (by omega)).below bw (by omega));have N10:=η (hN.trans (cA.aH (S:=C) (bw.mono j0)));have A10:=η (hAw.below bw ν);have hsT:sv.ownBlock≠some wr.heap.size:=λhh=>by have:=(Sj.lt _ hh).2;omega
   have ahP:=bw.size;have Xx:=Hl.o.lt;rw[Tryz.gI]at r1 bw Hl Tv O10 Ty Tu N10 A10 ahP Xx;clear hRC Sj Ps hN hAw bw Pn;go_wp2_with (first|(refine vP (o:=⟨some 98,_,_,_,_,_⟩) rfl _ rfl gb (i*33) t rfl qJ ?_)|(with_reducible refine au (o:=⟨none,_,_,_,_,_⟩) rfl _ _ _ rfl wr.heap.size dc (ai t) rfl rfl r1 (cW.trans (by rw[aE])) (by rw[aE,bq]) (aY t) ?_));clear r1 qJ;generalize World.setRow _ _ _=Y0 at Hl Tv O10 Ty Tu N10 A10 ahP Xx|-;obtain⟨T,hTe⟩:∃T,wr.heap.size=T:=⟨_,rfl⟩;rw[hTe]at Hl hsT Xx j0|-;refine(Cn _ al i Y0 A10.o (by omega)).mono ?_;rintro e uQ⟨rfl,rfl⟩;have eX:w7.heap.size<=uQ.heap.size:=by omega
   by_cases hm:(i:Int)∈al
   ·rw[decide_eq_true hm];have KN:=KY hm;have SN:=SY hm;clear KY KNo SY SNo;have hrT:=Hl.o;have auj:=Tv.o.cell 4;rw[show(cQ h nb sv (.slice (some ⟨b,o,none⟩) al.length ac) tv)[4]? =some tv from rfl]at auj;have L1:=η (show∀(j:Nat)(u:Value),(ai t)[j]? =some u->(uQ.alloc (.cells (ai t).toArray 69)).cell? (Addr.add ⟨uQ.heap.size,0,none⟩ j)=some u from λj u hu=>by rw[Addr.add_lit,Nat.zero_add,(Row.new uQ _ _).cell];exact hu);go_wp2_with (first|(refine dW (o:=⟨some 104,_,_,_,_,_⟩) rfl _ _ rfl T (ai t) rfl hrT _ underlying69 (cW.trans (by rw[aE])) _ rfl ?_)|(refine gD (o:=⟨some 105,_,_,_,_,_⟩) rfl _ rfl t rfl ?_)|(at_builtin;refine wpList_append_own _ rfl _ _ 38 rfl w7.heap.size 69 i0 (.agg dc.toArray) 33 48 underlying38 HI.o aaC aaB aaA (by rw[Value.cells,List.size_toArray,bq]) (by decide) _ _ _ rfl (Ty.o.alloc _) ⟨uQ.heap.size,0,none⟩ 1 1 (ai t) rfl (by rw[aE]) L1.o (λu hu=>List.all_eq_true.1 (aY t) u hu) (by unfold maxLen;omega) (by omega) (by rw[World.size_alloc];omega) ?_;intro tv2 Hq MS ac2 _;obtain⟨pa,pc,rfl,wH,ads,amM⟩:=yY eX Ug Tv.o O10.o Ty.o (by decide) MS ac2;have Wp:=wH.free 4;have aB0:=wH.cell 4;have avS:=η ads;have H1:=η MS;have H2:=η amM;have H3:=η wH;clear MS ac2 amM wH ads))
    go_roundw
    ·exact⟨i+1,sv,_,by omega,by go_num,H3.o.set 4 _,by rw[KN.o];exact bt (a:=⟨C,4,none⟩) avS.o _ Ug,by rw[SN.o,List.length_append,<-dF];exact bt (a:=⟨C,4,none⟩) H1.o _ Ug,(N10.o.trans (cA.aH H2.o)).et 4 _⟩
    simp[intOf];omega
   rw[decide_eq_false hm];have KN:=KNo hm;have SN:=SNo hm;clear KY KNo SY SNo;go_upto_region 27 with fail;haveI cE:Nonempty (ax.Of (λu=>Row u K (aN kd)/\Row u T (ai t))):=⟨⟨uQ,Tu.o,Hl.o⟩⟩;refine ax.bM [0,2,3,4] 6 mixed (by kernel_rfl) rfl rfl (λc a d v w h=>by cases d<;>exact h) (by as_aux_lemma=>kernel_rfl) rfl (λu=>Row u K (aN kd)/\Row u T (ai t)) ⟨Tu.o.drew,Hl.o.drew⟩ ?_;show wpQuiet _ _ _ _ [_,_,_,_] _;go_big_quiet_step (fail);refine fJ (o:=⟨some 110,_,_,_,_,_⟩) rfl _ _ rfl K (aN kd) rfl (λw hw=>by obtain⟨u,rfl⟩:=hw;exact u.h.1) _ underlying93 (pF.trans rfl) _ rfl ?_;go_frame;go_big_quiet_step (fail);refine eE (o:=⟨some 112,_,_,_,_,_⟩) rfl _ rfl T 1 (Mk.ak t) (eM t) rfl (λw hw=>by obtain⟨u,rfl⟩:=hw;exact Ll u.h.2) ?_;go_frame;refine wpQuiet_nil ?_;obtain⟨y,hy⟩:∃y,En.Hr (cC.Lt (En.yj kd) (En.yh kd) (Mk.ak t))=y:=⟨_,rfl⟩;have PS:=η (tF kd (Mk.ak t) uQ.drew (eM t));rw[hy]at PS KN;have hyl:y.length=6:=by rw[<-hy];exact Wr.bo _ _
   have abN:=η Hl.o.drew;have abR:=η Tu.o.drew;have abS:=η Tv.o.drew;have N11:=η N10.o.drew;have TA:=η (show uQ.drew.ownsRow w7.heap.size 9 1 sv _ _ from O10.o);have ajs:=η (show uQ.drew.ownsRow w7.heap.size 69 33 tv _ _ from Ty.o);have Wq:w7.heap.size<=uQ.drew.heap.size:=eX;have aiI:T<uQ.drew.heap.size:=Xx;have aiP:C<uQ.drew.heap.size:=by omega
   have aiN:K<uQ.drew.heap.size:=by omega
   have ac7:=abS.o.cell 2;rw[show(cQ h nb sv (.slice (some ⟨b,o,none⟩) al.length ac) tv)[2]? =some sv from rfl]at ac7;have S11:ax.cls (λu=>Row u K (aN kd)/\Row u T (ai t)) uQ.drew:=ax.aq ⟨abR.o,abN.o⟩;have aCf:w7.heap.size<=T:=by omega
   clear Hl Tu Tv N10 O10 Ty A10 eX Xx ahP hy;generalize uQ.drew=aAq at PS abN abR abS N11 TA ajs Wq aiI aiP aiN ac7 S11|-;refine ax.two 1 5 _ _ (by kernel_rfl) rfl rfl rfl rfl ?_ ?_
   ·try go_frame
    go_wp2_with fail;refine⟨S11,?_⟩;refine ax.one 5 _ (by kernel_rfl) rfl rfl ?_
    try go_frame
    go_wp2_with fail;refine PS.o.mono ?_;rintro e Hq⟨rfl,pP⟩;have O12:=η (aB TA.o pP ν);have abV:=η (aB ajs.o pP ν);have wH:=η (abS.o.below pP aiP);have KT:=η (abR.o.below pP aiN);have KS:=η (abN.o.below pP aiI);have Zg:=η (N11.o.trans (cA.aH (pP.mono Wq)));have Wp:w7.heap.size<=Hq.heap.size:=Nat.le_trans Wq pP.size;have aix:=wH.o.cell 2;rw[show(cQ h nb sv (.slice (some ⟨b,o,none⟩) al.length ac) tv)[2]? =some sv from rfl]at aix;have Xn:=(wH.o.alloc (.cells #[.string (str y)] 9)).cell 2;rw[show(cQ h nb sv (.slice (some ⟨b,o,none⟩) al.length ac) tv)[2]? =some sv from rfl]at Xn;have S12:ax.cls (λu=>Row u K (aN kd)/\Row u T (ai t)) Hq:=ax.aq ⟨KT.o,KS.o⟩
    have YM:ax.cls (λu=>Row u K (aN kd)/\Row u T (ai t)) (Hq.alloc (.cells #[.string (str y)] 9)):=ax.aq ⟨KT.o.alloc _,KS.o.alloc _⟩;go_wp2_with fail;refine⟨S12,?_⟩;refine ax.one 6 _ (by kernel_rfl) rfl rfl ?_
    try go_frame
    go_wp2_with fail;refine⟨YM,?_⟩;refine ax.one 7 _ (by kernel_rfl) rfl rfl ?_
    refine wpList_append_own _ rfl _ _ 42 rfl w7.heap.size 9 i1 (.string ByteArray.empty) 1 16 underlying42 HI1.o rQ yM oO rfl (by decide) _ _ _ rfl (O12.o.alloc _) ⟨Hq.heap.size,0,none⟩ 1 1 [.string (str y)] rfl rfl (cell_one_new _ _ _) (ig [y]) (by unfold maxLen;omega) (by omega) (by rw[World.size_alloc];omega) ?_;intro sv2 TG lF pL _;obtain⟨pa,pc,rfl,uO,KU,BM⟩:=yY Wp Ug wH.o abV.o O12.o (by decide) lF pL;have DO:Row TG K (aN kd)/\Row TG T (ai t):=⟨KT.o.below BM hK7,(KS.o.alloc _).grown pL hsT⟩;refine⟨ax.aq DO,?_⟩;refine ax.one 8 _ (by kernel_rfl) rfl rfl ?_;try go_frame
    go_wp2_with fail;refine⟨ax.aq DO,?_⟩;refine ax.one 9 _ (by kernel_rfl) rfl rfl ?_
    have alk:=uO.free 2;have amB:=uO.cell 2;have R14:=η (uO.set 2 (.slice pa ((En.kept (En.short h nb) al ts i).length+1) pc));have O14:=η (bt (a:=⟨C,2,none⟩) lF (.slice pa ((En.kept (En.short h nb) al ts i).length+1) pc) Ug);have YS:=η (bt (a:=⟨C,2,none⟩) KU (.slice pa ((En.kept (En.short h nb) al ts i).length+1) pc) Ug);have Uj:=η ((Zg.o.trans (cA.aH BM)).et 2 (.slice pa ((En.kept (En.short h nb) al ts i).length+1) pc));have S14:ax.cls (λu=>Row u K (aN kd)/\Row u T (ai t)) (TG.setCell ⟨C,2,none⟩ (.slice pa ((En.kept (En.short h nb) al ts i).length+1) pc)):=ax.aq ⟨DO.1.other (show C≠K by omega) _,DO.2.other (show C≠T by omega) _⟩;clear lF pL BM DO KU uO;try go_frame
    go_wp2_with fail;refine⟨S14,?_⟩;refine wpAnyH_done (by kernel_rfl) ?_ 0
    go_wp2_with fail;go_roundw
    ·exact⟨i+1,_,tv,by omega,by go_num,R14.o,by rw[KN.o,List.length_append,<-iK];exact O14.o,by rw[SN.o];exact YS.o,Uj.o⟩
    simp[intOf];omega
   try go_frame
   go_wp2_with fail;refine PS.o.mono ?_;rintro e Hq⟨rfl,pP⟩;have O12:=η (aB TA.o pP ν);have abV:=η (aB ajs.o pP ν);have wH:=η (abS.o.below pP aiP);have KT:=η (abR.o.below pP aiN);have KS:=η (abN.o.below pP aiI);have Zg:=η (N11.o.trans (cA.aH (pP.mono Wq)));have Wp:w7.heap.size<=Hq.heap.size:=Nat.le_trans Wq pP.size;have aix:=wH.o.cell 2;rw[show(cQ h nb sv (.slice (some ⟨b,o,none⟩) al.length ac) tv)[2]? =some sv from rfl]at aix;have Xn:=(wH.o.alloc (.cells #[.string (str y)] 9)).cell 2;rw[show(cQ h nb sv (.slice (some ⟨b,o,none⟩) al.length ac) tv)[2]? =some sv from rfl]at Xn;have S12:ax.cls (λu=>Row u K (aN kd)/\Row u T (ai t)) Hq:=ax.aq ⟨KT.o,KS.o⟩
   have YM:ax.cls (λu=>Row u K (aN kd)/\Row u T (ai t)) (Hq.alloc (.cells #[.string (str y)] 9)):=ax.aq ⟨KT.o.alloc _,KS.o.alloc _⟩;go_wp2_with fail;refine⟨S12,?_⟩;refine ax.two 1 6 _ _ (by kernel_rfl) rfl rfl rfl rfl ?_ ?_
   ·try go_frame
    go_wp2_with fail;refine⟨S12,?_⟩;refine ax.one 6 _ (by kernel_rfl) rfl rfl ?_
    try go_frame
    go_wp2_with fail;refine⟨YM,?_⟩;refine ax.one 7 _ (by kernel_rfl) rfl rfl ?_
    refine wpList_append_own _ rfl _ _ 42 rfl w7.heap.size 9 i1 (.string ByteArray.empty) 1 16 underlying42 HI1.o rQ yM oO rfl (by decide) _ _ _ rfl (O12.o.alloc _) ⟨Hq.heap.size,0,none⟩ 1 1 [.string (str y)] rfl rfl (cell_one_new _ _ _) (ig [y]) (by unfold maxLen;omega) (by omega) (by rw[World.size_alloc];omega) ?_;intro sv2 TG lF pL _;obtain⟨pa,pc,rfl,uO,KU,BM⟩:=yY Wp Ug wH.o abV.o O12.o (by decide) lF pL;have DO:Row TG K (aN kd)/\Row TG T (ai t):=⟨KT.o.below BM hK7,(KS.o.alloc _).grown pL hsT⟩;refine⟨ax.aq DO,?_⟩;refine ax.one 8 _ (by kernel_rfl) rfl rfl ?_;try go_frame
    go_wp2_with fail;refine⟨ax.aq DO,?_⟩;refine ax.one 9 _ (by kernel_rfl) rfl rfl ?_
    have alk:=uO.free 2;have amB:=uO.cell 2;have R14:=η (uO.set 2 (.slice pa ((En.kept (En.short h nb) al ts i).length+1) pc));have O14:=η (bt (a:=⟨C,2,none⟩) lF (.slice pa ((En.kept (En.short h nb) al ts i).length+1) pc) Ug);have YS:=η (bt (a:=⟨C,2,none⟩) KU (.slice pa ((En.kept (En.short h nb) al ts i).length+1) pc) Ug);have Uj:=η ((Zg.o.trans (cA.aH BM)).et 2 (.slice pa ((En.kept (En.short h nb) al ts i).length+1) pc));have S14:ax.cls (λu=>Row u K (aN kd)/\Row u T (ai t)) (TG.setCell ⟨C,2,none⟩ (.slice pa ((En.kept (En.short h nb) al ts i).length+1) pc)):=ax.aq ⟨DO.1.other (show C≠K by omega) _,DO.2.other (show C≠T by omega) _⟩;clear lF pL BM DO KU uO;try go_frame
    go_wp2_with fail;refine⟨S14,?_⟩;refine wpAnyH_done (by kernel_rfl) ?_ 0
    go_wp2_with fail;go_roundw
    ·exact⟨i+1,_,tv,by omega,by go_num,R14.o,by rw[KN.o,List.length_append,<-iK];exact O14.o,by rw[SN.o];exact YS.o,Uj.o⟩
    simp[intOf];omega
   try go_frame
   go_wp2_with fail;refine⟨YM,?_⟩;refine ax.one 1 _ (by kernel_rfl) rfl rfl ?_
   try go_frame
   go_wp2_with fail;refine⟨YM,?_⟩;refine ax.one 7 _ (by kernel_rfl) rfl rfl ?_
   refine wpList_append_own _ rfl _ _ 42 rfl w7.heap.size 9 i1 (.string ByteArray.empty) 1 16 underlying42 HI1.o rQ yM oO rfl (by decide) _ _ _ rfl (O12.o.alloc _) ⟨Hq.heap.size,0,none⟩ 1 1 [.string (str y)] rfl rfl (cell_one_new _ _ _) (ig [y]) (by unfold maxLen;omega) (by omega) (by rw[World.size_alloc];omega) ?_;intro sv2 TG lF pL _;obtain⟨pa,pc,rfl,uO,KU,BM⟩:=yY Wp Ug wH.o abV.o O12.o (by decide) lF pL;have DO:Row TG K (aN kd)/\Row TG T (ai t):=⟨KT.o.below BM hK7,(KS.o.alloc _).grown pL hsT⟩;refine⟨ax.aq DO,?_⟩;refine ax.one 8 _ (by kernel_rfl) rfl rfl ?_;try go_frame
   go_wp2_with fail;refine⟨ax.aq DO,?_⟩;refine ax.one 9 _ (by kernel_rfl) rfl rfl ?_
   have alk:=uO.free 2;have amB:=uO.cell 2;have R14:=η (uO.set 2 (.slice pa ((En.kept (En.short h nb) al ts i).length+1) pc));have O14:=η (bt (a:=⟨C,2,none⟩) lF (.slice pa ((En.kept (En.short h nb) al ts i).length+1) pc) Ug);have YS:=η (bt (a:=⟨C,2,none⟩) KU (.slice pa ((En.kept (En.short h nb) al ts i).length+1) pc) Ug);have Uj:=η ((Zg.o.trans (cA.aH BM)).et 2 (.slice pa ((En.kept (En.short h nb) al ts i).length+1) pc));have S14:ax.cls (λu=>Row u K (aN kd)/\Row u T (ai t)) (TG.setCell ⟨C,2,none⟩ (.slice pa ((En.kept (En.short h nb) al ts i).length+1) pc)):=ax.aq ⟨DO.1.other (show C≠K by omega) _,DO.2.other (show C≠T by omega) _⟩;clear lF pL BM DO KU uO;try go_frame
   go_wp2_with fail;refine⟨S14,?_⟩;refine wpAnyH_done (by kernel_rfl) ?_ 0
   go_wp2_with fail;go_roundw
   ·exact⟨i+1,_,tv,by omega,by go_num,R14.o,by rw[KN.o,List.length_append,<-iK];exact O14.o,by rw[SN.o];exact YS.o,Uj.o⟩
   simp[intOf];omega
  obtain rfl:i=ts.length:=by omega
  have CB:=η (sR h nb sv (.slice (some ⟨b,o,none⟩) al.length ac) tv (En.kept (En.short h nb) al ts ts.length) (En.ah al ts ts.length) al w7.heap.size ts.length wr Sj (by
  obtain⟨b',o',nC,atF,Sv⟩:=A7.o.at (by omega);cases nC;exact .inr ⟨b,o,ac,rfl,by omega,λj hj=>(World.cell?_of_block (w:=w7) (hN.block b (by omega) (by omega))).trans (Sv j hj)⟩) Ps RI.o Pj atI (Qx al ts RI.o) (by omega) (Bg _ al ts (λt=>by show(En.Hr _).length<=610;unfold En.Hr;rw[Wr.bo];omega) _) (zA al ts (λj=>by
   by_cases hj:j<ts.length
   ·exact HS.o _ (by rw[List.getD_eq_getElem?_getD,List.getElem?_eq_getElem hj];exact List.getElem_mem hj)
   ·rw[List.getD_eq_getElem?_getD,List.getElem?_eq_none (by omega)];simp) _) (by omega) (by omega))
  have N2:=η (B7.o.trans ⟨hN.os,hN.tape,hN.output,hN.size,λk hk=>hN.block k (by have:=B7.o.size;omega) (by have:=B1.o.size;omega)⟩);clear Sj Ps hN;obtain⟨res,n6⟩:∃res,En.bytes h nb (En.kept (En.short h nb) al ts ts.length) al (En.ah al ts ts.length)=res:=⟨_,rfl⟩;rw[n6]at CB Lg;clear n6 hkl EM;go_wp2_with (refine dW (o:=⟨some 118,_,_,_,_,_⟩) rfl _ _ rfl C (cQ h nb sv (.slice (some ⟨b,o,none⟩) al.length ac) tv) rfl hRC _ underlying82 (ue.trans rfl) _ rfl ?_);refine CB.o.mono ?_;rintro e w9⟨rfl,Gu⟩;have N3:=η (N2.o.trans (Gu.mono N2.o.size));clear Gu;go_wp2_with fail;go_ret2;exact⟨by rw[Lg.o];rfl,N3.o⟩
 have Lg:=η (show KQ=([],11)by
 have h0:En.chk ts.length al=11:=by rw[GI,CF.o,if_neg (λh=>h rfl),HD.o,if_neg hxz]
 rw[ES.o,h0];rfl)
 have aid:(x0==0)=false:=by simpa using hxz
 have aBo:(x0 != 0)=true:=by simpa using hxz
 clear aM;go_wp2_with fail;go_ret2;exact⟨by rw[Lg.o];rfl,B1.o⟩
end
section
open ba
namespace Hn
open Wr En Cp
def iP(n:Nat)(h:n<253):dD n=[UInt8.ofNat n]:=by unfold dD;rw[if_pos h]
theorem zk:∀(ts:List B)(r:B),(∀t∈ts,Sd.Tx t)->Wr.bE ts.length (ts.flatten++r)=.ok ts r
 |[],r,_=>rfl|t::ts,r,h=>by rw[List.length_cons,List.flatten_cons,List.append_assoc,Wr.bE,(h t List.mem_cons_self).app,R.aQ,zk ts r λt ht=>h t (List.mem_cons_of_mem _ ht)];rfl
def Cu(h:B)(ts:List B)(hh:h.length=80)(h0:0<ts.length)(h1:ts.length<=16)(ha:∀t∈ts,Sd.Tx t):dx (h++(UInt8.ofNat ts.length::ts.flatten))=.ok (h,ts) []:=by have:=zk ts [] ha;rw[List.append_nil]at this;unfold dx;rw[aj.eR h _ 80 hh,R.aQ,aj.en 1 16 _ _ h0 h1 (by omega),R.aQ,this];rfl
def LC(n:B)(us:List B)(hn:n.length=32)(h0:0<us.length)(h1:us.length<=16)(ha:∀t∈us,Sd.Tx t):dO (n++(UInt8.ofNat us.length::us.flatten))=.ok (n,us) []:=by have:=zk us [] ha;rw[List.append_nil]at this;unfold dO;rw[aj.eR n _ 32 hn,R.aQ,aj.en 1 16 _ _ h0 h1 (by omega),R.aQ,this];rfl
theorem zo(k:Nat):∀(ss:List B)(r:B),(∀s∈ss,s.length=k)->iN k ss.length (ss.flatten++r)=.ok ss r
 |[],r,_=>rfl|s::ss,r,h=>by rw[List.length_cons,List.flatten_cons,List.append_assoc,iN,aj.eR s _ k (h s List.mem_cons_self),R.aQ,zo k ss r λt ht=>h t (List.mem_cons_of_mem _ ht)];rfl
def EJ(next bound d:Nat)(r:B)(hd:d<253)(hb:next+d<bound):index next bound (UInt8.ofNat d::r)=.ok (next+d) r:=by unfold index;rw[aj.zw d r hd,R.aQ,if_neg (by omega)]
def Up(bound:Nat):Nat->List Nat->Prop
 |_,[]=>True|lo,i::l=>lo<=i/\i<bound/\Up bound (i+1) l
theorem ug(bound:Nat)(hb:bound<=252):∀(is:List Nat)(next:Nat)(r:B),Up bound next is->indexes bound is.length next ((dz next (ints is)).flatten++r)=.ok is r
 |[],_,_,_=>rfl|i::is,next,r,h=>by
  obtain⟨h1,h2,h3⟩:=h;have ih:=ug bound hb is (i+1) r h3;have e:(dz next (ints (i::is))).flatten++r=UInt8.ofNat (i-next)::((dz ((i+1:Nat):Int) (ints is)).flatten++r):=by show(dD ((i:Int) -(next:Int)).toNat::dz ((i:Int)+1) (ints is)).flatten++r=_;rw[show((i:Int) -(next:Int)).toNat=i-next by omega,iP _ (by omega),List.flatten_cons];rfl
  rw[e,List.length_cons,indexes,EJ _ _ _ _ (by omega) (by omega),R.aQ,show next+(i-next)=i by omega,ih];rfl
theorem AA(bound:Nat)(hb:bound<=252):∀(is:List Nat)(ts:List B)(next:Nat)(r:B),is.length=ts.length->(∀t∈ts,Sd.Tx t)->Up bound next is->fE bound is.length next (told (dz next (ints is)) ts++r)=.ok (is.zip ts) r
 |[],[],_,_,_,_,_=>rfl|i::is,t::ts,next,r,hl,ha,h=>by
  obtain⟨h1,h2,h3⟩:=h;have ih:=AA bound hb is ts (i+1) r (by simpa using hl) (λt ht=>ha t (List.mem_cons_of_mem _ ht)) h3;have e:told (dz next (ints (i::is))) (t::ts)++r=UInt8.ofNat (i-next)::(t++(told (dz ((i+1:Nat):Int) (ints is)) ts++r)):=by show(dD ((i:Int) -(next:Int)).toNat++t++told (dz ((i:Int)+1) (ints is)) ts)++r=_;rw[show((i:Int) -(next:Int)).toNat=i-next by omega,iP _ (by omega),List.append_assoc,List.append_assoc];rfl
  rw[e,List.length_cons,fE,EJ _ _ _ _ (by omega) (by omega),R.aQ,show next+(i-next)=i by omega,(ha t List.mem_cons_self).app,R.aQ,ih];rfl|[],_::_,_,_,hl,_,_=>by simp at hl|_::_,[],_,_,hl,_,_=>by simp at hl
def GD(h n:B)(ss ts:List B)(is:List Nat)(hh:h.length=80)(hn:n.length=8)(hs:∀s∈ss,s.length=6)(hl:is.length=ts.length)(ha:∀t∈ts,Sd.Tx t)(h0:0<is.length+ss.length)(h16:is.length+ss.length<=16)(hu:Up (is.length+ss.length) 0 is):cg (En.bytes h n ss (ints is) ts)=.ok ⟨h,n,ss,is.zip ts⟩ []:=by
 have e:En.bytes h n ss (ints is) ts=h++(n++(UInt8.ofNat ss.length::(ss.flatten++(UInt8.ofNat is.length::(told (dz ((0:Nat):Int) (ints is)) ts++[]))))):=by unfold En.bytes;rw[gP,iP _ (by omega),iP _ (by omega)];simp only[List.append_assoc,List.append_nil,List.cons_append,List.nil_append];rfl
 unfold cg;rw[e,aj.eR h _ 80 hh,R.aQ,aj.eR n _ 8 hn,R.aQ,aj.en 0 16 _ _ (by omega) (by omega) (by omega),R.aQ,zo 6 ss _ hs,R.aQ,aj.en 0 (16-ss.length) _ _ (by omega) (by omega) (by omega),R.aQ,if_neg (by omega),AA _ (by omega) is ts 0 [] hl ha hu];rfl
def idx(S:Nat->Bool)(n:Nat):List Nat:=(List.range n).filter S
def vS(S:Nat->Bool)(n:Nat):idx S n=(List.range' 0 n).filter S:=by unfold idx;rw[List.range_eq_range']
def ng(S:Nat->Bool)(n:Nat):idx S (n+1)=idx S n++(if S n then [n]else []):=by unfold idx;rw[List.range_succ,List.filter_append,List.filter_cons,List.filter_nil]
def fQ{S:Nat->Bool}{n i:Nat}:i∈idx S n↔i<n/\S i=true:=by unfold idx;rw[List.mem_filter,List.mem_range]
theorem Im(S:Nat->Bool):∀(k i lo:Nat),lo<=i->Up (i+k) lo ((List.range' i k).filter S)
 |0,_,_,_=>trivial|k+1,i,lo,h=>by rw[List.range'_succ,List.filter_cons];have ih:=λlo h=>Im S k (i+1) lo h;rw[show i+(k+1)=i+1+k by omega];by_cases hs:S i=true;rw[if_pos hs];exact⟨h,by omega,ih (i+1) (by omega)⟩;rw[if_neg hs];exact ih lo (by omega)
def Fi(S:Nat->Bool)(n:Nat):Up n 0 (idx S n):=by have:=Im S n 0 0 ν;rwa[Nat.zero_add,<-vS]at this
theorem yF{b b':Nat}(hb:b<=b'):∀(l:List Nat)(lo:Nat),Up b lo l->Up b' lo l
 |[],_,_=>trivial|i::l,lo,h=>⟨h.1,by have:=h.2.1;omega,yF hb l (i+1) h.2.2⟩
def vM{S:Nat->Bool}{n i:Nat}:(i:Int)∈ints (idx S n)↔i<n/\S i=true:=by
 unfold ints;rw[List.mem_map];constructor;rintro⟨j,hj,e⟩;obtain rfl:j=i:=by omega
 exact fQ.1 hj;exact λh=>⟨i,fQ.2 h,rfl⟩
theorem Fv(S:Nat->Bool)(ts:List B)(n:Nat):∀i,i<=n->ah (ints (idx S n)) ts i=(idx S i).map λj=>ts.getD j []
 |0,_=>rfl|i+1,h=>by rw[ah,ng,List.map_append,Fv S ts n i (by omega)];by_cases hs:S i=true;rw[if_pos (vM.2 ⟨by omega,hs⟩),if_pos hs];rfl;rw[if_neg (λhh=>hs (vM.1 hh).2),if_neg hs];simp
theorem jN(f:B->B)(S:Nat->Bool)(ts:List B)(n:Nat):∀i,i<=n->kept f (ints (idx S n)) ts i=(idx (λj=> !S j) i).map λj=>f (ts.getD j [])
 |0,_=>rfl|i+1,h=>by rw[kept,ng,List.map_append,jN f S ts n i (by omega)];by_cases hs:S i=true;rw[if_pos (vM.2 ⟨by omega,hs⟩),if_neg (by simp[hs])];simp;rw[if_neg (λhh=>hs (vM.1 hh).2),if_pos (by simpa using hs)];rfl
theorem Ya(n:Nat):∀(is:List Nat)(lo:Nat),Up n lo is->ee n lo (ints is)=0
 |[],_,_=>rfl|i::is,lo,h=>by obtain⟨h1,h2,h3⟩:=h;have ih:=Ya n is (i+1) h3;show ee n lo ((i:Int)::ints is)=0;rw[ee,if_neg (by omega),if_neg (by omega)];exact ih
def abt(S:Nat->Bool)(n:Nat)(h0:S 0=true)(hn:0<n):chk n (ints (idx S n))=0:=by unfold chk;rw[if_neg (by rw[show(0:Int)=((0:Nat):Int)from rfl,Ya n _ 0 (Fi S n)];simp)];obtain⟨m,rfl⟩:∃m,n=m+1:=⟨n-1,by omega⟩;rw[vS,List.range'_succ,List.filter_cons,if_pos h0];rfl
theorem tX(S:Nat->Bool)(g:Nat->B):∀(k i j:Nat),(((List.range' i k).filter S).zip (((List.range' i k).filter S).map g)).lookup j=if i<=j/\j<i+k/\S j=true then some (g j)else none
 |0,i,j=>by rw[if_neg (by omega)];rfl|k+1,i,j=>by
  have ih:=tX S g k (i+1) j;rw[List.range'_succ,List.filter_cons];by_cases hs:S i=true;rw[if_pos hs,List.map_cons,List.zip_cons_cons,List.lookup_cons];by_cases hj:j=i;subst hj;rw[if_pos ⟨by omega,by omega,hs⟩];simp;have:(j==i)=false:=by simpa using hj
  rw[this];simp only[ih];by_cases hc:i+1<=j/\j<i+1+k/\S j=true;rw[if_pos hc,if_pos ⟨by omega,by omega,hc.2.2⟩];rw[if_neg hc,if_neg λhh=>hc ⟨by omega,by omega,hh.2.2⟩];rw[if_neg hs,ih];by_cases hc:i+1<=j/\j<i+1+k/\S j=true;rw[if_pos hc,if_pos ⟨by omega,by omega,hc.2.2⟩];rw[if_neg hc,if_neg λhh=>hc ⟨by rcases Nat.lt_or_ge i j with h|h;omega;exact absurd (by rw[show i=j by omega];exact hh.2.2) hs,by omega,hh.2.2⟩]
def Mx(S:Nat->Bool)(g:Nat->B)(n j:Nat):((idx S n).zip ((idx S n).map g)).lookup j=if j<n/\S j=true then some (g j)else none:=by rw[vS,tX];by_cases hc:j<n/\S j=true;rw[if_pos hc,if_pos ⟨by omega,by omega,hc.2⟩];rw[if_neg hc,if_neg λhh=>hc ⟨by omega,hh.2.2⟩]
theorem Cf{f:B->B}{P:List B}{S p:Nat->Bool}{ts:List B}{sl:List (Nat×B)}(hH:∀j,j<ts.length->S j=false->sM f P (f (ts.getD j []))=if p j then [ts.getD j []]else []) (hL:∀j,j<ts.length->sl.lookup j=if S j then some (ts.getD j [])else none):∀(k i:Nat),i+k<=ts.length->fill f P sl k i (((List.range' i k).filter λj=> !S j).map λj=>f (ts.getD j []))=((List.range' i k).map (λj=>if S j || p j then ts.getD j []else []),(List.range' i k).filter λj=> !(S j || p j))
 |0,_,_=>rfl|k+1,i,h=>by have ih:=Cf hH hL k (i+1) (by omega);rw[List.range'_succ,List.filter_cons,List.filter_cons,List.map_cons,fill,hL i (by omega)];cases hs:S i with|true=>simp only[Bool.not_true,Bool.false_eq_true,if_false,if_true,Bool.true_or,ih]|false=>simp only[Bool.not_false,if_true,Bool.false_eq_true,if_false,Bool.false_or,List.map_cons,List.headD_cons,List.tail_cons,hH i (by omega) hs];cases p i with|true=>simp only[if_true,ih,Bool.not_true,Bool.false_eq_true,if_false]|false=>simp only[Bool.false_eq_true,if_false,ih,Bool.not_false,if_true]
def pE(ts:List B):(List.range ts.length).map (λj=>ts.getD j [])=ts:=by apply List.ext_getElem?;intro i;by_cases hi:i<ts.length;simp[hi,List.getElem?_eq_getElem hi];simp[hi]
def asked(S p:Nat->Bool)(n:Nat):List Nat:=idx (λj=> !(S j || p j)) n
def there(S p:Nat->Bool)(ts:List B):List B:=(List.range ts.length).map λj=>if S j || p j then ts.getD j []else []
def Qn{S p:Nat->Bool}{ts:List B}(h:asked S p ts.length=[]):there S p ts=ts:=by
 rw[show there S p ts=(List.range ts.length).map (λj=>ts.getD j [])from ?_,pE];unfold there;apply List.map_congr_left;intro j hj;have:j∉asked S p ts.length:=by rw[h];simp
 unfold asked at this;rw[fQ]at this;have hc:(S j || p j)=true:=by cases hx:(S j || p j)with|true=>rfl|false=>exact absurd ⟨List.mem_range.1 hj,by simp[hx]⟩ this
 rw[if_pos hc]
def Ed(h n t:B):(short h n t).length=6:=bo _ _
def tell(h nc:B)(S:Nat->Bool)(ts:List B):B:=En.bytes h nc (kept (short h nc) (ints (idx S ts.length)) ts ts.length) (ints (idx S ts.length)) (ah (ints (idx S ts.length)) ts ts.length)
def Km(h:B)(aI:UInt64)(S:Nat->Bool)(ts:List B)(hh:h.length=80)(h0:0<ts.length)(h1:ts.length<=16)(ha:∀t∈ts,Sd.Tx t)(hS:S 0=true):encode (h++(UInt8.ofNat ts.length::ts.flatten)) aI (ints (idx S ts.length))=(tell h (low aI.toNat 8) S ts,0):=by unfold encode;rw[Cu h ts hh h0 h1 ha];dsimp only;rw[if_neg (by rw[abt S _ hS h0];simp)];rfl
theorem yK(S:Nat->Bool):∀n,(idx S n).length+(idx (λj=> !S j) n).length=n
 |0=>rfl|n+1=>by have:=yK S n;rw[ng,ng,List.length_append,List.length_append];cases S n<;>simp<;>omega
def gT{ts:List B}{j:Nat}(hj:j<ts.length):ts.getD j []∈ts:=by rw[List.getD_eq_getElem?_getD,List.getElem?_eq_getElem hj];exact List.getElem_mem hj
def Ry(S:Nat->Bool)(n:Nat):(idx S n).Nodup:=List.Nodup.sublist List.filter_sublist List.nodup_range
theorem EB{g:Nat->B}:∀ {l:List Nat},l.Nodup->(∀i∈l,∀j∈l,g i=g j->i=j)->(l.map g).Nodup
 |[],_,_=>List.nodup_nil|x::l,h,hg=>by rw[List.nodup_cons]at h;rw[List.map_cons,List.nodup_cons];refine⟨λhm=>?_,EB h.2 λi hi j hj=>hg i (List.mem_cons_of_mem _ hi) j (List.mem_cons_of_mem _ hj)⟩;obtain⟨y,hy,e⟩:=List.mem_map.1 hm;have:=hg y (List.mem_cons_of_mem _ hy) x List.mem_cons_self e;subst this;exact h.1 hy
def Qo(h nc:B)(S:Nat->Bool)(ts:List B)(hh:h.length=80)(hn:nc.length=8)(h0:0<ts.length)(h1:ts.length<=16)(ha:∀t∈ts,Sd.Tx t):cg (tell h nc S ts)=.ok ⟨h,nc,(idx (λj=> !S j) ts.length).map (λj=>short h nc (ts.getD j [])),(idx S ts.length).zip ((idx S ts.length).map λj=>ts.getD j [])⟩ []:=by have h2:=yK S ts.length;unfold tell;rw[Fv S ts _ _ ν,jN _ S ts _ _ ν];refine GD h nc _ _ _ hh hn (λs hs=>?_) (by simp) (λt ht=>?_) (by rw[List.length_map];omega) (by rw[List.length_map];omega) (yF (by rw[List.length_map];omega) _ _ (Fi S ts.length));obtain⟨j,_,rfl⟩:=List.mem_map.1 hs;exact Ed _ _ _;obtain⟨j,hj,rfl⟩:=List.mem_map.1 ht;exact ha _ (gT (fQ.1 hj).1)
def Fu{P:List B}{h nc:B}{S p:Nat->Bool}{ts:List B}(hh:h.length=80)(hn:nc.length=8)(h0:0<ts.length)(h1:ts.length<=16)(ha:∀t∈ts,Sd.Tx t) (hi:∀i j,i<ts.length->j<ts.length->S i=false->S j=false->short h nc (ts.getD i [])=short h nc (ts.getD j [])->i=j) (hH:∀j,j<ts.length->S j=false->sM (short h nc) P (short h nc (ts.getD j []))=if p j then [ts.getD j []]else []):compact P (tell h nc S ts)=if asked S p ts.length=[]then(finish h ts,0,idle)else((1,request h (asked S p ts.length)),0,⟨h,there S p ts,asked S p ts.length⟩):=by
 have hr:=Qo h nc S ts hh hn h0 h1 ha;have hnd:((idx (λj=> !S j) ts.length).map λj=>short h nc (ts.getD j [])).Nodup:=EB (Ry _ _) λi JS j hj e=>hi i j (fQ.1 JS).1 (fQ.1 hj).1 (by simpa using(fQ.1 JS).2) (by simpa using(fQ.1 hj).2) e;have hf:=Cf hH (sl:=(idx S ts.length).zip ((idx S ts.length).map λj=>ts.getD j [])) (λj hj=>by rw[Mx];by_cases hs:S j=true<;>simp[hs,hj]) ts.length 0 (by omega);rw[<-List.range_eq_range']at hf;have h2:=yK S ts.length;have hx:fill (short h nc) P ((idx S ts.length).zip ((idx S ts.length).map λj=>ts.getD j [])) (((idx (λj=> !S j) ts.length).map λj=>short h nc (ts.getD j [])).length+((idx S ts.length).zip ((idx S ts.length).map λj=>ts.getD j [])).length) 0 ((idx (λj=> !S j) ts.length).map λj=>short h nc (ts.getD j []))=(there S p ts,asked S p ts.length):=by rw[show((idx (λj=> !S j) ts.length).map λj=>short h nc (ts.getD j [])).length+((idx S ts.length).zip ((idx S ts.length).map λj=>ts.getD j [])).length=ts.length by rw[List.length_map,List.length_zip,List.length_map];omega];exact hf
 rw[Co hr hnd];unfold gZ;dsimp only;rw[hx];dsimp only;by_cases hk:asked S p ts.length=[];rw[if_pos hk,if_pos hk,Qn hk];rw[if_neg hk,if_neg hk]
def FL(h:B)(is:List Nat)(h0:0<is.length)(h1:is.length<=16)(hu:Up 16 0 is):dp (request h is)=.ok (Mk.ak h,is) []:=by
 have e:request h is=Mk.ak h++(UInt8.ofNat is.length::((dz ((0:Nat):Int) (ints is)).flatten++[])):=by unfold request;rw[iP _ (by omega)];simp only[List.append_assoc,List.append_nil,List.cons_append,List.nil_append];rfl
 unfold dp;rw[e,aj.eR _ _ 32 (Mk.dG h),R.aQ,aj.en 1 16 _ _ h0 h1 (by omega),R.aQ,ug 16 (by omega) is 0 [] hu];rfl
theorem Jk(ts:List B):∀(is:List Nat),(∀i∈is,i<ts.length)->pick ts is=some (is.map λj=>ts.getD j [])
 |[],_=>rfl|i::is,h=>by rw[pick,if_neg (by have:=h i List.mem_cons_self;omega),Jk ts is λj hj=>h j (List.mem_cons_of_mem _ hj)];rfl
def served(h:B)(us:List B):B:=Mk.ak h++(UInt8.ofNat us.length::us.flatten)
def Iz{h:B}{ts:List B}{is:List Nat}(hh:h.length=80)(h0:0<is.length)(hu:Up ts.length 0 is)(h2:is.length<=16)(h1:ts.length<=16)(La:0<ts.length)(ha:∀t∈ts,Sd.Tx t)(aM:∀i∈is,i<ts.length):En.serve (h++(UInt8.ofNat ts.length::ts.flatten)) (request h is)=(served h (is.map λj=>ts.getD j []),0):=by unfold En.serve;rw[Cu h ts hh La h1 ha,FL h is h0 h2 (yF h1 _ _ hu)];dsimp only;rw[if_neg (λe=>e rfl),Jk ts is aM];dsimp only;rw[iP _ (by rw[List.length_map];omega)];rfl
theorem OD(g:Nat->B):∀(is:List Nat)(ts:List B)(j:Nat),(put ts is (is.map g)).getD j []=if j∈is/\j<ts.length then g j else ts.getD j []
 |[],ts,j=>by simp[put]|i::is,ts,j=>by rw[List.map_cons,put,OD g is (ts.set i (g i)) j,List.length_set];by_cases hj:j∈is/\j<ts.length;rw[if_pos hj,if_pos ⟨List.mem_cons_of_mem _ hj.1,hj.2⟩];rw[if_neg hj];by_cases aS:j=i;subst aS;by_cases aM:j<ts.length;rw[if_pos ⟨List.mem_cons_self,aM⟩,List.getD_eq_getElem?_getD,List.getElem?_set_self aM];rfl;rw[if_neg λhh=>aM hh.2,List.getD_eq_getElem?_getD,List.getD_eq_getElem?_getD,List.getElem?_eq_none (by rw[List.length_set];omega),List.getElem?_eq_none (by omega)];rw[uy (Ne.symm aS),if_neg λhh=>(by rcases List.mem_cons.1 hh.1 with e|hm;exact aS e;exact hj ⟨hm,hh.2⟩)]
def Rb(S p:Nat->Bool)(ts:List B)(g:Nat->B):put (there S p ts) (asked S p ts.length) ((asked S p ts.length).map g)=(List.range ts.length).map λj=>if S j || p j then ts.getD j []else g j:=by
 have hl:(there S p ts).length=ts.length:=by simp[there]
 apply List.ext_getElem;rw[gd,hl];simp;intro j h1 h2;rw[gd,hl]at h1;have:=OD g (asked S p ts.length) (there S p ts) j;rw[List.getD_eq_getElem?_getD,List.getElem?_eq_getElem (by rw[gd,hl];exact h1)]at this;rw[Option.getD_some]at this;rw[this,hl];have ht:(there S p ts).getD j []=if S j || p j then ts.getD j []else []:=by unfold there;rw[List.getD_eq_getElem?_getD];simp[h1]
 have hm:j∈asked S p ts.length↔ ¬(S j || p j)=true:=by unfold asked;rw[fQ];simp[h1]
 simp only[List.getElem_map,List.getElem_range];by_cases hc:(S j || p j)=true;rw[if_neg λhh=>hm.1 hh.1 hc,if_pos hc,ht,if_pos hc];rw[if_pos ⟨hm.2 hc,h1⟩,if_neg hc]
def FN{h:B}{S p:Nat->Bool}{ts:List B}{g:Nat->B}(hk:asked S p ts.length≠ [])(h1:ts.length<=16)(ha:∀j∈asked S p ts.length,Sd.Tx (g j)):eK ⟨h,there S p ts,asked S p ts.length⟩ (served h ((asked S p ts.length).map g))=(finish h ((List.range ts.length).map λj=>if S j || p j then ts.getD j []else g j),0,idle):=by
 have h0:0< (asked S p ts.length).length:=List.length_pos_iff.2 hk;have h2:(asked S p ts.length).length<=16:=by have:(asked S p ts.length).length<=(List.range ts.length).length:=List.length_filter_le _ _;rw[List.length_range]at this;omega
 have hr:=LC (Mk.ak h) ((asked S p ts.length).map g) (Mk.dG h) (by rw[List.length_map];exact h0) (by rw[List.length_map];exact h2) λt ht=>by obtain⟨j,hj,rfl⟩:=List.mem_map.1 ht;exact ha j hj
 unfold eK served;rw[hr];dsimp only;rw[if_neg hk,if_neg (λe=>e rfl),if_neg (by rw[List.length_map];exact λe=>e rfl),Rb]
def QL{h:B}{S p:Nat->Bool}{ts:List B}(hk:asked S p ts.length≠ [])(h1:ts.length<=16)(ha:∀t∈ts,Sd.Tx t):eK ⟨h,there S p ts,asked S p ts.length⟩ (served h ((asked S p ts.length).map λj=>ts.getD j []))=(finish h ts,0,idle):=by
 rw[FN hk h1 λj hj=>ha _ (gT (fQ.1 hj).1)];congr 2;conv=>rhs;rw[<-pE ts]
 apply List.map_congr_left;intro j _;split<;>rfl
def xF{h:B}{ts:List B}(h1:ts.length<=16)(hr:(Mk.root (ts.map Mk.ak) false).1=(h.drop 36).take 32)(ht:(Mk.root (ts.map Mk.ak) false).2=false):finish h ts=(2,h++(UInt8.ofNat ts.length::ts.flatten)):=by unfold finish;rw[if_neg (by rw[ht,hr];simp),iP _ (by omega)];rfl
def key(h nc:B)(d:B):UInt64:=cC.Lt (yj (aR.sum (h++nc))) (yh (aR.sum (h++nc))) d
def qp(h nc t:B):short h nc t=Hr (key h nc (Mk.ak t)):=rfl
def Qw{x y:UInt64}(h:Hr x=Hr y):shl x 16=shl y 16:=by
 unfold Hr at h;have h1:=congrArg cC.jo h;rw[OZ,OZ]at h1;apply UInt64.toNat_inj.1;unfold shl;rw[UInt64.toNat_ofNat',UInt64.toNat_ofNat'];have e2:(2:Nat)^ (8*6)=281474976710656:=by decide
 rw[e2]at h1;omega
def Apart(h nc:B)(k:Nat)(all:List B):Prop:=∀i j,j<i->i<all.length->(all.getD i []=all.getD j []->k<=i)/\(all.getD i []≠all.getD j []->shl (key h nc (all.getD i [])) 16≠shl (key h nc (all.getD j [])) 16)
def Apart.Hr{h nc:B}{k:Nat}{all:List B}(H:Apart h nc k all){d e:B}(hd:d∈all)(he:e∈all)(hs:En.Hr (key h nc d)=En.Hr (key h nc e)):d=e:=by
 obtain⟨i,hi,rfl⟩:=List.mem_iff_getElem.1 hd;obtain⟨j,hj,rfl⟩:=List.mem_iff_getElem.1 he;have e1:all.getD i []=all[i]:=by rw[List.getD_eq_getElem?_getD,List.getElem?_eq_getElem hi];rfl
 have e2:all.getD j []=all[j]:=by rw[List.getD_eq_getElem?_getD,List.getElem?_eq_getElem hj];rfl
 have hk:=Qw hs;apply Classical.byContradiction;intro cE;rcases Nat.lt_trichotomy i j with h1|h1|h1;have:=(H j i h1 hj).2;rw[e1,e2]at this;exact this (Ne.symm cE) hk.symm;subst h1;exact cE rfl;have:=(H i j h1 hi).2;rw[e1,e2]at this;exact this cE hk
def Apart.inj{h nc:B}{ids others:List B}(H:Apart h nc ids.length (ids++others)){i j:Nat}(hi:i<ids.length)(hj:j<ids.length)(e:ids.getD i []=ids.getD j []):i=j:=by
 have g:∀i,i<ids.length->(ids++others).getD i []=ids.getD i []:=λi hi=>by rw[List.getD_eq_getElem?_getD,List.getD_eq_getElem?_getD,List.getElem?_append_left hi]
 rcases Nat.lt_trichotomy i j with h1|h1|h1;have:=(H j i h1 (by rw[List.length_append];omega)).1 (by rw[g i hi,g j hj,e]);omega;exact h1;have:=(H i j h1 (by rw[List.length_append];omega)).1 (by rw[g i hi,g j hj,e]);omega
def filter_one{P:List B}{t:B}(hn:P.Nodup):P.filter (λu=>u==t)=if decide (t∈P)then [t]else []:=by
 induction P with
 |nil=>simp|cons u P ih=>
 rw[List.nodup_cons]at hn;rw[List.filter_cons,ih hn.2];by_cases hu:u=t;subst hu;simp[hn.1];have:(u==t)=false:=by simpa using hu
 rw[this];have e:(t∈u::P)↔t∈P:=by rw[List.mem_cons];exact⟨λh=>h.resolve_left (Ne.symm hu),.inr⟩
 simp[e,Ne.symm hu]
def Us{P:List B}(h:Pl.Up Mk.ak P):P.Nodup:=List.Pairwise.imp (λ{a b} yQ e=>by subst e;exact Pl.sI _ yQ) h
def Sp{f:B->B}{P:List B}{t:B}(mg:Pl.Up Mk.ak P)(hf:∀u∈P,f u=f t->Mk.ak u=Mk.ak t)(hd:∀u∈P,Mk.ak u=Mk.ak t->u=t):sM f P (f t)=if decide (Mk.ak t∈P.map Mk.ak)then [t]else []:=by unfold sM;rw[List.filter_congr (q:=λu=>u==t) λu hu=>?_,filter_one (Us mg)];have:t∈P↔Mk.ak t∈P.map Mk.ak:=⟨λh=>List.mem_map.2 ⟨t,h,rfl⟩,λh=>by obtain⟨u,hu,e⟩:=List.mem_map.1 h;have:=hd u hu e;subst this;exact hu⟩;simp only[this];rw[Bool.eq_iff_iff,beq_iff_eq,beq_iff_eq];exact⟨λe=>hd u hu (hf u hu e),λe=>by rw[e]⟩
end Hn
end
section
open ba Go.Conc
open Go.RowKit
open Ph (cb cl cr ci co ay aP bT da eD je bX eC ep ml bZ)
open Tp (bu bp bS bc bD eu ef fS br bI db dA du l0 E9 E7)
namespace Al
def ts:List (List UInt8):=[aj.tx 1,aj.tx 2]
def b:List UInt8:=aj.blk ts 3
def c:List UInt8:=(En.encode b 5 [0,1]).1
def avs:aj.Good ts:=λt ht=>by have h:∀x,(aj.tx x).length<=610/\∃r,Wr.cN (aj.tx x)=.ok (aj.tx x) r:=λx=>⟨Mp.nM (aj.vi x),_,aj.vi x⟩;rcases List.mem_cons.1 ht with rfl|ht;exact h 1;rw[List.mem_singleton.1 ht];exact h 2
def twins:(Mk.root (ts.map Mk.ak) false).2=false:=by decide +kernel
def enc:(En.encode b 5 [0,1]).2=0:=by decide +kernel
def cpt:(Cp.compact [] c).1=(2,b)/\(Cp.compact [] c).2.1=0/\c.length<=5000/\b.length<=5000:=by decide +kernel
noncomputable def sfr:Frame:={(default:Frame)with fn:=19,kind:=.normal}
def fn:prog.funcs[19]? =some Tryz.f19:=func19
noncomputable def QM:Code:=cb Tryz.f19
def enter:Frame.enter prog 19 #[] .normal=sfr.at ⟨List.toArray (undef::undef::undef::undef::undef::undef::undef::undef::undef::undef::undef::undef::undef::undef::undef::undef::undef::undef::undef::undef::undef::undef::undef::undef::undef::undef::undef::undef::undef::undef::undef::undef::undef::undef::undef::undef::undef::undef::undef::undef::undef::undef::undef::undef::undef::undef::undef::undef::undef::undef::undef::undef::undef::[]),[]⟩ [.code QM]:=by unfold Frame.enter;rw[func19];kernel_rfl
noncomputable def Q1:Code:=cr QM
noncomputable def Q2:Code:=cr Q1
noncomputable def Q3:Code:=cr Q2
noncomputable def Q4:Code:=cr Q3
noncomputable def Q5:Code:=cr Q4
noncomputable def Q6:Code:=cr Q5
def hQ0:QM=.seq (cl QM) Q1:=rfl
def hQ1:Q1=.seq (cl Q1) Q2:=rfl
def hQ2:Q2=.seq (cl Q2) Q3:=rfl
def hQ3:Q3=.seq (cl Q3) Q4:=rfl
def hQ4:Q4=.seq (cl Q4) Q5:=rfl
def hQ5:Q5=.seq (cl Q5) Q6:=rfl
end Al
def GQ(w:World)(hT:cG w):eu prog 19 #[] w λv w'=>v=.bool true/\Ph.kg w.heap.size w w':=by
 intro cx cs Stop K;have KK:=η K;have HT:=η hT;have gM:=hT.lt;clear hT K;rw[Al.enter];refine br bp (bI λUl n0=>?_);have B0:=η (show Ph.kg w.heap.size w (w.re Ul n0)from⟨rfl,rfl,ν,λ_ _=>rfl⟩);have T0:=η (show cG (w.re Ul n0)from HT.o.mK B0.o gM);have Uk:=η (show w.heap.size=(w.re Ul n0).heap.size from rfl);have Sz:1< (w.re Ul n0).heap.size:=gM;generalize w.re Ul n0=w0 at B0 T0 Uk Sz|-;have TX9:=η (λv=>jR 1 v (by omega));have TY9:=η (λv=>jR 2 v (by omega));have BK:=η (λ(u:World) (v:Value) (hTu:cG u) (hv:fH u v Al.ts)=>ua Al.ts v 3 u hTu hv Al.avs (by decide) (by decide));rw[show aj.blk Al.ts 3=Al.b from rfl,show aj.ids Al.ts=Al.ts.map Mk.ak from rfl,Al.twins]at BK;have CP:=Al.cpt;have EN:=η (λ(u:World) (v:Value) (hTu:cG u) (hv:dC u v [0,1])=>uF Al.b 5 v [0,1] u hTu (Nat.le_trans CP.2.2.2 (by decide)) hv (by decide) (λi hi=>by
 match i,hi with
 |0,_=>exact⟨by decide,by decide⟩
 |1,_=>exact⟨by decide,by decide⟩
 |n+2,h=>exact absurd h (by simp)))
 rw[show En.encode Al.b 5 [0,1]=(Al.c,0)from Prod.ext rfl Al.enc]at EN;have La:Al.ts=[aj.tx 1,aj.tx 2]:=rfl;rw[La]at BK;generalize aj.tx 1=t1 at TX9 BK;generalize aj.tx 2=t2 at TY9 BK;clear La;refine ay Al.hQ0 (aP (c':=.region _ _ _) rfl ?_);go_wp2_with fail;show bS _ _ _ _ _;refine ay Al.hQ1 (aP (c':=.region _ _ _) rfl ?_);go_wp2_with fail;refine(TX9.o _).mono ?_;clear TX9;rintro e wa⟨rfl,Ic⟩;have Ba:=η Ic;clear Ic;go_wp2_with fail;refine(TY9.o _).mono ?_;clear TY9;rintro e wb⟨rfl,hbb⟩;have Bb:=η (Ba.o.trans (hbb.mono Ba.o.size));clear hbb Ba;go_wp2_with fail;have RS:=Row.new wb [.string (str t1),.string (str t2)] 9;rw[show([Value.string (str t1),.string (str t2)]).toArray=#[Value.string (str t1),.string (str t2)]from rfl]at RS;have Bc:=η (Bb.o.alloc Bb.o.size (.cells #[.string (str t1),.string (str t2)] 9));clear Bb;generalize wb.alloc _=wc at Bc RS|-;generalize wb.heap.size=G at RS|-;have TXc:fH wc (.slice (some ⟨G,0,none⟩) 2 2) [t1,t2]:=.inr ⟨G,0,2,rfl,RS.lt,λj hj=>by
 rw[RS.cell];match j,hj with
 |0,_=>rfl
 |1,_=>rfl
 |n+2,h=>exact absurd h (by simp)⟩
 refine(BK.o wc _ (T0.o.below Bc.o Sz) TXc).mono ?_;clear BK TXc RS;rintro e wd⟨iv,rfl,_,hbd⟩;have Bd:=η (Bc.o.trans (hbd.mono Bc.o.size));clear hbd Bc;go_wp2_with fail;show bS _ _ _ _ _;have T4:=η (AQ wd);refine ay Al.hQ2 (aP (c':=.region _ _ _) rfl ?_);go_wp2_with fail;refine T4.o.mono ?_;clear T4;rintro e w4⟨r,m,rfl,hr,hmp,hrw,hmw,hrm,mE⟩;have hzd:=Bd.o.size;have MH:=mE.size;have h1d:1<wd.heap.size:=by omega
 have TBd:=η (T0.o.below Bd.o Sz);have U4:=η (show oq wd w4 r m w4.heap.size [] Cp.idle from⟨.inl ⟨rfl,hr⟩,hmp,Ph.kg.of mE,(λt ht=>by cases ht),Sd.vU,hrm,hrw,hmw,hr.lt,hmp.lt⟩);clear hr hmp mE;go_wp2_with fail;show bS _ _ _ _ _;refine ay Al.hQ3 (aP (c':=.seq (.region _ _ _) (.cond _ _ _)) rfl ?_);go_wp2_with fail;show bS _ _ _ _ _;refine ay Al.hQ4 (aP (c':=.region _ _ _) rfl ?_);go_wp2_with fail;have hbe:=(Below.refl w4.heap.size w4).alloc ν (.cells #[.int .i64 0,.int .i64 1] 3);have RZ:=Row.new w4 [.int .i64 0,.int .i64 1] 3;rw[show([Value.int .i64 0,.int .i64 1]).toArray=#[Value.int .i64 0,.int .i64 1]from rfl]at RZ;have Ue:=η (U4.o.below hbe);clear hbe U4;generalize w4.alloc _=we at Ue RZ|-;generalize w4.heap.size=G at RZ Ue|-;have IAe:dC we (.slice (some ⟨G,0,none⟩) 2 2) [0,1]:=.inr ⟨G,0,2,rfl,RZ.lt,λj hj=>by
 rw[RZ.cell];match j,hj with
 |0,_=>rfl
 |1,_=>rfl
 |n+2,h=>exact absurd h (by simp)⟩
 rw[show(U 5:Int)=5 from rfl]at EN;refine(EN.o we _ (TBd.o.mK Ue.o.mK h1d) IAe).mono ?_;clear EN IAe RZ;rintro e wf⟨rfl,hbf⟩;have Uf:=η (Ue.o.below hbf);clear hbf Ue;dsimp only[YD];rw[show((0:Nat):Int)=0 from rfl];go_wp2_with fail;show bS _ _ _ _ _;obtain⟨va,vb,vc,b8⟩:=Uf.o.row;have CB:=pX Al.c [] r m va vb vc wf (TBd.o.mK Uf.o.mK h1d) (Nat.le_trans CP.2.2.1 (by decide)) (by omega) b8 Uf.o.map hrm.symm (λt ht=>by cases ht);rw[CP.1,CP.2.1]at CB;dsimp only at CB;have YX:=η Uf.o.mK;have hrf:=b8.lt;clear Uf b8 CP;generalize Al.c=cc at CB|-;generalize Al.b=bb at CB|-;refine ay Al.hQ5 (ep 2 [2,3,4,5,6,7,8] rfl rfl (by decide) ?_);show wpList _ _ _ [_,_] _ _;go_wp2_with fail;show bS _ _ _ _ _;refine E9 (R:=λv w'=>v=.bool true/\Ph.kg w.heap.size w w') bp Al.fn rfl rfl KK.o (i:=2) (rest:=[3,4,5,6,7,8]) rfl rfl (L2:=[_,_,_,_,_,_]) rfl CB (λ_ _=>by kernel_rfl) ?_;rintro v wg τ1 n1⟨rfl,_,pP⟩;clear CB KK;have Qe:=η (show Ph.kg wd.heap.size wd (wg.re τ1 n1)from by have hz:=YX.o.size;exact YX.o.trans ⟨pP.os,pP.output,pP.size,λk hk=>pP.block k (by omega) (by omega)⟩);clear pP YX;generalize wg.re τ1 n1=Ii at Qe|-;show wpList _ _ _ [⟨some 35,.move (.tmp 38),_,_,_,none⟩,⟨some 39,.extract (.tmp 35) 0,_,_,_,none⟩,⟨some 40,.extract (.tmp 35) 1,_,_,_,none⟩,⟨some 8,.alloc _,_,_,_,none⟩,⟨none,.store _ (.tmp 8) (.tmp 39),_,_,_,none⟩,⟨some 9,.assign (.tmp 40),_,_,_,none⟩] _ _;rw[show(an 2 bb).toArray=#[Value.int .i64 2,.string (str bb)]from rfl];rw[show((0:Nat):Int)=0 from rfl];go_wp2_with fail;have RA:=Row.new Ii (an 2 bb) 48;have Ud:=(Below.refl Ii.heap.size Ii).alloc ν (.cells (an 2 bb).toArray 48);rw[show(an 2 bb).toArray=#[Value.int .i64 2,.string (str bb)]from rfl]at RA Ud;have Zi:=η (Qe.o.trans ((Ph.kg.of Ud).mono Qe.o.size));clear Ud Qe;generalize Ii.alloc _=wh at RA Zi|-;generalize Ii.heap.size=A at RA|-;show Code.wp _ (.seq (.region _ _ _) .ret) _ _ _;go_wp2_with (first|(with_reducible refine oR (d:=some 48) (by kernel_rfl) ?_)|(with_reducible refine oR (d:=some 50) (by kernel_rfl) ?_)|(with_reducible refine oR (d:=some 51) (by kernel_rfl) ?_)|(with_reducible refine dW (o:=⟨some 48,_,_,_,_,_⟩) rfl _ _ rfl A (an 2 bb) rfl RA _ underlying48 (aX.trans rfl) _ rfl ?_)|(with_reducible refine wB (o:=⟨some 50,_,_,_,_,_⟩) rfl _ _ rfl 2 bb rfl rfl ?_)|(with_reducible refine Sd.abl (o:=⟨some 51,_,_,_,_,_⟩) rfl _ _ _ rfl 2 bb rfl rfl ?_));refine Tp.ahC (results_tmp rfl _ _ _) rfl ⟨rfl,?_⟩;exact(B0.o.trans ((Ph.kg.of Bd.o).mono (by have:=Uk.o;omega))).trans (Zi.o.mono (by have:=Uk.o;omega))
end
section
open ba
open Go.RowKit
def OI(x:UInt8):(BitVec.ofInt 8 (Y x)).toNat=x.toNat:=by rw[BitVec.toNat_ofInt];have:=x.toNat_lt;unfold Y;omega
def KH(x y:UInt8):bits .xor .u8 (Y x) (Y y)=Y (x ^^^ y):=by show IntKind.u8.wrap ((BitVec.ofInt 8 (Y x) ^^^ BitVec.ofInt 8 (Y y)).toNat:Int)=_;rw[BitVec.toNat_xor,OI,OI,IntKind.wrap_u8',<-UInt8.toNat_xor];have:=(x ^^^ y).toNat_lt;unfold Y;omega
@[go_sem high] def Ez (t:TypeId) (x y:UInt8):binOp .xor t (.int .u8 (Y x)) (.int .u8 (Y y))=pure (.int .u8 (Y (x ^^^ y))):=by rw[<-KH];rfl
@[go_sem] def ahc (t:TypeId) (x:UInt8) (y:Int) (h0:0<=y) (h1:y<256):binOp .xor t (.int .u8 (Y x)) (.int .u8 y)=pure (.int .u8 (Y (x ^^^ UInt8.ofNat y.toNat))):=by
 have e:y=Y (UInt8.ofNat y.toNat):=by unfold Y;rw[UInt8.toNat_ofNat'];omega
 rw[e,Ez,<-e]
def BB(w:World)(g:Nat)(l:List UInt8):Prop:=∃(cs:Array Value)(T:TypeId),w.heap[g]? =some (.cells cs T (cs.size,cs.size+1))/\l.length<=cs.size/\∀j,j<l.length->cs[j]? =some (.int .u8 (Y (nth l j)))
end
section
open ba
namespace Hn
open Wr En Cp
def pre(l:B):R Unit:=(take 4 l).bind λ_ r=>(cM 1 4 r).bind λn r=>(rep nA n r).bind λ_ r=>(cM 1 4 r).bind λn r=>rep fN n r
def flip(l:B):B:=l.set (l.length-1) (l.getD (l.length-1) 0 ^^^ 1)
def other(ts:List B):List B:=ts.set (ts.length-1) (flip (ts.getD (ts.length-1) []))
def zero:Nat->Bool:=λj=>j==0
end Hn
end
section
open ba
open Go.RowKit
namespace aj
def qg(ts:List (List UInt8))(t:List UInt8):List (List UInt8):=if t∈ts then ts else if ts.length<16 then ts++[t]else ts
def gF(l:List Int):Nat->List (List UInt8)
 |0=>[]|k+1=>qg (gF l k) (tx (l.getD k 0))
def Fb(ts:List (List UInt8))(t:List UInt8)(h:ts.length<=16):(qg ts t).length<=16/\ts.length<=(qg ts t).length:=by unfold qg;split;exact⟨h,ν⟩;split;rw[List.length_append];simp;omega;exact⟨h,ν⟩
theorem qn(l:List Int):∀k,(gF l k).length<=16
 |0=>by simp[gF]|k+1=>(Fb _ _ (qn l k)).1
theorem mR(l:List Int):∀(k:Nat),∀t∈gF l k,∃x,t=tx x
 |0,t,h=>by cases h
 |k+1,t,h=>by rw[gF]at h;unfold qg at h;split at h;exact mR l k t h;split at h;rcases List.mem_append.1 h with h|h;exact mR l k t h;exact⟨_,List.mem_singleton.1 h⟩;exact mR l k t h
def ab9(x:Int):tx x≠ []:=λe=>by have:=congrArg List.length e;simp[tx,zn,aU]at this
def adR(x:Int):(tx x).length<=610:=Mp.nM (vi x)
end aj
def MF(al:List Int)(v:Value)(w:World)(hv:dC w v al)(hsr:∀j,j<al.length-> -9223372036854775808<=al.getD j 0/\al.getD j 0<=9223372036854775807)(hn:al.length<=1000):Calls prog 20 #[v] w λe w'=>∃tv,e=.returned tv/\w'.ownsRow w.heap.size 9 1 tv (aj.gF al al.length).length (wt (aj.gF al al.length))/\Below w.heap.size w w':=by
 obtain⟨i0,fy,nB,ku,gK⟩:=info_parts me;have HI:=η fy;clear fy;have HV:=η hv;have HS:=η hsr;obtain⟨va,vc,rfl⟩:=hv.form;clear hv hsr;go_enter func20,ntmps20;go_wp2_with fail;go_loopw [3,5,6,8,11] (λov _ _ _ iv wr=>∃i:Nat,i<=al.length/\iv=.int .i64 i/\wr.ownsRow w.heap.size 9 1 ov (aj.gF al i).length (wt (aj.gF al i))/\Below w.heap.size w wr) (λ_ _ _ _ iv _=>al.length-(intOf iv).toNat)
 exact⟨0,by omega,rfl,World.ownsRow_nil _ _ _ _,Below.refl _ _⟩;obtain⟨i,hi,rfl,bL,hB⟩:=hrel;have HB:=η hB;have HO:=η bL;have j0:=hB.size;clear hB bL;by_cases aM:i<al.length
 ·have p1:(i:Int)< (al.length:Int):=by omega
  obtain⟨ab,ao,rfl,yQ,dL⟩:=HV.o.at (by omega);have hc:wr.cell? ⟨ab,ao+i,none⟩=some (.int .i64 (al.getD i 0)):=by rw[<-dL i aM];exact World.cell?_of_block (w:=w) (HB.o.block ab yQ)
  have hxr:=HS.o i aM;have EX:=η (show aj.gF al (i+1)=aj.qg (aj.gF al i) (aj.tx (al.getD i 0))from rfl);have h16:=aj.qn al i;have NE:=η (λt (h:t∈aj.gF al i)=>show t≠ []from by obtain⟨x,rfl⟩:=aj.mR al i t h;exact aj.ab9 x);have T1:=η (λu=>jR (al.getD i 0) u (by omega));have TN:=aj.ab9 (al.getD i 0);have yL:=aj.adR (al.getD i 0);generalize hx:al.getD i 0=x at hc hxr EX T1 TN yL;generalize aj.tx x=t at EX T1 TN yL;generalize La:aj.gF al i=ts at HO EX h16 NE;clear dL hx La hxr;go_wp2_with fail;refine(T1.o _).mono ?_;clear T1;rintro e w1⟨rfl,ux⟩;have O1:=η (aB HO.o ux ν);have B1:=η (HB.o.trans (ux.mono j0));have Se:=B1.o.size;obtain⟨oa,oc,rfl⟩:=aO HO.o;clear ux HO HB hc;have TX:=η (jz O1.o rfl);go_wp2_with fail;go_loopw [6,8,19] (λtv _ jv wx=>∃(j:Nat)(c:List UInt8),j<=ts.length/\jv=.int .i64 j/\tv=.string (str c)/\(c=[]/\t∈ts∨c=t/\∀k,k<j->ts.getD k []≠t)/\wx=w1) (λ_ _ jv _=>ts.length-(intOf jv).toNat);exact⟨0,t,by omega,rfl,rfl,.inr ⟨rfl,λk hk=>absurd hk (Nat.not_lt_zero _)⟩,rfl⟩;obtain⟨j,c,hj,rfl,rfl,hC,rfl⟩:=hrel;have HC:=η hC;clear hC;by_cases lN:j<ts.length
  ·have p2:(j:Int)< (ts.length:Int):=by omega
   obtain⟨gb,go,cb,Hu,yP,hP⟩:=TX.o.open (by omega);cases Hu;have ur:=hP j lN;have hm:ts.getD j []∈ts:=by rw[List.getD_eq_getElem?_getD,List.getElem?_eq_getElem lN];exact List.getElem_mem lN
   have Wx:=NE.o _ hm;clear hP;by_cases he:c=ts.getD j []
   ·have HN:=η (show t∈ts from by rcases HC.o with⟨h,h'⟩|⟨h,_⟩;exact h';rw[<-h,he];exact hm);subst he;clear HC;go_wp2_with fail;go_roundw
    ·exact⟨j+1,[],by omega,by go_num,rfl,.inl ⟨rfl,HN.o⟩,by first|trivial|rfl⟩
    simp[intOf];omega
   have hs:(str c==str (ts.getD j []))=false:=by rw[Ph.Oi];simpa using he
   have oO:(c==ts.getD j [])=false:=by simpa using he
   obtain⟨u,hu⟩:∃u,ts.getD j []=u:=⟨_,rfl⟩;rw[hu]at ur hs oO he;have HU:=η hu;clear hu;go_wp2_with fail;go_roundw
   ·exact⟨j+1,c,by omega,by go_num,rfl,(by rcases HC.o with h|⟨h,h'⟩;exact .inl h;refine .inr ⟨h,λk hk=>?_⟩;by_cases hkj:k=j;subst hkj;rw[<-h,HU.o];exact λe=>he e.symm;exact h' k (by omega)),by first|trivial|rfl⟩
   simp[intOf];omega
  obtain rfl:j=ts.length:=by omega
  by_cases TY:t∈ts
  ·have vV:c=[]:=by rcases HC.o with⟨h,_⟩|⟨_,h'⟩;exact h;obtain⟨k,hk,e⟩:=List.mem_iff_getElem.1 TY;exact absurd (by rw[List.getD_eq_getElem?_getD,List.getElem?_eq_getElem hk];exact e) (h' k hk)
   subst vV;have E2:=η (show aj.gF al (i+1)=ts by rw[EX.o];unfold aj.qg;rw[if_pos TY]);go_wp2_with fail;go_roundw
   ·exact⟨i+1,by omega,by go_num,by rw[E2.o];exact O1.o,B1.o⟩
   simp[intOf];omega
  have hct:c=t:=by rcases HC.o with⟨_,h⟩|⟨h,_⟩;exact absurd h TY;exact h
  subst hct;have hs:c.isEmpty=false:=by cases c with|nil=>exact absurd rfl TN|cons a l=>rfl
  by_cases h6:ts.length<16
  ·have E2:=η (show aj.gF al (i+1)=ts++[c]by rw[EX.o];unfold aj.qg;rw[if_neg TY,if_pos h6]);have q6:(ts.length:Int)<16:=by omega
   go_wp2_with (at_builtin;refine wpList_append_own _ rfl _ _ 42 rfl w.heap.size 9 i0 (.string ByteArray.empty) 1 16 underlying42 HI.o nB ku gK rfl (by decide) _ _ _ rfl (O1.o.alloc _) ⟨wr.heap.size,0,none⟩ 1 1 [.string (str c)] rfl rfl (cell_one_new _ _ _) (ig [c]) (by unfold maxLen;omega) (by omega) (by rw[World.size_alloc];omega) ?_;intro TI w3 cB df _;have hbl:Below w.heap.size wr w3:=((Below.refl w.heap.size wr).alloc Se _).grown df (by rw[World.size_alloc];omega) (λk hk=>(O1.o.lt k hk).1);have H1:=η cB;have H2:=η hbl;clear cB df hbl)
   go_roundw
   ·exact⟨i+1,by omega,by go_num,by rw[E2.o,<-iK,List.length_append];exact H1.o,B1.o.trans H2.o⟩
   simp[intOf];omega
  have E2:=η (show aj.gF al (i+1)=ts by rw[EX.o];unfold aj.qg;rw[if_neg TY,if_neg h6]);have q6:¬(ts.length:Int)<16:=by omega
  go_wp2_with fail;go_roundw
  ·exact⟨i+1,by omega,by go_num,by rw[E2.o];exact O1.o,B1.o⟩
  simp[intOf];omega
 obtain rfl:i=al.length:=by omega
 go_wp2_with fail;go_ret;exact⟨_,rfl,HO.o,HB.o⟩
end
section
open ba
namespace Hn
open Wr En Cp
def Og(x:Int):Sd.Tx (aj.tx x):=by have:=aj.UC x [];rwa[List.append_nil]at this
def abe{ts:List B}(h:∀t∈ts,Sd.Tx t):aj.Good ts:=λt ht=>⟨(h t ht).len,_,(h t ht).read⟩
def adO(l:List Int)(k:Nat):∀t∈aj.gF l k,Sd.Tx t:=λt ht=>by obtain⟨x,rfl⟩:=aj.mR l k t ht;exact Og x
theorem k6{ts:List B}(h:0<ts.length):(Mk.root (aj.ids ts) false).1.length=32:=Mk.k6 _ (aj.Bq ts) (by simpa[aj.ids]using h)
def BH{ts:List B}(h:0<ts.length)(aF:Int):(aj.kO ts aF).length=80:=by unfold aj.kO;rw[List.length_append,List.length_append,aj.aU,aj.aU,k6 h]
def Ss{ts:List B}(h:0<ts.length)(aF:Int):((aj.kO ts aF).drop 36).take 32=(Mk.root (aj.ids ts) false).1:=by unfold aj.kO;rw[List.append_assoc,List.drop_left' (aj.aU 36 aF),List.take_left' (k6 h)]
def ND(ts:List B)(aF:Int):aj.blk ts aF=aj.kO ts aF++(UInt8.ofNat ts.length::ts.flatten):=by unfold aj.blk;rw[List.append_assoc];rfl
def Yp{ts:List B}(h:0<ts.length)(aF:Int):(aj.blk ts aF).take 80=aj.kO ts aF:=by rw[ND,List.take_left' (BH h aF)]
theorem uA:∀(ts:List B),(∀t∈ts,Sd.Tx t)->ts.flatten.length<=610*ts.length
 |[],_=>by simp|t::ts,h=>by have h1:=(h t List.mem_cons_self).len;have h2:=uA ts λt ht=>h t (List.mem_cons_of_mem _ ht);rw[List.flatten_cons,List.length_append,List.length_cons];omega
def aby{ts:List B}(h:0<ts.length)(h1:ts.length<=16)(ha:∀t∈ts,Sd.Tx t)(aF:Int):81<=(aj.blk ts aF).length/\(aj.blk ts aF).length<=10000:=by have:=uA ts ha;rw[ND,List.length_append,BH h,List.length_cons];omega
def mf{ts:List B}{j:Nat}(hj:j<ts.length):(aj.ids ts).getD j []=Mk.ak (ts.getD j []):=by unfold aj.ids;rw[List.getD_eq_getElem?_getD,List.getElem?_map,List.getD_eq_getElem?_getD,List.getElem?_eq_getElem hj];rfl
def dK(ts:List B):(aj.ids ts).length=ts.length:=by simp[aj.ids]
def ahJ{h nc:B}{ts others:List B}(H:Apart h nc ts.length (aj.ids ts++others)){i j:Nat}(hi:i<ts.length)(hj:j<ts.length)(e:short h nc (ts.getD i [])=short h nc (ts.getD j [])):i=j:=by rw[qp,qp]at e;have mi:Mk.ak (ts.getD i [])∈aj.ids ts++others:=List.mem_append_left _ (List.mem_map.2 ⟨_,gT hi,rfl⟩);have mj:Mk.ak (ts.getD j [])∈aj.ids ts++others:=List.mem_append_left _ (List.mem_map.2 ⟨_,gT hj,rfl⟩);have:=H.Hr mi mj e;refine Apart.inj (ids:=aj.ids ts) (others:=others) (by rw[dK];exact H) (by rw[dK];exact hi) (by rw[dK];exact hj) ?_;rw[mf hi,mf hj];exact this
def Gs{h nc:B}{P ts others:List B}(H:Apart h nc ts.length (aj.ids ts++others))(mg:Pl.Up Mk.ak P)(hm:∀u∈P,Mk.ak u∈aj.ids ts++others){j:Nat}(hj:j<ts.length)(hd:∀u∈P,Mk.ak u=Mk.ak (ts.getD j [])->u=ts.getD j []):sM (short h nc) P (short h nc (ts.getD j []))=if decide (Mk.ak (ts.getD j [])∈P.map Mk.ak)then [ts.getD j []]else []:=Sp mg (λu hu e=>by rw[qp,qp]at e;exact H.Hr (hm u hu) (List.mem_append_left _ (List.mem_map.2 ⟨_,gT hj,rfl⟩)) e) hd
def aha{h nc:B}{ts others:List B}(H:Apart h nc ts.length (aj.ids ts++others)){u:B}(hu:u∈ts){j:Nat}(hj:j<ts.length)(e:Mk.ak u=Mk.ak (ts.getD j [])):u=ts.getD j []:=by
 obtain⟨i,hi,rfl⟩:=List.mem_iff_getElem.1 hu;have e1:ts.getD i []=ts[i]:=by rw[List.getD_eq_getElem?_getD,List.getElem?_eq_getElem hi];rfl
 have:i=j:=Apart.inj (ids:=aj.ids ts) (others:=others) (by rw[dK];exact H) (by rw[dK];exact hi) (by rw[dK];exact hj) (by rw[mf hi,mf hj,e1];exact e);subst this;exact e1.symm
def ajd{P:List B}{t:B}(mg:Pl.Up Mk.ak P)(hP:P.length<20)(ht:Sd.Tx t):(Mk.ak t∈(Mp.CA P (cN t)).map Mk.ak)/\(∀u∈Mp.CA P (cN t),u∈P∨u=t)/\(∀u∈P,u∈Mp.CA P (cN t))/\(Mp.CA P (cN t)).length<=P.length+1:=by
 unfold Mp.CA;rw[ht.read];dsimp only;cases hx:(Pl.at' Mk.ak (Mk.ak t) P).2 with
 |true=>rw[if_pos rfl];obtain⟨u,hu,e⟩:=(Pl.at_mem Mk.ak (Mk.ak t) P mg).1 hx;exact⟨List.mem_map.2 ⟨u,hu,e⟩,λu hu=>.inl hu,λu hu=>hu,Nat.le_succ _⟩
 |false=>rw[if_neg (by simp),if_neg (by omega)];refine⟨List.mem_map.2 ⟨t,(Pl.n5 Mk.ak t P t).2 (.inl rfl),rfl⟩,λu hu=>?_,λu hu=>(Pl.n5 Mk.ak t P u).2 (.inr hu),by rw[Pl.Gl];exact ν⟩;rcases(Pl.n5 Mk.ak t P u).1 hu with h|h;exact .inr h;exact .inl h
def u9(n:Nat):(dD n).length<=9:=by unfold dD;split;simp;split;simp[bo];split<;>simp[bo]
theorem Is:∀(l:List Int)(next:Int)(ts:List B),(told (dz next l) ts).length<=9*l.length+ts.flatten.length
 |[],_,ts=>by simp[dz,told]|i::l,next,[]=>by simp[dz,told]|i::l,next,t::ts=>by have h1:=u9 (i-next).toNat;have h2:=Is l (i+1) ts;rw[dz,told,List.length_append,List.length_append,List.length_cons,List.flatten_cons,List.length_append];omega
def UF{h nc:B}{S:Nat->Bool}{ts:List B}(hh:h.length=80)(hn:nc.length=8)(h1:ts.length<=16)(ha:∀t∈ts,Sd.Tx t):(tell h nc S ts).length<=20000:=by
 unfold tell;rw[Fv S ts _ _ ν,jN _ S ts _ _ ν];have h2:=yK S ts.length;have h3:=Is (ints (idx S ts.length)) 0 ((idx S ts.length).map λj=>ts.getD j []);have h4:=uA ((idx S ts.length).map λj=>ts.getD j []) λt ht=>by obtain⟨j,hj,rfl⟩:=List.mem_map.1 ht;exact ha _ (gT (fQ.1 hj).1)
 have h5:=u9 ((idx (λj=> !S j) ts.length).map λj=>short h nc (ts.getD j [])).length;have h6:=u9 (ints (idx S ts.length)).length;have h7:∀l:List Nat,((l.map λj=>short h nc (ts.getD j [])).flatten).length=6*l.length:=λl=>by induction l with|nil=>rfl|cons x l ih=>rw[List.map_cons,List.flatten_cons,List.length_append,ih,Ed,List.length_cons];omega
 have h8:=h7 (idx (λj=> !S j) ts.length);rw[List.length_map]at h4;rw[gP]at h3;unfold En.bytes;simp only[List.length_append,hh,hn,h8];omega
def adQ{t:B}(h:Sd.Tx t):10<=t.length:=by obtain⟨a,s,h1,h2⟩:=Sd.fG (show(body t).bind _=.ok t []from h);obtain⟨g1,r2,r3,_,_,h5,g2,_,_,h6,g3,_⟩:=Sd.NA h1;have l1:=(k8 Bi _ _).le h5;have l2:=(k8 vI _ _).le h6;rw[List.length_drop]at l1 l2;omega
def Lu{h:B}{us:List B}(h0:0<us.length)(h1:us.length<=16)(ha:∀t∈us,Sd.Tx t):40<=(served h us).length/\(served h us).length<=10000:=by
 have h2:=uA us ha;obtain⟨t,l,rfl⟩:∃t l,us=t::l:=by cases us with|nil=>simp at h0|cons t l=>exact⟨t,l,rfl⟩
 have h3:=adQ (ha t List.mem_cons_self);unfold served;rw[List.length_append,Mk.dG,List.length_cons,List.flatten_cons,List.length_append];rw[List.flatten_cons,List.length_append]at h2;omega
end Hn
end
section
open ba
open Go.RowKit
namespace aj
def bit(m:Int)(i:Nat):Bool:=bits .and .i64 (m/2^min i 64) 1==1
def tW(m:Int)(i:Nat):Bool:=i==0 || bit m i
end aj
def Tq(m:Int)(n:Nat)(w:World)(hm: -9223372036854775808<=m/\m<9223372036854775808)(hn:n<=100)(h0:0<n):Calls prog 22 #[.int .i64 m,.int .i64 n] w λe w'=>∃v,e=.returned v/\w'.ownsRow w.heap.size 3 1 v (Hn.idx (aj.tW m) n).length (oN (Hn.idx (aj.tW m) n))/\Below w.heap.size w w':=by
 obtain⟨i1,Za,hq0,Du,Hx⟩:=info_parts ly;have HI:=η Za;clear Za;go_enter func22,ntmps22;go_wp2_with fail;go_loopw [5,6] (λov iv wr=>∃i:Nat,i<=n/\1<=i/\iv=.int .i64 i/\wr.ownsRow w.heap.size 3 1 ov (Hn.idx (aj.tW m) i).length (oN (Hn.idx (aj.tW m) i))/\Below w.heap.size w wr) (λ_ iv _=>n-(intOf iv).toNat)
 exact⟨1,by omega,by omega,rfl,World.ownsRow_lit w #[.int .i64 0] 1 ν (by unfold maxLen;decide) rfl,(Below.refl _ _).alloc ν _⟩;obtain⟨i,hi,Za,rfl,bL,hB⟩:=hrel;have HB:=η hB;have j0:=hB.size;have Pw:(Hn.idx (aj.tW m) i).length<=i:=by have:=List.length_filter_le (aj.tW m) (List.range i);rw[List.length_range]at this;exact this
 have EX:=η (Hn.ng (aj.tW m) i);generalize hl:Hn.idx (aj.tW m) i=l at bL Pw EX;have HO:=η bL;have HL:=η hl;clear hB bL hl;by_cases aM:i<n
 ·have p1:(i:Int)< (n:Int):=by omega
  by_cases hb:aj.bit m i=true
  ·have nC:(bits .and .i64 (m/2^min i 64) 1==1)=true:=hb;have E2:=η (show Hn.idx (aj.tW m) (i+1)=l++[i]by rw[EX.o,if_pos (by unfold aj.tW;rw[hb];simp)]);go_wp2_with (at_builtin;refine wpList_append_own _ rfl _ _ 39 rfl w.heap.size 3 i1 (.int .i64 0) 1 8 underlying39 HI.o hq0 Du Hx rfl (by decide) _ _ _ rfl (HO.o.alloc _) ⟨wr.heap.size,0,none⟩ 1 1 [.int .i64 (i:Int)] rfl rfl (cell_one_new _ _ _) (λu hu=>by simp at hu;subst hu;rfl) (by unfold maxLen;omega) (by omega) (by rw[World.size_alloc];omega) ?_;intro TI w3 cB df _;have hbl:Below w.heap.size wr w3:=((Below.refl w.heap.size wr).alloc j0 _).grown df (by rw[World.size_alloc];omega) (λk hk=>(HO.o.lt k hk).1);have H1:=η cB;have H2:=η hbl;clear cB df hbl)
   go_roundw
   ·exact⟨i+1,by omega,by omega,by go_num,by rw[E2.o,<-oS,List.length_append];exact H1.o,HB.o.trans H2.o⟩
   simp[intOf];omega
  have nC:(bits .and .i64 (m/2^min i 64) 1==1)=false:=by simpa[aj.bit]using hb
  have E2:=η (show Hn.idx (aj.tW m) (i+1)=l by rw[EX.o,if_neg (by unfold aj.tW;simp[hb];omega)];simp);go_wp2_with fail;go_roundw
  ·exact⟨i+1,by omega,by omega,by go_num,by rw[E2.o];exact HO.o,HB.o⟩
  simp[intOf];omega
 obtain rfl:i=n:=by omega
 clear EX;go_wp2_with fail;go_ret;exact⟨_,rfl,by rw[HL.o];exact HO.o,HB.o⟩
end
section
open Go.RowKit ba
def zW(k l:UInt64)(s:List UInt8)(hs:s.length<=9223372036854775807)(w:World):Calls prog 44 #[.int .u64 (U k),.int .u64 (U l),.string (str s)] w λe w'=>e=.returned (.int .u64 (U (cC.Lt k l s)))/\Below w.heap.size w w':=by
 go_enter func44,ntmps44;go_wp2_with (go_at_call 74;refine(Bv k l s hs _).mono ?_;rintro e w' ⟨rfl,hb⟩)
 go_ret;exact⟨rfl,hb⟩
def cC.alb(b:UInt8)(l:List UInt8):cC.le (b::l)=shl (cC.le l) 8 ||| b.toUInt64:=by
 rw[cC.aap];apply UInt64.toNat_inj.1;have hb:=b.toNat_lt;have hx:=(cC.le l).toNat_lt;generalize cC.le l=x at hx;rw[UInt64.toNat_add,UInt64.toNat_mul,UInt64.toNat_or];have e1:(iM 256).toNat=256:=by decide +kernel
 have e2:(shl x 8).toNat=((x.toNat % 72057594037927936) <<< 8):=by unfold shl;rw[UInt64.toNat_ofNat',Nat.shiftLeft_eq];show x.toNat*256 % 18446744073709551616=_*256;omega
 have e3:b.toUInt64.toNat=b.toNat:=by simp
 rw[e1,e2,e3,<-Nat.shiftLeft_add_eq_or_of_lt (by omega),Nat.shiftLeft_eq];show(x.toNat*256 % 18446744073709551616+b.toNat) % 18446744073709551616=_*256+_;omega
def cC.MD(l:List UInt8)(k:Nat)(h:k<l.length):cC.le (l.drop k)=shl (cC.le (l.drop (k+1))) 8 |||(nth l k).toUInt64:=by rw[cC.drop_cons l k h,cC.alb]
def rP(s:List UInt8)(hs:s.length<=9223372036854775807)(w:World):Calls prog 45 #[.string (str s)] w λe w'=>e=.returned (.int .u64 (U (cC.le s)))/\w=w':=by
 have h0:=η (show cC.le (s.drop s.length)=iM 0 by rw[List.drop_length];rfl);go_enter func45,ntmps45;go_wp2;go_loop [3,4] (λn i=>∃k:Nat,k<=s.length/\i=.int .i64 ((k:Int) - 1)/\n=.int .u64 (U (cC.le (s.drop k)))) (λ_ i=>(intOf i+1).toNat)
 ·exact⟨s.length,by omega,by go_num,by rw[h0.o];rfl⟩
 obtain⟨k,hk,rfl,rfl⟩:=hrel;by_cases h:0<k
 ·have hd:=η (cC.MD s (k-1) (by omega));go_wp2;go_round
  ·exact⟨k-1,by omega,by go_num,by rw[hd.o,show k-1+1=k by omega]⟩
  simp[intOf];omega
 go_wp2;go_ret;have:k=0:=by omega
 subst this;exact⟨rfl,rfl⟩
def zV(l:List UInt8)(w:World)(hT:cG w)(hm:l.length<=35184372088832):Calls prog 43 #[.string (str l)] w λe w'=>e=.returned (.string (str (aR.sum l)))/\Below w.heap.size w w':=by
 have h1:=hT.lt;have hc:=Row.new w [.string (str l)] 9;have hB:=(Below.refl w.heap.size w).alloc ν (.cells #[.string (str l)] 9);have hZ:(w.alloc (.cells #[.string (str l)] 9)).heap.size=w.heap.size+1:=by simp
 have HT:=η hT;clear hT;go_enter func43,ntmps43;go_wp2_with fail;have Sv:(w.alloc (.cells #[.string (str l)] 9)).cell? ⟨w.heap.size,0,none⟩=some (.string (str l)):=hc.cell 0;clear hc;generalize w.alloc _=w1 at Sv hB hZ|-;refine(JM w.heap.size 1 l w1 (HT.o.below hB (by omega)) Sv hm).mono ?_
 rintro e w2⟨rfl,yS⟩;have gK:=yS.size;obtain⟨yR,lL,CY,BP⟩:=Ke w2 (aR.sum l) 67;rw[Tryz.mm]at yR lL CY BP;have iY:=(hB.trans (yS.mono (by omega))).trans (yR.mono (by omega:w.heap.size<=w2.heap.size));have C1:=η iY;clear iY hB yS yR Sv lL;go_wp2_with (first|(with_reducible refine eU (o:=⟨none,_,_,_,_,_⟩) rfl _ _ rfl w2.heap.size (List.replicate 32 0) (aR.sum l) rfl (aR.fO _) rfl rfl BP ?_)|(with_reducible refine ja (o:=⟨some 8,_,_,_,_,_⟩) rfl _ _ _ _ rfl w2.heap.size 0 32 32 (aR.sum l) (aR.fO _) rfl underlying64 underlying5 underlying9 CY.bytes ?_));go_ret;exact⟨rfl,C1.o⟩
end
section
open ba
open Go.RowKit
theorem JB(n:Nat):∀k,Wr.low n (k+1)=Wr.low n k++[UInt8.ofNat (n/256^k % 256)]
 |0=>by simp[Wr.low]|k+1=>by rw[Wr.low,JB (n/256) k];show _=UInt8.ofNat (n % 256)::Wr.low (n/256) k++_;rw[List.cons_append,Nat.div_div_eq_div_mul,Nat.pow_succ,Nat.mul_comm 256]
def Yj(x:UInt64)(j:Nat):(shr x (8*j)).toUInt8=UInt8.ofNat (x.toNat/256^j % 256):=by
 apply UInt8.toNat_inj.1;have hp:(2:Nat)^ (8*j)=256^j:=by rw[Nat.pow_mul]
 have aM:x.toNat/256^j<18446744073709551616:=Nat.lt_of_le_of_lt (Nat.div_le_self _ _) x.toNat_lt;unfold shr;rw[UInt8.toNat_ofNat',UInt64.toNat_toUInt8,UInt64.toNat_ofNat',hp,Nat.mod_eq_of_lt aM];omega
def y9(a b:List (List UInt8)):wt a++wt b=wt (a++b):=by simp[wt]
def pq{w:World}{B n:Nat}{e:TypeId}{z:Nat}{v:Value}{xs:List Value}(h:w.ownsRow B e z v n xs)(h0:0<n):∃g c,v=.slice (some ⟨g,0,none⟩) n c/\n<=c:=by obtain⟨_,⟨_,h0'⟩|⟨g,cap,cur,rfl,hb,hg,hnc,_,_,ht⟩⟩:=h;omega;exact⟨g,cap,rfl,hnc⟩
def Np{x y:UInt64}(h:(x==y)=false):x≠y:=by simpa using h
def Hn.Ok(h nc:List UInt8)(k i:Nat)(x y:List UInt8):Prop:=(x=y->k<=i)/\(x≠y->shl (Hn.key h nc x) 16≠shl (Hn.key h nc y) 16)
def KP(h:List UInt8)(aI:UInt64)(iv ov:Value)(ids others:List (List UInt8))(w:World)(hT:cG w)(hi:fH w iv ids)(fy:0<ids.length) (ho:(ov=.slice none 0 0/\others=[])∨(fH w ov others/\0<others.length)) (hh:h.length=80) (Pw:ids.length<=16) (hol:others.length<=200) (ame:∀x∈ids++others,x.length=32):Calls prog 21 #[.string (str h),.int .u64 (U aI),iv,ov] w λe w'=>∃b:Bool,e=.returned (.bool b)/\(b=true->Hn.Apart h (Wr.low aI.toNat 8) ids.length (ids++others))/\Below w.heap.size w w':=by
 obtain⟨i0,amf,nB,ku,gK⟩:=info_parts me;have HI:=η amf;have HT:=η hT;have gM:=hT.lt;obtain⟨ib,io,ic,rfl,hib,hIP⟩:=hi.open fy;have IP:=η hIP;have H32:=η ame;have TO:=η ho;obtain⟨oa,oc,hov⟩:∃a c,ov=.slice a others.length c:=by rcases ho with⟨rfl,rfl⟩|⟨h1,h2⟩;exact⟨_,_,rfl⟩;obtain⟨b,o,c,h3,_⟩:=h1.open h2;exact⟨_,_,h3⟩
 subst hov;clear amf hT hi ho hIP ame;go_enter func21,ntmps21;go_wp2_with fail;go_loopw [9,10,20] (λsv _ jv wr=>∃j:Nat,j<=8/\jv=.int .i64 j/\sv=.string (str (h++Wr.low aI.toNat j))/\Below w.heap.size w wr) (λ_ _ jv _=>8-(intOf jv).toNat)
 exact⟨0,by omega,rfl,by simp[Wr.low],Below.refl _ _⟩;obtain⟨j,hj,rfl,rfl,hB⟩:=hrel;have HB:=η hB;have j0:=hB.size;clear hB;by_cases aM:j<8
 ·have p1:(j:Int)<8:=by omega
  have LS:=η (JB aI.toNat j);rw[<-Yj]at LS;have ll:=Wr.bo aI.toNat j;generalize Wr.low aI.toNat j=lo at LS ll;go_wp2_with fail;go_roundw
  ·exact⟨j+1,by omega,by go_num,by rw[LS.o],HB.o.alloc j0 _⟩
  simp[intOf];omega
 obtain rfl:j=8:=by omega
 have ll:=Wr.bo aI.toNat 8;generalize hnc:Wr.low aI.toNat 8=nc at ll;have HNC:=η hnc;clear hnc;have T1:=η (zV (h++nc) wr (HT.o.below HB.o gM) (by rw[List.length_append];omega));have d32:=aR.fO (h++nc);obtain⟨d,hd⟩:∃d,aR.sum (h++nc)=d:=⟨_,rfl⟩;rw[hd]at T1 d32;have HD:=η hd;clear hd;go_wp2_with fail;refine T1.o.mono ?_;clear T1;rintro e w1⟨rfl,ux⟩;have B1:=η (HB.o.trans (ux.mono j0));have Se:=B1.o.size;clear ux HB;have q32:(d.length:Int)=32:=by omega
 have src:∀(j:Nat)(u:Value),(wt ids)[j]? =some u->w1.cell? (Addr.add ⟨ib,io,none⟩ j)=some u:=Ec (λj hj=>(World.cell?_of_block (w:=w) (B1.o.block ib hib)).trans (IP.o j hj));go_upto_region 10 with fail;go_cut [12]from 38 to 41 (λav wx=>Below w.heap.size w wx/\wx.ownsRow w.heap.size 9 1 av (ids++others).length (wt (ids++others)))
 case first=>
  have SRC:=η src;clear src;rcases TO.o with⟨hov,hoe⟩|⟨hTx,cI⟩
  ·subst hoe;cases hov;go_wp2_with (first|(at_builtin;refine wpList_append_own_none rfl _ _ 42 rfl w.heap.size 9 i0 1 underlying42 HI.o _ _ _ rfl O2.o rfl ?_)|(at_builtin;refine wpList_append_own _ rfl _ _ 42 rfl w.heap.size 9 i0 (.string ByteArray.empty) 1 16 underlying42 HI.o nB ku gK rfl (by decide) _ 0 [] rfl (World.ownsRow_nil _ _ _ _) ⟨ib,io,none⟩ ids.length ic (wt ids) rfl (by rw[qk];omega) SRC.o (ig _) (by unfold maxLen;omega) (by omega) Se ?_;intro v1 w2 rS JU _;have hbl:Below w.heap.size w1 w2:=(Below.refl w.heap.size w1).grown JU Se (λk hk=>by cases hk);rw[List.nil_append,Nat.zero_add]at rS;have O2:=η rS;have B2:=η (B1.o.trans hbl);have oL:=B2.o.size;clear rS JU hbl));go_meet;case rel=>exact⟨B2.o,by rw[List.append_nil];exact O2.o⟩
  obtain⟨ob,oo,oc',Hu,Pt,hOP⟩:=hTx.open cI;cases Hu;have OP:=η hOP;clear hOP hTx;go_wp2_with (first|(at_builtin;refine wpList_append_own _ rfl _ _ 42 rfl w.heap.size 9 i0 (.string ByteArray.empty) 1 16 underlying42 HI.o nB ku gK rfl (by decide) _ _ _ rfl O2.o ⟨ob,oo,none⟩ others.length oc (wt others) rfl (by rw[qk];omega) (Ec (λj hj=>(World.cell?_of_block (w:=w) (B2.o.block ob Pt)).trans (OP.o j hj))) (ig _) (by unfold maxLen;omega) (by omega) oL ?_;intro v3 w3 cB df _;have amG:Below w.heap.size w2 w3:=(Below.refl w.heap.size w2).grown df oL (λk hk=>(O2.o.lt k hk).1);have O3:=η cB;have B3:=η (B2.o.trans amG);clear cB df amG)|(at_builtin;refine wpList_append_own _ rfl _ _ 42 rfl w.heap.size 9 i0 (.string ByteArray.empty) 1 16 underlying42 HI.o nB ku gK rfl (by decide) _ 0 [] rfl (World.ownsRow_nil _ _ _ _) ⟨ib,io,none⟩ ids.length ic (wt ids) rfl (by rw[qk];omega) SRC.o (ig _) (by unfold maxLen;omega) (by omega) Se ?_;intro v1 w2 rS JU _;have hbl:Below w.heap.size w1 w2:=(Below.refl w.heap.size w1).grown JU Se (λk hk=>by cases hk);rw[List.nil_append,Nat.zero_add]at rS;have O2:=η rS;have B2:=η (B1.o.trans hbl);have oL:=B2.o.size;clear rS JU hbl));go_meet;case rel=>exact⟨B3.o,by rw[<-y9,List.length_append];exact O3.o⟩
 case rest=>
 obtain⟨hbc,hoc⟩:=hcut;have HB:=η hbc;obtain⟨all,gQ⟩:∃l,ids++others=l:=⟨_,rfl⟩;have hal:all.length<=216:=by rw[<-gQ,List.length_append];omega
 rw[gQ]at hoc H32;have HO:=η hoc;have awb:=η gQ;obtain⟨ga,ca,rfl,hca⟩:=pq hoc (show 0<all.length by rw[<-gQ,List.length_append];omega);clear hbc hoc src gQ TO;generalize hwc:wc=wz at HB HO|-;clear hwc;have N0:=η (λu=>rP (d.take 8) (by rw[List.length_take];omega) u);have N1:=η (λu=>rP ((d.drop 8).take 8) (by rw[List.length_take];omega) u);have SP:=η (λx u (hx:x.length=32)=>zW (cC.le (d.take 8)) (cC.le ((d.drop 8).take 8)) x (by omega) u);have KY:=η (λx=>show Hn.key h (Wr.low aI.toNat 8) x=cC.Lt (cC.le (d.take 8)) (cC.le ((d.drop 8).take 8)) x from by unfold Hn.key En.yj En.yh;rw[HNC.o,HD.o]);have NC:=HNC;generalize cC.le (d.take 8)=k0 at N0 SP KY;generalize cC.le ((d.drop 8).take 8)=k1 at N1 SP KY;go_wp2_with fail;go_loopw [13,14,16,17,18,44] (λ_ _ _ _ _ iv wr=>∃i:Nat,i<=all.length/\iv=.int .i64 i/\Below wz.heap.size wz wr/\∀a b,b<a->a<i->Hn.Ok h nc ids.length a (all.getD a []) (all.getD b [])) (λ_ _ _ _ _ iv _=>all.length-(intOf iv).toNat);exact⟨0,by omega,rfl,Below.refl _ _,λa b _ ha=>absurd ha (Nat.not_lt_zero _)⟩;obtain⟨i,hi,rfl,PJ,hAp⟩:=hrel;have BR:=η PJ;have AP:=η hAp;clear PJ hAp;by_cases aM:i<all.length
 ·have p1:(i:Int)< (all.length:Int):=by omega
  have p1':(i:Int)<=(ca:Int):=by omega
  obtain⟨gb,go,cb,Hu,yP,hP⟩:=(jz HO.o rfl).open (by omega);cases Hu;have hPr:∀(u:World),Below wz.heap.size wz u->∀j,j<all.length->u.cell? ⟨ga,j,none⟩=some (.string (str (all.getD j []))):=λu hb j hj=>(World.cell?_of_block (w:=wz) (hb.block ga yP)).trans (by have:=hP j hj;rwa[Nat.zero_add]at this);have PR:=η hPr;have c1:=PR.o wr BR.o i aM;have xM:=H32.o (all.getD i []) (by rw[List.getD_eq_getElem?_getD,List.getElem?_eq_getElem aM];exact List.getElem_mem aM);obtain⟨x,hx⟩:∃x,all.getD i []=x:=⟨_,rfl⟩;rw[hx]at c1 xM;have HX:=η hx;have S1:=η (λu=>SP.o x u xM);clear hx hP hPr;go_wp2_with fail;go_loopw [16,17,18,53] (λ_ _ _ jv wx=>∃j:Nat,j<=i/\jv=.int .i64 j/\Below wz.heap.size wz wx/\∀b,b<j->Hn.Ok h nc ids.length i x (all.getD b [])) (λ_ _ _ jv _=>i-(intOf jv).toNat);exact⟨0,by omega,rfl,BR.o,λb hb=>absurd hb (Nat.not_lt_zero _)⟩;obtain⟨j,hj,rfl,hBx,hOk⟩:=hrel;have BX:=η hBx;have OK:=η hOk;clear hBx hOk;by_cases lN:j<i
  ·have p2:(j:Int)< (i:Int):=by omega
   have c2:=PR.o _ BX.o j (by omega);have y32:=H32.o (all.getD j []) (by rw[List.getD_eq_getElem?_getD,List.getElem?_eq_getElem (show j<all.length by omega)];exact List.getElem_mem _);obtain⟨y,hy⟩:∃y,all.getD j []=y:=⟨_,rfl⟩;rw[hy]at c2 y32;have HY:=η hy;have S2:=η (λu=>SP.o y u y32);clear hy;by_cases Y4:x=y
   ·subst Y4;by_cases hk:i<ids.length
    ·have pk:(i:Int)< (ids.length:Int):=by omega
     go_wp2_with fail;go_ret;exact⟨false,rfl,(λh=>by cases h),HB.o.trans (BX.o.mono HB.o.size)⟩
    have pk:¬(i:Int)< (ids.length:Int):=by omega
    go_wp2_with fail;go_roundw
    ·exact⟨j+1,by omega,by go_num,BX.o,λb hb=>by by_cases Dz:b=j;subst Dz;rw[HY.o];exact⟨λ_=>by omega,λe=>absurd rfl e⟩;exact OK.o b (by omega)⟩
    simp[intOf];omega
   have hs:(x==y)=false:=by simpa using Y4
   go_upto_region 20 with fail;haveI aw7:Nonempty (ax.Of (λ_:World=>True)):=⟨⟨w,trivial⟩⟩;refine ax.bM [0,1,3,4,6] 4 mixed (by kernel_rfl) rfl rfl (λc a d v w h=>by cases d<;>exact h) (by as_aux_lemma=>kernel_rfl) rfl (λ_=>True) trivial ?_;show wpQuiet _ _ _ _ [_,_,_,_,_] _;repeat(go_big_quiet_step (fail))
   refine wpQuiet_nil ?_;refine ax.one 2 _ (by kernel_rfl) rfl rfl ?_;try go_frame
   go_wp2_with fail;refine(N0.o _).mono ?_;rintro e _⟨rfl,rfl⟩;go_wp2_with fail;refine⟨ax.aq trivial,?_⟩;refine ax.one 5 _ (by kernel_rfl) rfl rfl ?_
   try go_frame
   go_wp2_with fail;refine(N1.o _).mono ?_;rintro e _⟨rfl,rfl⟩;go_wp2_with fail;refine⟨ax.aq trivial,?_⟩;refine ax.one 7 _ (by kernel_rfl) rfl rfl ?_
   try go_frame
   go_wp2_with fail;refine(S1.o _).mono ?_;rintro e w20⟨rfl,amL⟩;have B20:=η (BX.o.drew.trans (amL.mono BX.o.size));clear amL;go_wp2_with fail;refine⟨ax.aq trivial,?_⟩;refine ax.one 8 _ (by kernel_rfl) rfl rfl ?_
   try go_frame
   go_wp2_with fail;refine⟨ax.aq trivial,?_⟩;refine wpAnyH_done (by kernel_rfl) ?_ 0
   go_upto_region 21 with fail;haveI aw6:Nonempty (ax.Of (λ_:World=>True)):=⟨⟨w,trivial⟩⟩;refine ax.bM [0,1,3,4,6] 4 mixed (by kernel_rfl) rfl rfl (λc a d v w h=>by cases d<;>exact h) (by as_aux_lemma=>kernel_rfl) rfl (λ_=>True) trivial ?_;show wpQuiet _ _ _ _ [_,_,_,_,_] _;repeat(go_big_quiet_step (fail))
   refine wpQuiet_nil ?_;refine ax.one 2 _ (by kernel_rfl) rfl rfl ?_;try go_frame
   go_wp2_with fail;refine(N0.o _).mono ?_;rintro e _⟨rfl,rfl⟩;go_wp2_with fail;refine⟨ax.aq trivial,?_⟩;refine ax.one 5 _ (by kernel_rfl) rfl rfl ?_
   try go_frame
   go_wp2_with fail;refine(N1.o _).mono ?_;rintro e _⟨rfl,rfl⟩;go_wp2_with fail;refine⟨ax.aq trivial,?_⟩;refine ax.one 7 _ (by kernel_rfl) rfl rfl ?_
   try go_frame
   go_wp2_with fail;refine(S2.o _).mono ?_;rintro e w21⟨rfl,amK⟩;have B21:=η (B20.o.drew.trans (amK.mono B20.o.size));clear amK;go_wp2_with fail;refine⟨ax.aq trivial,?_⟩;refine ax.one 8 _ (by kernel_rfl) rfl rfl ?_
   try go_frame
   go_wp2_with fail;refine⟨ax.aq trivial,?_⟩;refine wpAnyH_done (by kernel_rfl) ?_ 0
   have KX:=KY.o x;have KYy:=KY.o y;generalize cC.Lt k0 k1 x=sx at KX|-;generalize cC.Lt k0 k1 y=sy at KYy|-;by_cases hq:(shl sx 16==shl sy 16)=true
   ·go_wp2_with fail;go_ret;exact⟨false,rfl,(λh=>by cases h),HB.o.trans (B21.o.mono HB.o.size)⟩
   have Hx:(shl sx 16==shl sy 16)=false:=by simpa using hq
   go_wp2_with fail;go_roundw
   ·exact⟨j+1,by omega,by go_num,B21.o,λb hb=>by by_cases Dz:b=j;subst Dz;rw[HY.o];refine⟨λe=>absurd e Y4,λ_=>?_⟩;rw[<-HNC.o,KX,KYy];exact Np Hx;exact OK.o b (by omega)⟩
   simp[intOf];omega
  obtain rfl:j=i:=by omega
  go_wp2_with fail;go_roundw
  ·exact⟨j+1,by omega,by go_num,BX.o,λa b Ic ha=>by by_cases haj:a=j;subst haj;rw[HX.o];exact OK.o b Ic;exact AP.o a b Ic (by omega)⟩
  simp[intOf];omega
 obtain rfl:i=all.length:=by omega
 go_wp2_with fail;go_ret;refine⟨true,rfl,λ_=>?_,HB.o.trans (BR.o.mono HB.o.size)⟩
 rw[awb.o,HNC.o];exact λa b Ic ha=>AP.o a b Ic ha
end
