import Derived.Test.YtlpcjiollnnmgabGreatDoorM05
import Derived.Test.YtlpcjiollnnmgabGreatDoorM12
import Derived.RangeFuncNested
import Derived.RangeFuncBound
import Derived.Shelf.Slices.CompactS
set_option maxRecDepth 100000
set_option maxHeartbeats 8000000
set_option linter.all false
namespace Go.Proofs.YtlpcjiollnnmgabGreatDoor
open Go.Proofs.Tryz
section
open Go.RowKit iz
def RDC(x:Wr.R Wr.Cb)(w:World)(e:Ending)(w':World):Prop:=match x with
 |.ok c _=>∃sv av tv,e=.returned (.tuple #[.agg (cc c.header c.ie sv av tv).toArray,.int .i64 0])/\(w'.ownsRow w.heap.size 9 1 sv c.gA.length (wt c.gA)/\w'.ownsRow w.heap.size 3 1 av c.gB.length (yo (zE c.gB))/\w'.ownsRow w.heap.size 78 33 tv c.gB.length (il (wN c.gB)))/\Below w.heap.size w w'
 |.bad k=>e=.returned (.tuple #[.agg kN.toArray,.int .i64 k])/\Below w.heap.size w w'
def RDC.jn{x:Wr.R Wr.Cb}{w w' k}(hx:x=.bad k)(h2:Below w.heap.size w w'):RDC x w (.returned (.tuple #[.agg kN.toArray,.int .i64 k])) w':=by subst hx;exact⟨rfl,h2⟩
def Own3(B:Nat)(c:Wr.Cb)(sv av tv:Value)(w:World):Prop:=w.ownsRow B 9 1 sv c.gA.length (wt c.gA)/\w.ownsRow B 3 1 av c.gB.length (yo (zE c.gB))/\w.ownsRow B 78 33 tv c.gB.length (il (wN c.gB))
def RDC.vH{x w w' c r sv av tv}(hx:x=.ok c r)(h1:Own3 w.heap.size c sv av tv w')(h3:Below w.heap.size w w'):RDC x w (.returned (.tuple #[.agg (cc c.header c.ie sv av tv).toArray,.int .i64 0])) w':=by subst hx;exact⟨sv,av,tv,rfl,h1,h3⟩
def zG{B c sv av tv w}(h:Own3 B c sv av tv w):(cc c.header c.ie sv av tv).all (·.oneCell')=true:=by obtain⟨h1,h2,h3⟩:=h;unfold cc;simp only[bV,List.all_nil,pC h1,pC h2,pC h3,eW];rfl
def Gb{B S c sv av tv w}(h:Own3 B c sv av tv w) m(hS:S<B):Own3 B c sv av tv (w.setRow S m):=⟨kB h.1 m hS,kB h.2.1 m hS,kB h.2.2 m hS⟩
def Vf{B C c sv av tv w}(h:Own3 B c sv av tv w)(hC:C<=B):Own3 C c sv av tv w:=⟨lC h.1 hC,lC h.2.1 hC,lC h.2.2 hC⟩
def Bx{B c sv av tv w a}(h:Own3 B c sv av tv w) v(ha:a.block<B):Own3 B c sv av tv (w.setCell a v):=⟨iJ h.1 v ha,iJ h.2.1 v ha,iJ h.2.2 v ha⟩
def Ak g h w:CallsD prog 117 #[.pointer (some ⟨g,0,none⟩),.pointer (some ⟨h,0,none⟩)] .returning w λe u' w'=>e=.returned (.tuple #[])/\u'=.returning/\w'=w:=by refine fX func117 rfl λPC cs hu=>?_;simp only[ntmps117,az,aq,bW,Nat.reduceAdd,Nat.reduceSub,bA,bJ,bZ,bR,aX,aU];apply wpS_seq;apply gq;simp[wpOpsS,go_sem,recoverD,hu,Exit.thenS];refine gy ?_;go_wp2_with fail;cases PC;simp_all[bodyPostS,results,results117]
def oA g h n m l w(hg:Row w g l)(hh:Row w h [.int .i64 m])(hl:l.length=5)(iZ:g≠h):CallsD prog 117 #[.pointer (some ⟨g,0,none⟩),.pointer (some ⟨h,0,none⟩)] (.panicking (oF n)) w λe u' w'=>e=.returned (.tuple #[])/\u'=.panicking [{v:=.iface 178 (.agg #[.int .i64 n]),recovered:=true}]/\Row w' g kN/\Row w' h [.int .i64 n]/\ik (λk=>k=g∨k=h) w w':=by
 refine fX func117 rfl λPC cs hu=>?_;simp only[ntmps117,az,aq,bW,Nat.reduceAdd,Nat.reduceSub,bA,bJ,bZ,bR,aX,aU];apply wpS_seq;apply gq;unfold oF at hu;have hta:=MN n;simp[wpOpsS,go_sem,recoverD,hu,Exit.thenS];refine gy ?_;have hzg:=hg.lt;have hzh:=hh.lt;have r1:Row ((w.alloc (.cells #[.int .i64 n] 178)).alloc (.cells #[.string (str []),.string (str []),.slice none 0 0,.slice none 0 0,.slice none 0 0] 87)) w.heap.size [.int .i64 n]:=(Row.new w [.int .i64 n] 178).alloc _;have r2:Row ((w.alloc (.cells #[.int .i64 n] 178)).alloc (.cells #[.string (str []),.string (str []),.slice none 0 0,.slice none 0 0,.slice none 0 0] 87)) (w.heap.size+1) kN:=by have:=Row.new (w.alloc (.cells #[.int .i64 n] 178)) kN 87;rw[World.size_alloc]at this;exact this
 have r3:Row ((w.alloc (.cells #[.int .i64 n] 178)).alloc (.cells #[.string (str []),.string (str []),.slice none 0 0,.slice none 0 0,.slice none 0 0] 87)) g l:=(hg.alloc _).alloc _;have r4:Row ((w.alloc (.cells #[.int .i64 n] 178)).alloc (.cells #[.string (str []),.string (str []),.slice none 0 0,.slice none 0 0,.slice none 0 0] 87)) h [.int .i64 m]:=(hh.alloc _).alloc _;have kk:ik (λk=>k=g∨k=h) w ((w.alloc (.cells #[.int .i64 n] 178)).alloc (.cells #[.string (str []),.string (str []),.slice none 0 0,.slice none 0 0,.slice none 0 0] 87)):=((ik.refl _ _).alloc _).alloc _;clear hg hh;go_wp2_with fail;generalize(w.alloc _).alloc _=w1 at r1 r2 r3 r4 kk|-;generalize w.heap.size=A at *;have hu:∀u:gI.Of (λu=>Row u A [.int .i64 n]/\Row u (A+1) kN),u.w.cell? ⟨A,0,none⟩=some (.int .i64 n):=λu=>u.h.1.cell 0;haveI apN:Nonempty (gI.Of (λu=>Row u A [.int .i64 n]/\Row u (A+1) kN)):=⟨⟨w1,r1,r2⟩⟩;refine gI.jl [0,1,2] 2 mixed κ rfl rfl θ ξ rfl (λu=>Row u A [.int .i64 n]/\Row u (A+1) kN) ⟨r1.drew,r2.drew⟩ ?_;show wpQuiet _ _ _ _ [_,_,_] _;refine rV (o:=⟨some 12,_,_,_,_,_⟩) rfl _ _ rfl (A+1) kN rfl aFW _ fK (jC.trans rfl) _ rfl ?_;go_frame;repeat(go_big_quiet_step (fail))
 refine fe ?_;have r1:=r1.drew;have r2:=r2.drew;have r3:=r3.drew;have r4:=r4.drew;have kk:=kk.drew;generalize w1.drew=w2 at r1 r2 r3 r4 kk|-;refine gI.one 3 _ κ rfl rfl ?_;refine gJ rfl _ _ _ rfl g l kN rfl rfl r3 (jC.trans rfl) (by rw[hl];rfl) aFK ?_;have s1:=r1.gX (g:=g) ω kN.toArray;have s2:=r2.gX (g:=g) ω kN.toArray;have s3:=r3.setRow kN;have s4:=r4.gX (g:=g) (aG iZ) kN.toArray;have kk:=kk.setRow g kN.toArray (.inl rfl);exact t06
def zp l w(hT:km w)(hl:l.length<=9223372036854775807):Calls prog 79 #[.string (str l),.func (.func 80) #[] #[]] w (RDC (Wr.iX l) w):=by
 have hmf:=Vo;have yM:=hT.lt;have HT:=η hT;have EQ:=η (show Wr.iX l=(Wr.cbR l).bind λa r=>if r=[]then .ok a r else .bad 5 from rfl);have r1:Row (((w.alloc (.cells #[.string (str []),.string (str []),.slice none 0 0,.slice none 0 0,.slice none 0 0] 87)).alloc (.cells #[.int .i64 0] 37)).alloc (.cells #[.string (str l)] 136)) w.heap.size kN:=((Row.new w kN 87).alloc _).alloc _;have r2:Row (((w.alloc (.cells #[.string (str []),.string (str []),.slice none 0 0,.slice none 0 0,.slice none 0 0] 87)).alloc (.cells #[.int .i64 0] 37)).alloc (.cells #[.string (str l)] 136)) (w.heap.size+1) [.int .i64 0]:=by have:=Row.new (w.alloc (.cells kN.toArray 87)) [.int .i64 0] 37;exact t0104
 have r3:Row (((w.alloc (.cells #[.string (str []),.string (str []),.slice none 0 0,.slice none 0 0,.slice none 0 0] 87)).alloc (.cells #[.int .i64 0] 37)).alloc (.cells #[.string (str l)] 136)) (w.heap.size+2) [.string (str l)]:=by have:=Row.new ((w.alloc (.cells kN.toArray 87)).alloc (.cells #[.int .i64 0] 37)) [.string (str l)] 136;exact t082
 have hB:Below w.heap.size w (((w.alloc (.cells #[.string (str []),.string (str []),.slice none 0 0,.slice none 0 0,.slice none 0 0] 87)).alloc (.cells #[.int .i64 0] 37)).alloc (.cells #[.string (str l)] 136)):=(((Below.refl _ _).alloc ν _).alloc ζ _).alloc aFJ _;clear hT;go_enter_defers func79,ntmps79;go_wp2_with fail;generalize((w.alloc _).alloc _).alloc _=w1 at r1 r2 r3 hB|-;have HB:=η hB;have hz:=hB.size;have rn:=r3.lt;have R1:=η r1;have R2:=η r2;have T1:=η (Hu (w.heap.size+2) l w1 (HT.o.below hB yM) ω r3 hl)
 clear r1 r2 r3 hB;refine T1.o.mono ?_;clear T1;cases hx:Wr.cbR l with
 |bad n=>rintro e w2⟨rfl,h⟩;rw[hx]at EQ;have H1:=h.row R1.o R1.o.lt ω;have H2:=h.row R2.o R2.o.lt ω;refine fS (f:=117) (args:=#[.pointer (some ⟨w.heap.size,0,none⟩),.pointer (some ⟨w.heap.size+1,0,none⟩)]) ζ aGD ?_;refine(oA w.heap.size (w.heap.size+1) n 0 kN w2 H1 H2 rfl ω).mono ?_;rintro e u' w3⟨rfl,rfl,h5,h6,h7⟩;refine⟨_,lX rfl _ _ w.heap.size (w.heap.size+1) kN n rfl rfl h5 h6 _ fK (jC.trans rfl),?_⟩;exact RDC.jn EQ.o (HB.o.trans ⟨h7.os.trans h.os,h7.tape.trans h.tape,h7.output.trans h.output,ak h.size h7.size,λk hk=>(h7.block k (by have:=h.size;omega) ω).trans (h.block k ω ω)⟩)
 |ok t r=>
 rintro e w2⟨sv,av,tv,rfl,Ze,ho2,IG,h3,h⟩;have ho:Own3 w1.heap.size t sv av tv w2:=⟨Ze,ho2,IG⟩;clear Ze ho2 IG;rw[hx]at EQ;have nE:=η (show Wr.iX l=if r=[]then .ok t r else .bad 5 from EQ.o);have H1:=h.row R1.o R1.o.lt ω;have H2:=h.row R2.o R2.o.lt ω;have kS:=h.size;have JO:=zG ho;have B2:=η (show Below w.heap.size w w2 from HB.o.trans ⟨h.os,h.tape,h.output,h.size,λk hk=>h.block k ω ω⟩);have S1:=η (H1.setRow (cc t.header t.ie sv av tv));have S2:=η (H2.gX (g:=w.heap.size) ω (cc t.header t.ie sv av tv).toArray);have S3:=η (h3.gX (g:=w.heap.size) ω (cc t.header t.ie sv av tv).toArray);have B3:=η (below_setRow B2.o ν (cc t.header t.ie sv av tv).toArray);have O3:=η (Gb (S:=w.heap.size) ho (cc t.header t.ie sv av tv).toArray ω);clear EQ h h3 H2 R1 R2 HB hx ho;go_wp2_with (with_reducible refine gJ (o:=⟨none,_,_,_,_,_⟩) rfl _ _ _ rfl w.heap.size kN (cc t.header t.ie sv av tv) rfl rfl H1 (jC.trans rfl) rfl JO ?_);clear H1;generalize w2.setRow _ _=w3 at S1 S2 S3 B3 O3|-;refine(BW (w.heap.size+2) r w3 S3.o).mono ?_;by_cases hr:r=[]
 ·simp only[if_pos hr];rintro e w4⟨rfl,rfl⟩;have uW:=S1.o;have S4:=η (S2.o.gX (g:=w.heap.size) ω (cc t.header t.ie sv av tv).toArray);have S5:=η (S1.o.setRow (cc t.header t.ie sv av tv));have B5:=η (below_setRow B3.o ν (cc t.header t.ie sv av tv).toArray);have O5:=η (Gb (S:=w.heap.size) O3.o (cc t.header t.ie sv av tv).toArray ω);have SQ:=S4.o.free 0;have hc5:=S4.o.cell 0;go_wp2_with (first|(refine l0 (o:=⟨some 19,_,_,_,_,_⟩) rfl _ _ rfl w.heap.size (cc t.header t.ie sv av tv) rfl uW _ fK (jC.trans rfl) _ rfl ?_)|(with_reducible refine gJ (o:=⟨none,_,_,_,_,_⟩) rfl _ _ _ rfl w.heap.size (cc t.header t.ie sv av tv) (cc t.header t.ie sv av tv) rfl rfl uW (jC.trans rfl) rfl JO ?_));refine fS (f:=117) (args:=#[.pointer (some ⟨w.heap.size,0,none⟩),.pointer (some ⟨w.heap.size+1,0,none⟩)]) ζ aGD ?_;refine(Ak w.heap.size (w.heap.size+1) _).mono ?_;rintro e u' w5⟨rfl,rfl,rfl⟩;refine⟨_,lX rfl _ _ w.heap.size (w.heap.size+1) (cc t.header t.ie sv av tv) 0 rfl rfl (S5.o.other (show w.heap.size+1≠w.heap.size by omega) _) (S4.o.set 0 _) _ fK (jC.trans rfl),?_⟩;exact RDC.vH (nE.o.trans (if_pos hr)) (Vf (Bx O5.o _ (by show w.heap.size+1<_;omega)) hz) (B5.o.setCell (show w.heap.size<=w.heap.size+1 by omega) _)
 simp only[if_neg hr];rintro e w4⟨rfl,rfl⟩;refine fS (f:=117) (args:=#[.pointer (some ⟨w.heap.size,0,none⟩),.pointer (some ⟨w.heap.size+1,0,none⟩)]) ζ aGD ?_;refine(oA w.heap.size (w.heap.size+1) 5 0 (cc t.header t.ie sv av tv) w4 S1.o S2.o rfl ω).mono ?_;rintro e u' w5⟨rfl,rfl,h5,h6,h7⟩;refine⟨_,lX rfl _ _ w.heap.size (w.heap.size+1) kN 5 rfl rfl h5 h6 _ fK (jC.trans rfl),?_⟩;exact RDC.jn (k:=5) (nE.o.trans (if_neg hr)) (B3.o.trans ⟨h7.os,h7.tape,h7.output,h7.size,λk hk=>h7.block k aIP ω⟩)
def nF l w(hT:km w)(hl:l.length<=9223372036854775807):Calls prog 41 #[.string (str l)] w (RDC (Wr.iX l) w):=by
 have yM:=hT.lt;have r1:Row (w.alloc (.cells #[.string (str []),.string (str []),.slice none 0 0,.slice none 0 0,.slice none 0 0] 87)) w.heap.size kN:=Row.new w kN 87;have hB:Below w.heap.size w (w.alloc (.cells #[.string (str []),.string (str []),.slice none 0 0,.slice none 0 0,.slice none 0 0] 87)):=(Below.refl _ _).alloc ν _;go_enter func41,ntmps41;go_wp2_with fail;generalize w.alloc _=w1 at r1 hB|-;have HB:=η hB;have R1:=η r1;have hz:=r1.lt;have T1:=η (zp l w1 (hT.below hB yM) hl);clear hT hB r1;refine T1.o.mono ?_;clear T1;cases hx:Wr.iX l with
 |bad n=>have EQ:=η hx;clear hx;rintro e w2⟨rfl,h2⟩;have H1:=R1.o.below h2 hz;have B2:=η (HB.o.trans (h2.mono ω));have S1:=η (H1.setRow kN);have B3:=η (below_setRow B2.o ν kN.toArray);clear h2 R1 HB;go_wp2_with (with_reducible refine gJ (o:=⟨none,_,_,_,_,_⟩) rfl _ _ _ rfl w.heap.size kN kN rfl rfl H1 (jC.trans rfl) rfl aFK ?_);exact bodyPost_ret (v:=.tuple #[.agg kN.toArray,.int .i64 n]) (jE rfl _ _ w.heap.size kN (.int .i64 n) rfl rfl S1.o _ fK (jC.trans rfl)) rfl (RDC.jn EQ.o B3.o)
 |ok t r=>have EQ:=η hx;clear hx;rintro e w2⟨sv,av,tv,rfl,ho,h2⟩;have ho:Own3 w1.heap.size t sv av tv w2:=ho;have JO:=zG ho;have H1:=R1.o.below h2 hz;have B2:=η (HB.o.trans (h2.mono ω));have S1:=η (H1.setRow (cc t.header t.ie sv av tv));have B3:=η (below_setRow B2.o ν (cc t.header t.ie sv av tv).toArray);have O3:=η (Gb (S:=w.heap.size) ho (cc t.header t.ie sv av tv).toArray ω);clear h2 R1 HB ho;go_wp2_with (with_reducible refine gJ (o:=⟨none,_,_,_,_,_⟩) rfl _ _ _ rfl w.heap.size kN (cc t.header t.ie sv av tv) rfl rfl H1 (jC.trans rfl) rfl JO ?_);exact bodyPost_ret (v:=.tuple #[.agg (cc t.header t.ie sv av tv).toArray,.int .i64 0]) (jE rfl _ _ w.heap.size (cc t.header t.ie sv av tv) (.int .i64 0) rfl rfl S1.o _ fK (jC.trans rfl)) rfl (RDC.vH EQ.o (Vf O3.o ω) B3.o)
end
section
open Go.RowKit Go.Shelf iz
attribute [local go_sem] Oper.semAt_some
namespace Sq
abbrev B:=List UInt8
abbrev V1:Nat:=86
abbrev enc(x:B):Array Value:=#[Value.string (str x)]
def AJ(zs:List B) k(h:k<zs.length):zs.take (k+1)=zs.take k++[zs.getD k []]:=by rw[ax h,ab,ag h];rfl
def Qx F n(h7:F.fn V1)(uW:F.round=none)(hn:1<=n) l Bs Ob b off cap zs(acP:zs.length<=1000)(hb:b<Ob)(J Jx:List B->World->Prop) (hY:∀pre x W,J pre W->pre.length<zs.length->YieldAt F (n-1) prog l (enc x) W λe W'=>(e=.returned (.bool true)/\J (pre++[x]) W'/\Below Ob W W')∨(e=.returned (.bool false)/\Jx (pre++[x]) W')) W (Mt:W.cell? ⟨Bs,0,none⟩=some (.slice (some ⟨b,off,none⟩) zs.length cap)) (hc:∀j,j<zs.length->W.cell? ⟨b,off+j,none⟩=some (.string (str (zs.getD j [])))) (h0:J [] W):CallsIn F n prog V1 #[.func (.yield l) #[] #[],.pointer (some ⟨Bs,0,none⟩)] W λe W'=>(∃v,e=.returned v)/\((∃ys,ys=zs/\J ys W')∨(∃pre,pre <+: zs/\Jx pre W')):=by
 refine callsIn_of_wp func86 rfl h7 ?_ uW;simp only[ntmps86,az,aq,bW,Nat.reduceAdd,Nat.reduceSub,bA,bJ,bZ,bR,aX,aU];gi_wp2;gi_loopw [7] (λi wr=>∃k:Nat,k<=zs.length/\i=.int .i64 k/\J (zs.take k) wr/\Below Ob W wr) (λi _=>zs.length-(intOf i).toNat);exact⟨0,cI _,rfl,h0,Below.refl _ _⟩;obtain⟨k,hk,rfl,hJs,Ax⟩:=hrel;by_cases gV:k<zs.length
 ·have hcx:wr.cell? ⟨b,off+k,none⟩=some (.string (str (zs.getD k []))):=(Ax.cell (p:=⟨b,off+k,none⟩) hb).trans (hc k gV);have hts:=AJ zs k gV;have hY':=hY (zs.take k) (zs.getD k []) wr hJs aF1;rw[<-hts]at hY';generalize zs.getD k []=x at hcx hY';clear hts hc hY;obtain⟨fn,tmps,assign,body,hy,hR⟩:=hY';dsimp only[enc]at hy;gi_wp2;refine hR.mono ?_;rintro e W3 (⟨rfl,hJ3,II⟩|⟨rfl,awz⟩)
  ·gi_wp2;go_roundw;exact⟨k+1,by omega,by simp,hJ3,Ax.trans II⟩;simp[intOf];omega
  gi_wp2;refine bodyPost_ret (fN rfl _ _ _) rfl ?_;exact⟨⟨_,rfl⟩,.inr ⟨_,List.take_prefix _ _,awz⟩⟩
 obtain rfl:k=zs.length:=by omega
 rw[ec]at hJs;gi_wp2;go_end0;exact⟨⟨_,rfl⟩,.inl ⟨_,rfl,hJs⟩⟩
def vd F n(h7:F.fn V1)(uW:F.round=none) l Bs a cap(J:List B->World->Prop) W(Mt:W.cell? ⟨Bs,0,none⟩=some (.slice a 0 cap))(h0:J [] W):CallsIn F n prog V1 #[.func (.yield l) #[] #[],.pointer (some ⟨Bs,0,none⟩)] W λe W'=>(∃v,e=.returned v)/\J [] W':=by refine callsIn_of_wp func86 rfl h7 ?_ uW;simp only[ntmps86,az,aq,bW,Nat.reduceAdd,Nat.reduceSub,bA,bJ,bZ,bR,aX,aU];gi_wp2;gi_loopw [7] (λi wr=>i=.int .i64 0/\J [] wr) (λ_ _=>0);exact⟨rfl,h0⟩;obtain⟨rfl,hJs⟩:=hrel;gi_wp2;go_end0;exact⟨⟨_,rfl⟩,hJs⟩
def Kl(F:Fence)(n:Nat)(h7:F.fn V1)(uW:F.round=none)(hn:1<=n)(Bs Ob:Nat)(sv:Value)(zs:List B)(acP:zs.length<=1000)(w w0:World)(Mt:Bs<w.heap.size)(ayV:Ob<=w.heap.size) (hc:w.cell? ⟨Bs,0,none⟩=some sv) (hw:w0.heap.size<=Ob) (hI:n6 w0 sv zs) (h0w:Below w0.heap.size w0 w):SeqStopsK F n prog V1 #[.pointer (some ⟨Bs,0,none⟩)] enc (Below Ob) (λys=>ys=zs) (λpre=>pre <+: zs) zs.length w:=λl J Jx W hW _ _ hY h0=>by have hc':=(hW.cell (p:=⟨Bs,0,none⟩) Mt).trans hc;have hI':n6 W sv zs:=(hI.below h0w ν).below hW ν;rcases hI with⟨a,c,rfl,rfl⟩|⟨b,o,c,rfl,hb,_⟩;exact(vd F n h7 uW l Bs a c J W hc' h0).mono λe W' ⟨he,hj⟩=>⟨he,.inl ⟨_,rfl,hj⟩⟩;rcases hI' with⟨a',c',e,rfl⟩|⟨b',o',c',e,_,hp⟩;cases e;exact(vd F n h7 uW l Bs _ _ J W hc' h0).mono λe W' ⟨he,hj⟩=>⟨he,.inl ⟨_,rfl,hj⟩⟩;cases e;exact Qx F n h7 uW hn l Bs Ob b o c zs acP ω J Jx hY W hc' (λj hj=>(hp j hj)) h0
def acr:(prog.info? 9).map (λi=>(i.zero,i.size,i.bytes))=some (some (.string ByteArray.empty),1,16):=κ
def LP(F:Fence)(n:Nat)(h3:F.fn 118)(h5:F.fn V1)(uW:F.round=none)(hn:3<=n)(Bs:Nat)(sv:Value)(zs:List B)(hlen:zs.length<=1000)(w w0:World)(Mt:Bs<w.heap.size)(hc:w.cell? ⟨Bs,0,none⟩=some sv)(hT:n6 w0 sv zs)(h0w:Below w0.heap.size w0 w):CallsIn F n prog 118 #[.slice none 0 0,.func (.func V1) #[] #[.pointer (some ⟨Bs,0,none⟩)]] w λe W'=>∃v,e=.returned v/\W'.ownsRow w.heap.size 9 1 v zs.length (wt zs)/\Below w.heap.size w W':=by
 have h1:1<=n:=ω;obtain⟨i0,hi,mJ,mC,kS⟩:=fy acr;refine callsIn_of_wp_marks func118 rfl h3 ?_ uW;simp only[ntmps118,az,aq,bW,Nat.reduceAdd,Nat.reduceSub,bA,bJ,bZ,bR,aX,aU];have HC:=η hc;clear hc;gi_wp2;have bO:=Boxed.new w 28 (.slice none 0 0);have Qr:Below w.heap.size w (w.alloc (.cells #[.slice none 0 0] 28)):=(Below.refl _ w).alloc ν _;have hz:=h0w.size;refine wpIn_rangeFunc_ownG uW h1 (gf:=V1) (lb:=#[.pointer (some ⟨Bs,0,none⟩)]) rfl h5 (enters_of func86 κ rfl)
  (Kl F (n-1) h5 uW ω Bs w.heap.size sv zs hlen _ w0 aFJ ζ ((Below.cell (p:=⟨Bs,0,none⟩) Qr Mt).trans HC.o) hz hT (h0w.trans (Qr.mono hz))) belowK_t (belowK_b ζ) (Below.refl _ _) (λ_=>rfl)
  (λpre W=>(∃v,Boxed W w.heap.size 28 v/\W.ownsRow w.heap.size 9 1 v pre.length (wt pre)/\True)/\Below w.heap.size w W)
  (λ_ _ _=>False)
  (OwnFrom.and (Own.from (holdsRow_own w.heap.size w.heap.size 28 9 1 (λpre=>pre.length) (λpre=>wt pre) (λpre v=>True)) _) (ownFrom_below ν ζ))
  (λ_ _ _ _ _ hs _ _=>hs)
  ⟨⟨_,bO,fc _ _ _ _,trivial⟩,Qr⟩
  (λx=>{tmps:=#[.slice none 0 0,.func (.func V1) #[] #[.pointer (some ⟨Bs,0,none⟩)],.pointer (some ⟨w.heap.size,0,none⟩),undef,.slice none 0 0,.string (str x),.func (.func V1) #[] #[.pointer (some ⟨Bs,0,none⟩)],.string (str x),undef,undef,undef,undef,undef],defers:=[]}) ?assign ?body ?done ?stop
 case assign=>intro l x W K hK;gi_wp2;exact hK
 case body=>rintro l pre x W⟨⟨v,hv,jb,Lm⟩,hB⟩gV;have hc:=hv.cell;gi_wp2_with (gi_at_builtin;refine wpListIn_append_own _ rfl _ _ 28 rfl w.heap.size 9 i0 (.string ByteArray.empty) 1 16 underlying28 hi mJ mC kS rfl ψ _ _ _ rfl (jb.alloc _) ⟨W.heap.size,0,none⟩ 1 1 [.string (str x)] rfl rfl (cell_one_new _ _ _) (kh [x]) ι ω (by have:=hB.size;simp;omega) ?_;intro v' w1 aiR ap7 _;obtain⟨g',Cc,rfl⟩:=ownsRow_succ aiR;obtain⟨JO,hv2,qX,BN,kD⟩:=hv.appended ψ jb hB.size ν aiR ap7;have qZ:=JO.cell;have hf1:=JO.frozen);exact⟨BN.from _,kD,⟨_,hv2,by rw[ai,<-kZ];exact qX,trivial⟩,hB.trans kD⟩
 case done=>rintro D ys W hD rfl⟨⟨v,hv,jb,Lm⟩,hB⟩hK;have hc:=hv.cell;gi_wp2;refine⟨by simp,.inl ⟨_,_,rfl,run_takeDeferred hK,?_⟩⟩;exact⟨_,fR rfl _ _ _,v,rfl,ownsRow_putObj jb _ hK rfl,hB.trans (belowK_b (w:=w) ν W D _ _ (by simp at hD;omega) hK rfl rfl)⟩
 case stop=>rintro D c pre W _ _ h _;exact h.elim
end Sq
open Sq
def xE a len cap w:Calls prog 43 #[.slice a len cap] w λe w'=>e=.returned (.func (.func 86) #[] #[.pointer (some ⟨w.heap.size,0,none⟩)])/\w'=w.alloc (.cells #[.slice a len cap] 28):=by go_enter func43,ntmps43;exact t0116
def DX(Bs:Nat)(sv:Value)(zs:List B)(hlen:zs.length<=1000)(w w0:World)(Mt:Bs<w.heap.size)(hc:w.cell? ⟨Bs,0,none⟩=some sv)(hT:n6 w0 sv zs)(h0w:Below w0.heap.size w0 w):Calls prog 118 #[.slice none 0 0,.func (.func 86) #[] #[.pointer (some ⟨Bs,0,none⟩)]] w λe W'=>∃v,e=.returned v/\W'.ownsRow w.heap.size 9 1 v zs.length (wt zs)/\Below w.heap.size w W':=(callsIn_wide (n:=6)).1 (LP Fence.wide 6 trivial trivial rfl ω Bs sv zs hlen w w0 Mt hc hT h0w)
def IV(Bs:Nat)(sv:Value)(zs:List B)(hlen:zs.length<=1000)(w w0:World)(Mt:Bs<w.heap.size)(hc:w.cell? ⟨Bs,0,none⟩=some sv)(hT:n6 w0 sv zs)(h0w:Below w0.heap.size w0 w):Calls prog 84 #[.func (.func 86) #[] #[.pointer (some ⟨Bs,0,none⟩)]] w λe W'=>∃v,e=.returned v/\W'.ownsRow w.heap.size 9 1 v zs.length (wt zs)/\Below w.heap.size w W':=by have T:=η (DX Bs sv zs hlen w w0 Mt hc hT h0w);clear hc;go_enter func84,ntmps84;go_wp2_with fail;refine T.o.mono ?_;rintro e w'⟨v,rfl,h1,h2⟩;go_wp2_with fail;go_ret;exact⟨v,rfl,h1,h2⟩
def sorted(zs:List B):List B:=zs.mergeSort λx y=>decide (x<=y)
def ze(Bs:Nat)(sv:Value)(zs:List B)(hlen:zs.length<=1000)(w w0:World)(Mt:Bs<w.heap.size)(hc:w.cell? ⟨Bs,0,none⟩=some sv)(hT:n6 w0 sv zs)(h0w:Below w0.heap.size w0 w):Calls prog 42 #[.func (.func 86) #[] #[.pointer (some ⟨Bs,0,none⟩)]] w λe W'=>∃v,e=.returned v/\W'.ownsRow w.heap.size 9 1 v zs.length (wt (sorted zs))/\Below w.heap.size w W':=by
 have T:=η (IV Bs sv zs hlen w w0 Mt hc hT h0w);clear hc;go_enter func42,ntmps42;go_wp2_with fail;refine T.o.mono ?_;rintro e w1⟨v,rfl,jb,hb⟩;clear T;have apv:=η jb;rcases jb.2 with⟨rfl,hz⟩|⟨gb,cap,cur,rfl,oM,Zl,r1,r2,r3,r4⟩
 ·have hss:zs=[]:=aR hz;subst hss;have HB:=η hb;clear hb hz jb;go_wp2_with fail;refine(xF w1).mono ?_;rintro e w2⟨rfl,rfl⟩;go_wp2_with fail;go_ret;refine⟨_,rfl,?_,HB.o⟩;have:=apv.o;simpa[sorted]using this
 have hH:Sort.Holds encStr w1 gb 0 zs.toArray:=holds_of_block Zl (by rw[bS]at r4;exact r4);have Ia:gb<w1.heap.size:=(ae.1 Zl).1;have cS:=η (EM gb 0 cap zs w1 hH Ia ω);have HB:=η hb;have HG:=η Zl;have R:=η (And.intro r1 (And.intro r2 r3));clear hb jb hH Zl r1 r2 r3 r4;go_wp2_with fail;refine cS.o.mono ?_;rintro e w2⟨rfl,nn,os,rfl⟩;go_wp2_with fail;go_ret;refine⟨_,rfl,?_,HB.o.grown (grownBy_sorted _) HB.o.size aG5⟩;exact ownsRow_sorted ζ oM HG.o R.o.1 R.o.2.1 R.o.2.2
end
section
open Go.Proofs Go.Shelf Go.RowKit iz
def We:Ren where
 f:=λx=>match x with
  |194=>44
  |n=>n
 t:=λx=>match x with
  |31=>28
  |9=>9
  |3=>3
  |0=>0
  |4=>4
  |n=>n
 g:=λn=>n
def PH:Lays.n194 prog We where
 mixed:=Eq.refl true;f194:=bX func44 (congrArg some (Eq.refl (Body.n194 We)));t0:=underlying0;a0:=isAgg0;z0:=sizeOf0;v0:=zeroValue0;t3:=underlying3;a3:=isAgg3;z3:=sizeOf3;v3:=zeroValue3;t4:=underlying4;a4:=isAgg4;z4:=sizeOf4;v4:=zeroValue4;t9:=fp;a9:=isAgg9;z9:=sizeOf9;v9:=zeroValue9;t31:=underlying28;a31:=isAgg28;z31:=sizeOf28;v31:=zeroValue28
def xU(C:Nat)(v:Value)(zs:List Sq.B)(w:World)(h:w.ownsRow C 9 1 v zs.length (wt zs))(hn:zs.length<=1000):Calls prog 44 #[v] w λe w'=>∃a c,e=.returned (.slice a (Lib.compact zs).length c)/\Below C w w':=by
 rcases h.2 with⟨rfl,hz⟩|⟨gb,cap,cur,rfl,oM,Zl,r1,r2,r3,r4⟩;have hss:zs=[]:=aR hz;subst hss;refine(Any.slices_Compact_string_empty PH none 0 w).mono ?_;rintro e w'⟨rfl,rfl⟩;exact⟨none,0,rfl,Below.refl _ _⟩;have hH:Sort.Holds encStr w gb 0 zs.toArray:=holds_of_block Zl (by rw[bS]at r4;exact r4);refine(Any.slices_Compact_string PH gb 0 cap zs w hH ω ω).mono ?_;rintro e w'⟨rfl,q,rfl⟩;refine⟨_,_,rfl,?_⟩;have gV:gb<w.heap.size:=(ae.1 Zl).1;have hg:∀d:Array (List UInt8),w.grownBy (Sort.putRow encStr (Sort.ahead w q) gb 0 d) (some gb):=λd=>by refine⟨rfl,rfl,rfl,by simp,λk hk iZ=>?_⟩;have:gb≠k:=λe=>iZ (by rw[e]);simp[Sort.putRow,Sort.mapBlock,Sort.ahead,bd,this]
 exact(Below.refl C w).grown (hg _) ω aG5
def zb zs:(Lib.compact (sorted zs)).length<zs.length↔ ¬zs.Nodup:=by
 have hp:(sorted zs).Perm zs:=eA _ _;have hs:(sorted zs).Pairwise λx y=>decide (x<=y)=true:=List.pairwise_mergeSort (λa b c h1 h2=>by simp only[decide_eq_true_eq]at h1 h2|-;exact List.le_trans h1 h2) (λa b=>by simpa using List.le_total a b) zs;rw[<-hp.nodup_iff,<-hp.length_eq];generalize sorted zs=ss at hs;have sq:∀j (h:j<ss.length),ss.toArray[j]! =ss[j]:=λj h=>by simp[getElem!_pos,h]
 constructor;intro gV hn;rw[Lib.compact_all ss (λj hj=>by simp only[Lib.keeps,decide_eq_true_eq];by_cases h0:j=0;exact .inl h0;refine .inr ?_;rw[sq j hj,sq (j-1) ω];intro e;have:=(List.getElem_inj hn).1 e;omega)]at gV;omega;intro hn;have iZ:∃j,j<ss.length/\Lib.keeps ss.toArray j=false:=by refine aV λhc=>hn ?_;have hc':∀j,j<ss.length->0<j->ss.toArray[j]! ≠ss.toArray[j-1]! :=λj hj h0 e=>hc ⟨j,hj,Lib.keeps_neg h0 e⟩;rw[List.nodup_iff_pairwise_ne];rw[dp]at hs|-;intro i j hi hj qG e;have h1:=hc' j hj ω;rw[sq j hj,sq (j-1) ω]at h1;refine h1 (List.le_antisymm ?_ ?_);rw[<-e];by_cases h2:i=j-1;subst h2;exact List.le_refl _;simpa using hs i (j-1) hi ω ω;simpa using hs (j-1) j ω hj ω
 obtain⟨j,hj,hk⟩:=iZ;unfold Lib.compact Lib.compactUpTo;rw[bk];have h1:=List.length_filter_lt_length_iff_exists (p:=Lib.keeps ss.toArray) (l:=List.range ss.length);have h2:((List.range ss.length).filter (Lib.keeps ss.toArray)).length< (List.range ss.length).length:=h1.2 ⟨j,dC.2 hj,by rw[hk];simp⟩;simpa using h2
end
section
open Go.RowKit iz
namespace Tz
abbrev B:=List UInt8
def Kn(t:B):List Value:=if t=[]then j1 else gD t
def Cm(L:List B):List Value:=(L.map Kn).flatten
def qb t:(Kn t).length=33:=by unfold Kn;split;exact je;exact gQ t
def afU:Kn []=j1:=by unfold Kn;rw[if_pos rfl]
def QH{t:B}(h:t≠ []):Kn t=gD t:=by unfold Kn;rw[if_neg h]
def aaO t:(Kn t)[0]? =some (.string (str t)):=by unfold Kn;split;rename_i h;subst h;rfl;rfl
def pq t L:Cm (t::L)=Kn t++Cm L:=rfl
theorem wB:∀L,(Cm L).length=33*L.length
 |[]=>rfl|t::L=>by rw[pq,ai,qb,wB L,aq];omega
theorem aaK:∀(L:List B),(∀t∈L,t≠ [])->Cm L=il L
 |[],_=>rfl|t::L,h=>by rw[pq,aaK L (λx hx=>h x (aF _ hx)),QH (h t aH)];rfl
theorem Ed:∀L i j,i<L.length->j<33->(Cm L)[33*i+j]? =(Kn (L.getD i []))[j]?
 |[],i,j,hi,_=>by simp at hi|t::L,0,j,_,hj=>by have:=qb t;rw[pq,aP ω];simp|t::L,i+1,j,hi,hj=>by have:=qb t;rw[pq,aK ω,show 33*(i+1)+j-(Kn t).length=33*i+j by omega,Ed L i j aGd hj];rfl
theorem UA:∀L i t,i<L.length->Cm (L.set i t)=(Cm L).take (33*i)++Kn t++(Cm L).drop (33*i+33)
 |[],i,t,h=>by simp at h|u::L,0,t,_=>by have hu:=qb u;rw[dA,pq,pq,eX,bH,aX,aC,List.drop_left' hu]|u::L,i+1,t,h=>by have hu:=qb u;rw[List.set_cons_succ,pq,pq,UA L i t aF0,show 33*(i+1)=(Kn u).length+33*i by omega,List.take_length_add_append,show(Kn u).length+33*i+33=(Kn u).length+(33*i+33)by omega,List.drop_length_add_append];simp only[aL]
def At(w:World)(T:Nat)(L:List B):Prop:=w.heap[T]? =some (.cells (Cm L).toArray 78 (0,0))
section
variable{w w':World}{T:Nat}{L:List B}
def At.lt(h:At w T L):T<w.heap.size:=(ae.1 h).1
def At.of_block(h:At w T L)(e:w'.heap[T]? =w.heap[T]?):At w' T L:=e.trans h
def At.below{C}(h:At w T L)(hb:Below C w w')(hT:T<C):At w' T L:=h.of_block (hb.block T hT)
def At.range(h:At w T L) i(hi:i<L.length):w.rangeAt T (33*i) (Kn (L.getD i [])):=λj v hv=>by
 have hj:j<33:=by have:=(aB.1 hv).1;rwa[qb]at this
 rw[Go.cell_of_row w T (33*i+j) _ _ _ h,cN,Ed L i j hi hj];exact hv
def At.bytes(h:At w T L) i(hi:i<L.length):w.cell? ⟨T,33*i,none⟩=some (.string (str (L.getD i []))):=h.range i hi 0 _ (aaO _)
def At.there(h:At w T L) i(hi:i<L.length):w.there T (33*i) 33:=λj hj=>by refine⟨?_,?_⟩;rw[Go.cell_of_row w T (33*i+j) _ _ _ h,cN,Ed L i j hi hj,ag (by rw[qb];exact hj)];rfl;have h':w.heap[T]? =some (.cells (Cm L).toArray 78 (0,0)):=h;unfold World.frozen?;simp[h']
def heap_set{l:List Value}{t fr}(h:w.heap[T]? =some (.cells l.toArray t fr)) o v:(w.setCell ⟨T,o,none⟩ v).heap[T]? =some (.cells (l.set o v).toArray t fr):=by obtain⟨gV,hk⟩:=ae.1 h;show(w.heap.modify T _)[T]? =_;rw[Array.getElem?_eq_getElem (by rw[Array.size_modify];exact gV),Array.getElem_modify_self,hk];simp
theorem JU{t fr}:∀vs o (w:World)(l:List Value),w.heap[T]? =some (.cells l.toArray t fr)->o+vs.length<=l.length->(w.setCells T o vs).heap[T]? =some (.cells (l.take o++vs++l.drop (o+vs.length)).toArray t fr)
 |[],o,w,l,h,_=>by rw[World.setCells,h];simp|v::vs,o,w,l,h,hl=>by
  rw[aq]at hl;rw[World.setCells,JU vs (o+1) _ (l.set o v) (heap_set h o v) (by rw[aY];omega)];have ho:o<l.length:=ω;congr 3;apply b9;intro i;have e1:(List.take (o+1) (l.set o v))=l.take o++[v]:=by rw[ax (by rw[aY];exact ho),List.getElem_set_self,List.take_set_of_le ν]
  have e2:List.drop (o+1+vs.length) (l.set o v)=l.drop (o+1+vs.length):=by rw[List.drop_set_of_lt ω]
  rw[e1,e2,aq,show o+1+vs.length=o+(vs.length+1)by omega];simp
def At.put(h:At w T L) i t(hi:i<L.length):At (w.setCells T (33*i) (Kn t)) T (L.set i t):=by unfold At;rw[JU (Kn t) (33*i) w (Cm L) h (by rw[qb,wB];omega),qb,UA L i t hi]
def At.own(h:At w T L){C}(hC:C<=T)(hn:L.length<=1000):w.ownsRow C 78 33 (.slice (some ⟨T,0,none⟩) L.length L.length) L.length (Cm L):=by refine⟨by rw[wB];omega,.inr ⟨T,L.length,_,rfl,hC,h,ν,by unfold maxLen;omega,by simp[wB];omega,?_⟩⟩;simp only;rw[au (by rw[wB];omega)]
def MV w T o vs C:iL C T w (w.setCells T o vs):=by
 have:=(ik.setCells (g:=T) vs o w (ik.refl _ w));exact⟨this.os,this.tape,this.output,this.size,λk hk iZ=>by
 by_cases hl:k<w.heap.size;exact this.block k hl iZ;have hs:(w.setCells T o vs).heap.size=w.heap.size:=by clear this hk iZ hl;induction vs generalizing o w with|nil=>rfl|cons v vs ih=>rw[World.setCells,ih];simp[World.setCell]
 rw[aI ω,aI ω]⟩
end
def ab8 z n i(h:i<n):(madeCells z n)[i]? =some z[i % z.size]! :=by unfold madeCells;rw[bu,Array.getElem?_range,if_pos h];rfl
def ab7 n:madeCells (Value.agg j1.toArray).cells (n*33)=(Cm (List.replicate n [])).toArray:=by apply bL;intro i;by_cases h1:i<n*33;have e:i=33*(i/33)+i % 33:=(Nat.div_add_mod i 33).symm;have hm:i % 33<33:=eD _ ω;have hd:i/33<n:=ω;have hg:=Ed (List.replicate n []) (i/33) (i % 33) (by rw[bD];exact hd) hm;rw[<-e,ab,cE,if_pos hd,show(some ([]:B)).getD []=[]from rfl,afU]at hg;have hz:(Value.agg j1.toArray).cells=j1.toArray:=rfl;have hq:j1[i % 33]? =some (j1[i % 33]'(by rw[je];exact hm)):=ag _;rw[ab8 _ _ _ h1,cN,hg,hq,hz,show j1.toArray.size=33 by rw[az,je],getElem!_pos j1.toArray (i % 33) (by rw[az,je];exact hm)];rfl;rw[aI (by rw[size_madeCells];omega),aI (by rw[az,wB,bD];omega)]
def ab6 w(n:Nat)(hn:n<=1000):(Instr.makeSlice 42 (.int .i64 (n:Int)) (.int .i64 (n:Int))).run prog w=.ok (.slice (some ⟨w.heap.size,0,none⟩) n n) (w.alloc (.cells (Cm (List.replicate n [])).toArray 78)):=by obtain⟨i0,kV,mJ,mC,kS⟩:=fy El;have:=run_make w 42 78 i0 _ fT kV mJ .i64 .i64 (n:Int) (n:Int) ω ω (by rw[kS];omega) ω;rw[mC,eO,ab7]at this;exact this
end Tz
namespace Wr
def Pos{α:Type}(x:R α):Prop:=∀e,x=.bad e->e≠0
def Pos.ok{α}(a:α) r:Pos (.ok a r):=λe h=>by cases h
def Pos.bind{α β x}{f:α->List UInt8->R β}(h:Pos x)(k:∀a r,Pos (f a r)):Pos (x.bind f):=λe he=>by
 cases x with
 |bad n=>have IN:R.bad (α:=β) n=.bad e:=he;cases IN;exact h _ rfl
 |ok a r=>exact k a r e he
def Pos.map{α β x}(f:α->β)(h:Pos x):Pos (x.map f):=λe he=>by
 cases x with
 |bad n=>cases he;exact h _ rfl
 |ok a r=>cases he
def Pos.void{α}{x:R α}(h:Pos x):Pos x.void:=λe he=>by
 cases x with
 |bad n=>cases he;exact h _ rfl
 |ok a r=>cases he
def Pos.ite{α p}[Decidable p]{x y:R α}(h:Pos x)(k:Pos y):Pos (if p then x else y):=by split<;>assumption
theorem Pos.bad{α n}(h:n≠0):Pos (α:=α) (.bad n):=λe he=>by cases he;exact h
def mg n l:Pos (take n l):=by unfold take;exact .ite (.bad ψ) (.ok _ _)
def size_pos l:Pos (size l):=(mg 1 l).bind λt r=>.ite (.ok _ _) ((mg _ _).bind λ_ _=>.ite (.bad ψ) (.ok _ _))
def sF lo hi l:Pos (kK lo hi l):=(size_pos l).bind λx r=>.ite (.bad ψ) (.ok _ _)
def ET l:Pos (script l):=(sF _ _ l).bind λn r=>(mg n r).void
def agQ l:Pos (sk l):=(mg _ l).bind λ_ r=>(ET r).bind λ_ r=>(mg 4 r).void
def abN l:Pos (lR l):=(mg _ l).bind λ_ r=>ET r
theorem KI{p}(hp:∀l,Pos (p l)):∀n l,Pos (rep p n l)
 |0,_=>.ok _ _|n+1,l=>(hp l).bind λ_ r=>KI hp n r
def aaN l:Pos (tx l):=((mg _ l).bind λ_ r=>(sF _ _ r).bind λn r=>(KI agQ n r).bind λ_ r=>(sF _ _ r).bind λn r=>(KI abN n r).bind λ_ r=>(mg 4 r).void).bind λ_ _=>.ok _ _
theorem UC:∀n l,Pos (jX n l)
 |0,_=>.ok _ _|n+1,l=>(aaN l).bind λ_ r=>(UC n r).map _
theorem JB bound:∀n next l,Pos (iG bound n next l)
 |0,_,_=>.ok _ _|n+1,_,l=>((size_pos l).bind λd r=>.ite (.bad ψ) (.ok _ _)).bind λi r=>(aaN r).bind λ_ r=>(JB bound n (i+1) r).map _
theorem Jc k:∀n l,Pos (jK k n l)
 |0,_=>.ok _ _|n+1,l=>(mg _ l).bind λ_ r=>(Jc k n r).map _
def V6{α}{x:R α}(h:Pos x):Pos (fin x):=h.bind λa r=>.ite (.ok _ _) (.bad ψ)
def ahL l:Pos (iX l):=V6 ((mg _ l).bind λ_ r=>(mg _ r).bind λ_ r=>(sF _ _ r).bind λ_ r=>(Jc _ _ r).bind λss r=>(sF _ _ r).bind λm r=>.ite (.bad ψ) ((JB _ _ _ _).map _))
def af8 l:Pos (ko l):=V6 ((mg _ l).bind λ_ r=>(sF _ _ r).bind λn r=>(UC n r).map _)
end Wr
def Vb{w B n e v l}(h:w.ownsRow B e 1 v n (wt l))(hn:n=l.length):n6 w v l:=by by_cases h0:n=0;obtain⟨a,c,rfl⟩:=gZ h;exact .inl ⟨a,c,by rw[h0],bF.1 ω⟩;obtain⟨g,cap,rfl,_,hg,q8⟩:=jQ h ω;refine .inr ⟨g,0,cap,by rw[hn],hg,λj hj=>?_⟩;rw[aC,q8 j ω];exact wtq l j hj
def Rz(mb:Nat)(a b c:Value):List Value:=[.map (some mb),a,b,c]
def Ba{w rb mb a b c}(h:kn w rb (Rz mb a b c)):kn (((w.setCell ⟨rb,1,none⟩ (.string (str []))).setCell ⟨rb,2,none⟩ (.slice none 0 0)).setCell ⟨rb,3,none⟩ (.slice none 0 0)) rb (xf mb):=((h.set 1 (.string (str []))).set 2 (.slice none 0 0)).set 3 (.slice none 0 0)
def PG l n rb mb va vb vc w(hT:km w)(hl:l.length<=9223372036854775807)(vR:1<rb)(hR:kn w rb (Rz mb va vb vc))(hx:Wr.iX l=.bad n):Calls prog 21 #[.pointer (some ⟨rb,0,none⟩),.string (str l)] w λe w'=>e=.returned (.tuple #[.agg (an 0 []).toArray,.int .i64 (n:Int)])/\kn w' rb (xf mb)/\iL w.heap.size rb w w':=by have hb:=hR.lt;have yM:=hT.lt;have hn:=Wr.ahL l n hx;have p1:¬(n:Int)=0:=ω;have rA:Row (w.alloc (.cells (an 0 []).toArray 49)) w.heap.size (an 0 []):=Row.new w _ _;have hB:iL w.heap.size rb w (w.alloc (.cells (an 0 []).toArray 49)):=(iL.refl _ _ _).alloc ν _;rw[show(an 0 []).toArray=#[Value.int .i64 0,.string (str [])]from rfl]at rA hB;have R1:=η (hR.alloc (.cells #[Value.int .i64 0,.string (str [])] 49));have HT:=η hT;have HX:=η hx;clear hT hR hx;go_enter func21,ntmps21;go_upto_region 1 with fail;generalize World.alloc _ _=w1 at rA hB R1|-;have f1:=R1.o.free 1;have f2:=R1.o.free 2;have f3:=R1.o.free 3;have c1:=R1.o.cell 1;have c2:=R1.o.cell 2;have c3:=R1.o.cell 3;have R2:=η (Ba R1.o);have A2:=η (((rA.other (show rb≠w.heap.size by omega) _).other (show rb≠w.heap.size by omega) _).other (show rb≠w.heap.size by omega) _:Row (((w1.setCell ⟨rb,1,none⟩ (.string (str []))).setCell ⟨rb,2,none⟩ (.slice none 0 0)).setCell ⟨rb,3,none⟩ (.slice none 0 0)) w.heap.size _);have B2:=η (((hB.jI 1 _).jI 2 _).jI 3 _:iL w.heap.size rb w (((w1.setCell ⟨rb,1,none⟩ (.string (str []))).setCell ⟨rb,2,none⟩ (.slice none 0 0)).setCell ⟨rb,3,none⟩ (.slice none 0 0)));clear rA hB R1;go_upto_region 2 with fail;clear f1 f2 f3 c1 c2 c3;generalize World.setCell _ _ _=w2 at R2 A2 B2|-;have T1:=η (nF l w2 (B2.o.AL HT.o yM vR) hl);rw[HX.o]at T1;have hA2:=A2.o.lt;have JV:=R2.o.lt;go_wp2_with fail;refine T1.o.mono ?_;clear T1;rintro e w3⟨rfl,mK⟩;have hd:=Row.new w3 kN 87;have VR:=(Below.refl w3.heap.size w3).alloc ν (.cells kN.toArray 87);have xB:=below_setRow VR ν kN.toArray;have rn:=mK.size;have R4:=η ((R2.o.below mK JV).below xB ω);have A4:=η ((A2.o.below mK hA2).below xB ω);have B4:=η ((B2.o.trans (iL.gL (mK.mono B2.o.size))).trans (iL.gL (xB.mono ω)));rw[show kN.toArray=#[Value.string (str []),.string (str []),.slice none 0 0,.slice none 0 0,.slice none 0 0]from rfl]at hd R4 A4 B4;clear mK VR xB R2 A2 B2;go_upto_region 3 with(with_reducible refine gJ (o:=⟨none,_,_,_,_,_⟩) rfl _ _ _ rfl w3.heap.size kN kN rfl rfl hd (jC.trans rfl) rfl aFK ?_);clear hd;rw[show kN.toArray=#[Value.string (str []),.string (str []),.slice none 0 0,.slice none 0 0,.slice none 0 0]from rfl];generalize World.setRow _ _ _=w4 at R4 A4 B4|-;have rA4:=A4.o;go_wp2_with (first|(refine qJ (o:=⟨some 31,_,_,_,_,_⟩) rfl rfl ?_)|(with_reducible refine gJ (o:=⟨none,_,_,_,_,_⟩) rfl _ _ _ rfl w.heap.size (an 0 []) (an 0 []) rfl rfl rA4 (gY.trans rfl) rfl rfl ?_));have S5:=rA4.setRow (an 0 []);refine bodyPost_ret (v:=.tuple #[.agg (an 0 []).toArray,.int .i64 (n:Int)]) (jE rfl _ _ w.heap.size (an 0 []) (.int .i64 (n:Int)) rfl rfl S5 _ underlying49 (gY.trans rfl)) rfl ?_;exact⟨rfl,R4.o.gX ω _,B4.o.trans (iL.gL (below_setRow (Below.refl _ _) ν _))⟩
def PF l c rr rb mb va vb vc w(hT:km w)(hl:l.length<=9223372036854775807)(vR:1<rb)(hR:kn w rb (Rz mb va vb vc))(hx:Wr.iX l=.ok c rr)(hd:¬c.gA.Nodup):Calls prog 21 #[.pointer (some ⟨rb,0,none⟩),.string (str l)] w λe w'=>e=.returned (.tuple #[.agg (an 3 []).toArray,.int .i64 0])/\kn w' rb (xf mb)/\iL w.heap.size rb w w':=by
 have hb:=hR.lt;have yM:=hT.lt;have jo:=Wr.Eu hx;have ahk:=(zb c.gA).2 hd;clear hd;have rA:Row (w.alloc (.cells (an 0 []).toArray 49)) w.heap.size (an 0 []):=Row.new w _ _;have hB:iL w.heap.size rb w (w.alloc (.cells (an 0 []).toArray 49)):=(iL.refl _ _ _).alloc ν _;rw[show(an 0 []).toArray=#[Value.int .i64 0,.string (str [])]from rfl]at rA hB;have R1:=η (hR.alloc (.cells #[Value.int .i64 0,.string (str [])] 49));have HT:=η hT;have HX:=η hx;clear hT hR hx;go_enter func21,ntmps21;go_upto_region 1 with fail;generalize World.alloc _ _=w1 at rA hB R1|-;have f1:=R1.o.free 1;have f2:=R1.o.free 2;have f3:=R1.o.free 3;have c1:=R1.o.cell 1;have c2:=R1.o.cell 2;have c3:=R1.o.cell 3;have R2:=η (Ba R1.o);have A2:=η (((rA.other (show rb≠w.heap.size by omega) _).other (show rb≠w.heap.size by omega) _).other (show rb≠w.heap.size by omega) _:Row (((w1.setCell ⟨rb,1,none⟩ (.string (str []))).setCell ⟨rb,2,none⟩ (.slice none 0 0)).setCell ⟨rb,3,none⟩ (.slice none 0 0)) w.heap.size _);have B2:=η (((hB.jI 1 _).jI 2 _).jI 3 _:iL w.heap.size rb w (((w1.setCell ⟨rb,1,none⟩ (.string (str []))).setCell ⟨rb,2,none⟩ (.slice none 0 0)).setCell ⟨rb,3,none⟩ (.slice none 0 0)));clear rA hB R1;go_upto_region 2 with fail;clear f1 f2 f3 c1 c2 c3;generalize World.setCell _ _ _=w2 at R2 A2 B2|-;have T1:=η (nF l w2 (B2.o.AL HT.o yM vR) hl);rw[HX.o]at T1;have hA2:=A2.o.lt;have JV:=R2.o.lt;go_wp2_with fail;refine T1.o.mono ?_;clear T1;rintro e w3⟨sv,av,tv,rfl,IG,mK⟩;have IG:Own3 w2.heap.size c sv av tv w3:=IG;have acT:=zG IG;have hd:=Row.new w3 kN 87;have VR:=(Below.refl w3.heap.size w3).alloc ν (.cells kN.toArray 87);have xB:=below_setRow VR ν (cc c.header c.ie sv av tv).toArray;have rn:=mK.size;have R4:=η ((R2.o.below mK JV).below xB ω);have A4:=η ((A2.o.below mK hA2).below xB ω);have B4:=η ((B2.o.trans (iL.gL (mK.mono B2.o.size))).trans (iL.gL (xB.mono ω)));have D4:=η (hd.setRow (cc c.header c.ie sv av tv));have O4:=η (show Own3 w2.heap.size c sv av tv _ from⟨gM IG.1 xB ν,gM IG.2.1 xB ν,gM IG.2.2 xB ν⟩);rw[show kN.toArray=#[Value.string (str []),.string (str []),.slice none 0 0,.slice none 0 0,.slice none 0 0]from rfl]at hd R4 A4 B4 D4 O4;clear mK VR xB R2 A2 B2 IG;go_upto_region 3 with(with_reducible refine gJ (o:=⟨none,_,_,_,_,_⟩) rfl _ _ _ rfl w3.heap.size kN (cc c.header c.ie sv av tv) rfl rfl hd (jC.trans rfl) rfl acT ?_);clear hd acT;generalize World.setRow _ _ _=w4 at R4 A4 B4 D4 O4|-;obtain⟨D,hD⟩:∃D,w3.heap.size=D:=⟨_,rfl⟩;rw[hD]at D4 rn|-;clear hD;have hD4:=D4.o.lt;obtain⟨sa,sc,rfl⟩:=gZ O4.o.1;have pM:=D4.o.cell 2;rw[show(cc c.header c.ie (.slice sa c.gA.length sc) av tv)[2]? =some (.slice sa c.gA.length sc)from rfl]at pM;have hnn:=jo.le;go_wp2_with fail;refine(xE sa c.gA.length sc w4).mono ?_;rintro e w5⟨rfl,rfl⟩;have oN:Below w4.heap.size w4 (w4.alloc (.cells #[.slice sa c.gA.length sc] 28)):=(Below.refl _ _).alloc ν _;have R5:=η (R4.o.below oN R4.o.lt);have A5:=η (A4.o.below oN A4.o.lt);have D5:=η (D4.o.below oN hD4);have B5:=η (B4.o.trans (iL.gL (oN.mono B4.o.size)));have O5:=η (show Own3 w2.heap.size c (.slice sa c.gA.length sc) av tv _ from⟨gM O4.o.1 oN ν,gM O4.o.2.1 oN ν,gM O4.o.2.2 oN ν⟩);have T5:=η (ze w4.heap.size (.slice sa c.gA.length sc) c.gA ω (w4.alloc (.cells #[.slice sa c.gA.length sc] 28)) w4 ζ aGA (Vb O4.o.1 rfl) oN);clear oN R4 A4 D4 B4 O4 pM;generalize hw5:w4.alloc _=w5 at R5 A5 D5 B5 O5 T5|-;have apg:w5.heap.size=w4.heap.size+1:=by rw[<-hw5];simp
 clear hw5;go_wp2_with fail;refine T5.o.mono ?_;clear T5;rintro e w6⟨zv,rfl,hz,rE⟩;obtain⟨za,zc,rfl⟩:=gZ hz;have ID:(sorted c.gA).length=c.gA.length:=(eA _ _).length_eq;have Z6:=η (show w6.ownsRow w5.heap.size 9 1 (.slice za c.gA.length zc) (sorted c.gA).length (wt (sorted c.gA))by rw[ID];exact hz);have R6:=η (R5.o.below rE R5.o.lt);have A6:=η (A5.o.below rE A5.o.lt);have D6:=η (D5.o.below rE D5.o.lt);have B6:=η (B5.o.trans (iL.gL (rE.mono B5.o.size)));have Q6:=η rE;have agW:=rE.size;clear hz rE R5 A5 D5 B5;go_upto_region 6 with fail;have pZ:∀u:gI.Of (λu=>Row u D (cc c.header c.ie (.slice sa c.gA.length sc) av tv)),u.w.cell? ⟨D,2,none⟩=some (.slice sa c.gA.length sc):=λu=>u.h.cell 2;haveI iZ:Nonempty (gI.Of (λu=>Row u D (cc c.header c.ie (.slice sa c.gA.length sc) av tv))):=⟨⟨w6,D6.o⟩⟩;refine gI.jl [0,3,4,5] 3 mixed κ rfl rfl θ ξ rfl (λu=>Row u D (cc c.header c.ie (.slice sa c.gA.length sc) av tv)) D6.o.drew ?_;show wpQuiet _ _ _ _ [_,_,_,_] _;repeat(go_big_quiet_step (fail))
 refine fe ?_;clear pZ;have R7:=η R6.o.drew;have A7:=η A6.o.drew;have D7:=η D6.o.drew;have B7:=η B6.o.drew;have Q7:=η Q6.o.drew;have akU:w5.heap.size<=w6.drew.heap.size:=agW;have T7:=η (xU w5.heap.size _ (sorted c.gA) w6.drew Z6.o (by rw[ID];omega));clear R6 A6 D6 B6 Q6 Z6;generalize w6.drew=w7 at R7 A7 D7 B7 Q7 T7 akU|-;generalize hq:(Lib.compact (sorted c.gA)).length=q at T7 ahk;clear hq;refine gI.one 1 _ κ rfl rfl ?_;try go_frame
 go_wp2_with fail;refine T7.o.mono ?_;clear T7;rintro e w8⟨ka,kc,rfl,yU⟩;have hD8:D<w5.heap.size:=ω
 have R8:=η (R7.o.below yU ω);have A8:=η (A7.o.below yU ω);have D8:=η (D7.o.below yU hD8);have B8:=η (B7.o.trans (iL.gL (yU.mono (by have:=B7.o.size;have:=A7.o.lt;omega))));have Q8:=Q7.o.trans yU;have O8:=η (show Own3 w2.heap.size c (.slice sa c.gA.length sc) av tv w8 from⟨gM O5.o.1 Q8 ν,gM O5.o.2.1 Q8 ν,gM O5.o.2.2 Q8 ν⟩);have S8:gI.cls (λu=>Row u D (cc c.header c.ie (.slice sa c.gA.length sc) av tv)) w8:=gI.gF D8.o;clear yU R7 A7 D7 B7 Q7 Q8 O5;go_wp2_with fail;refine⟨S8,?_⟩;refine gI.one 2 _ κ rfl rfl ?_;try go_frame
 go_wp2_with fail;refine⟨S8,?_⟩;refine gI.one 6 _ κ rfl rfl ?_
 try go_frame
 go_wp2_with fail;refine⟨S8,?_⟩;refine fg κ ?_ 0
 try go_frame
 have p1:(q:Int)< (c.gA.length:Int):=ω;have rA8:=A8.o;go_wp2_with (first|(refine tH (o:=⟨some 44,_,_,_,_,_⟩) rfl _ rfl 3 rfl ?_)|(with_reducible refine gJ (o:=⟨none,_,_,_,_,_⟩) rfl _ _ _ rfl w.heap.size (an 0 []) (an 3 []) rfl rfl rA8 (gY.trans rfl) rfl rfl ?_));have S9:=rA8.setRow (an 3 []);refine bodyPost_ret (v:=.tuple #[.agg (an 3 []).toArray,.int .i64 0]) (jE rfl _ _ w.heap.size (an 3 []) (.int .i64 0) rfl rfl S9 _ underlying49 (gY.trans rfl)) rfl ?_;exact⟨rfl,R8.o.gX ω _,B8.o.trans (iL.gL (below_setRow (Below.refl _ _) ν _))⟩
end
namespace Ph
open Go.Conc Rn iz
open Go.RowKit
open Tp (iT iy Term Ld jk iw iQ kY mL)
noncomputable def W:Code:=cb Tryz.f87
noncomputable def WX:Code:=ci (ci (cr (cl W)))
def bw:Frame:={(default:Frame)with fn:=87,kind:=.deferred}
def Hw(kd:List UInt8):List Obj:=[lH,lH,lH,lH,lH,fz [.chan (some 2)] 145,fz [.chan (some 3)] 146,fz (iu kd) 89,fz [.chan (some 4)] 147]
abbrev lp(r:Nat):Value:=.pointer (some ⟨r,0,none⟩)
def fvT(kd t:List UInt8):Value:=.agg (.string (str (En.six (iE.UN (En.Gq kd) (En.Gp kd) (Mk.gC t))))::gD t).toArray
noncomputable def tJ:List Item:=[.inRegion (co (cl WX)) [0,1],.code (cr WX),.inLoop WX,.inBlock 0,.code (cr W)]
noncomputable def tR:List Item:=[.inRegion (co (cr (ci (cr (cr WX))))) [7],.inBlock 1,.inLoop WX,.inBlock 0,.code (cr W)]
noncomputable def tD:List Item:=[.inRegion (co (cr W)) [2]]
def WA(kd:List UInt8):pI (List UInt8)->Goroutine->World->Prop
 |.iC=>λg v=>(∃x4 x6 x7 x8 x9 nz mR nd od mP m9 m4 n7,g=mL (bw.at ⟨#[lp 5,lp 6,lp 7,lp 8,x4,.chan (some 2),x6,x7,x8,x9,nz,mR,nd,od,mP,m9,m4,n7],[]⟩ tJ) [wall])/\nD v (Hw kd)|.jh t=>λg v=>(∃x4 x6 x7 x8 nz mR nd od mP m4 n7,g=mL (bw.at ⟨#[lp 5,lp 6,lp 7,lp 8,x4,.chan (some 2),x6,x7,x8,.chan (some 3),nz,mR,nd,od,mP,fvT kd t,m4,n7],[]⟩ tR) [wall])/\nD v (Hw kd)|.lS=>λg v=>(∃x4 x6 x7 x8 x9 nz mR nd od mP m9,g=mL (bw.at ⟨#[lp 5,lp 6,lp 7,lp 8,x4,.chan (some 2),x6,x7,x8,x9,nz,mR,nd,od,mP,m9,.chan (some 4),.agg #[]],[]⟩ tD) [wall])/\nD v (Hw kd)|_=>λ_ _=>False
def WA.re{kd c g v}(h:WA kd c g v) τ n:WA kd c g (v.re τ n):=by cases c<;>exact h
def hW:W=.seq (cl W) (cr W):=rfl
def hWl:cl W=.seq (cl (cl W)) (cr (cl W)):=rfl
def hWb:cr (cl W)=.block 0 (ci (cr (cl W))):=rfl
def hWo:ci (cr (cl W))=.loop WX:=rfl
def hWX:WX=.seq (cl WX) (cr WX):=rfl
def ahD p q r u:Frame.enter prog 87 #[p,q,r,u] .deferred=bw.at ⟨#[p,q,r,u,undef,undef,undef,undef,undef,undef,undef,undef,undef,undef,undef,undef,undef,undef],[]⟩ [.code W]:=by unfold Frame.enter;rw[func87];rfl
def IX x s a0 a1 a2 a3 a4 a5 a6 a7 a8 a9 Me Md a12 Mc Mb Ma L9 L7 L6 L5 a20 a21 LZ LY a24 LX LW LV a28 LU LS a31:prog.built 149 [(0,.string x),(1,.agg (.string s::w8 [a0,a1,a2,a3,a4,a5,a6,a7,a8,a9,Me,Md,a12,Mc,Mb,Ma,L9,L7,L6,L5,a20,a21,LZ,LY,a24,LX,LW,LV,a28,LU,LS,a31]).toArray)]=some (.string x::.string s::w8 [a0,a1,a2,a3,a4,a5,a6,a7,a8,a9,Me,Md,a12,Mc,Mb,Ma,L9,L7,L6,L5,a20,a21,LZ,LY,a24,LX,LW,LV,a28,LU,LS,a31]).toArray:=κ
def PQ x s d(hd:d.length=32):prog.built 149 [(0,.string x),(1,.agg (.string s::w8 d).toArray)]=some (.string x::.string s::w8 d).toArray:=
 match d,hd with
 |[a0,a1,a2,a3,a4,a5,a6,a7,a8,a9,Me,Md,a12,Mc,Mb,Ma,L9,L7,L6,L5,a20,a21,LZ,LY,a24,LX,LW,LV,a28,LU,LS,a31],_=>IX x s a0 a1 a2 a3 a4 a5 a6 a7 a8 a9 Me Md a12 Mc Mb Ma L9 L7 L6 L5 a20 a21 LZ LY a24 LX LW LV a28 LU LS a31
def PU{ops rest o a w Q}(pn:o.guard=none) x y(ho:o.op=.build 149 #[(0,x),(1,y)]) s t (hx:a.eval x=.string (str s)) (hy:a.eval y=.agg (gD t).toArray) (h:wpList prog ops Q rest (a.put o.dst (.agg (.string (str s)::gD t).toArray)) w):wpList prog ops Q (o::rest) a w:=by refine wpList_buildTo pn 149 _ ho _ rfl _ ?_ h;simp only[bN,List.map_cons,bP,hx,hy];exact PQ (str s) (str t) (Mk.gC t) (mz t)
def YB{ops rest o a C Q}(pn:o.guard=none) x(ho:o.op=.load 89 x) g off kd (hx:a.eval x=.pointer (some ⟨g,off,none⟩)) (hr:∀w,C w->w.rangeAt g off (iu kd)) (h:wpQuiet prog ops C Q rest (a.put o.dst (.agg (iu kd).toArray))):wpQuiet prog ops C Q (o::rest) a:=by unfold wpQuiet;rw[if_pos aGQ];refine⟨_,λw hw=>?_,h⟩;have:=fV (P:=prog) w g off 89 (iu kd) _ (hr w hw) underlying89 rfl (Gr.trans rfl);exact t07
def nD.below{v w l B}(h:nD v l)(hb:Below B v w)(hl:l.length<=B):nD w l:=h.keep λb sB=>hb.block b ω
section
variable{kd:List UInt8}{v:World}
def Ut(h:nD v (Hw kd)) x4 x6 x7 x8 x9 nz mR nd od mP m9 m4 n7:jk prog (WA kd .iC) (bw.at ⟨#[lp 5,lp 6,lp 7,lp 8,x4,.chan (some 2),x6,x7,x8,x9,nz,mR,nd,od,mP,m9,m4,n7],[]⟩ [.code WX,.inLoop WX,.inBlock 0,.code (cr W)]) [wall] v:=by refine gH hWX ?_;refine Ci (s:=0) (r:=[0,1]) rfl rfl ?_;show jk _ _ _ _ _;exact iw ⟨⟨_,_,_,_,_,_,_,_,_,_,_,_,_,rfl⟩,h⟩
def afK(h:nD v (Hw kd)):Term prog (WA kd .iC) (mL (Frame.enter prog 87 #[lp 5,lp 6,lp 7,lp 8] .deferred) [wall]) v:=by rw[ahD];refine jY iy (λg w τ n (h:WA kd .iC g w)=>h.re τ n) rfl λτ n=>?_;have h:nD (v.re τ n) (Hw kd):=h;generalize v.re τ n=v at h;refine gH hW (gH hWl ?_);have l5:v.cell? ⟨5,0,none⟩=some (.chan (some 2)):=h.row (i:=5) rfl 0;refine ib (c':=.region _ _ _) rfl ?_;go_wp2_with fail;refine jf hWb (nZ hWo ?_);exact Ut h _ _ _ _ _ _ _ _ _ _ _ _ _
def aqD:cr WX=.seq (cl (cr WX)) (cr (cr WX)):=rfl
def awa:cr (cr WX)=.block 1 (ci (cr (cr WX))):=rfl
def av9:ci (cr (cr WX))=.seq (cl (ci (cr (cr WX)))) (cr (ci (cr (cr WX)))):=rfl
def ajB{t g}(h:WA kd .iC g v):Term prog (WA kd (.jh t)) (Go.Conc.served g (.tuple #[Mi t,.bool true])) v:=by
 obtain⟨⟨x4,x6,x7,x8,x9,nz,mR,nd,od,mP,m9,m4,n7,rfl⟩,h⟩:=h;unfold tJ;rw[nR (o:=⟨some 6,_,_,_,_,_⟩) rfl];show Term _ _ (mL (bw.at ⟨#[lp 5,lp 6,lp 7,lp 8,x4,.chan (some 2),.tuple #[.agg (gD t).toArray,.bool true],x7,x8,x9,nz,mR,nd,od,mP,m9,m4,n7],[]⟩ _) _) v;refine jY iy (λg w τ n (h:WA kd (.jh t) g w)=>h.re τ n) rfl λτ n=>?_;have h:nD (v.re τ n) (Hw kd):=h;generalize v.re τ n=v at h;refine Tp.o8 (o:=⟨some 7,_,_,_,_,_⟩) (v:=.bool true) rfl rfl rfl ?_;show jk _ _ (bw.at ⟨#[lp 5,lp 6,lp 7,lp 8,x4,.chan (some 2),.tuple #[.agg (gD t).toArray,.bool true],.bool true,x8,x9,nz,mR,nd,od,mP,m9,m4,n7],[]⟩ _) _ _;refine Tp.iS (gH aqD (ix (t:=true) rfl rfl (jz rfl (jf awa (gH av9 ?_)))));have r1:Row (v.alloc (.cells j1.toArray 78)) v.heap.size j1:=Row.new v j1 78;have hB:Below v.heap.size v (v.alloc (.cells j1.toArray 78)):=(Below.refl _ _).alloc ν _;have B1:=η (below_setRow hB ν (gD t).toArray);have H2:=r1.setRow (gD t);rw[Tryz.n9]at r1 hB B1 H2;have H1:=r1;have HP:=η h;clear r1 hB h;refine ib (c':=.region _ _ _) rfl ?_;go_wp2_with (with_reducible refine gJ (o:=⟨none,_,_,_,_,_⟩) rfl _ _ _ rfl v.heap.size j1 (gD t) rfl rfl H1 (kj.trans aGK) aH8 (iV t) ?_);clear H1;have P2:nD _ (Hw kd):=HP.o.below B1.o HP.o.le;have hA9:9<=v.heap.size:=HP.o.le;obtain⟨A,hA⟩:∃A,v.heap.size=A:=⟨_,rfl⟩;rw[hA]at B1 H2 P2 hA9|-;clear B1 HP hA;generalize World.setRow _ A (gD t).toArray=w2 at H2 P2|-;have hu6:∀u:gI.Of (λu=>nD u (Hw kd)/\Row u A (gD t)),u.w.cell? ⟨6,0,none⟩=some (.chan (some 3)):=λu=>u.h.1.row (i:=6) rfl 0;haveI iZ:Nonempty (gI.Of (λu=>nD u (Hw kd)/\Row u A (gD t))):=⟨⟨w2,P2,H2⟩⟩;refine aei (S:=gI.cls (λu=>nD u (Hw kd)/\Row u A (gD t))) (s:=7) (fo:=#[_,_,_,_,_,_,_,⟨none,.move (.const undef),0,"relay.go:183",#[_,_,_],none⟩]) rfl mixed κ κ rfl rfl ?_;refine gI.E8 [0,1,2,3,5] 3 aFU κ aFU aGj ξ aFU (gI.gF ⟨P2,H2⟩) ?_;show wpQuiet _ _ _ _ [_,_,_,_,_] _;go_big_quiet_step (fail);refine YB (o:=⟨some 10,_,_,_,_,_⟩) rfl _ rfl 7 0 kd rfl (λw hw=>by obtain⟨u,rfl⟩:=hw;exact λj x hx=>by rw[aC,u.h.1.row (i:=7) rfl j];exact hx) ?_;go_frame;go_big_quiet_step (fail);refine oe (o:=⟨some 12,_,_,_,_,_⟩) rfl _ rfl A 1 (Mk.gC t) (mz t) rfl (λw hw=>by obtain⟨u,rfl⟩:=hw;exact λj x hx=>by rw[u.h.2.cell];show(Value.string (str t)::w8 (Mk.gC t))[1+j]? =_;rw[dR];exact hx) ?_;go_frame;refine Mp.Ft (o:=⟨some 14,_,_,_,_,_⟩) rfl _ rfl A 0 t rfl (λw hw=>by obtain⟨u,rfl⟩:=hw;exact λj x hx=>by rw[aC,u.h.2.cell];exact hx) ?_;go_frame;refine fe ?_;have T1:=η (KR kd (Mk.gC t) w2.drew (mz t));have P3:nD w2.drew (Hw kd):=P2;have R3:=H2.drew;have hAl:=R3.lt;clear hu6 P2 H2;show wpAnyH _ _ _ _ _ _ _ _ w2.drew;generalize w2.drew=w3 at P3 R3 T1 hAl|-;refine gI.one 4 _ κ rfl rfl ?_;try go_frame
 go_wp2_with fail;refine T1.o.mono ?_;clear T1;rintro e w4⟨rfl,tA⟩;have P4:nD w4 (Hw kd):=P3.below tA P3.le;have R4:=R3.below tA hAl;clear tA P3 R3 hAl;go_wp2_with fail;refine⟨gI.gF ⟨P4,R4⟩,?_⟩;refine gI.one 6 _ κ rfl rfl ?_
 try go_frame
 refine PU (o:=⟨some 15,_,_,_,_,_⟩) rfl _ _ rfl _ t rfl rfl ?_;go_frame;go_wp2_with fail;refine⟨gI.gF ⟨P4,R4⟩,?_⟩;refine gI.one 7 _ κ rfl rfl ?_;go_wp2_with fail;refine⟨gI.gF ⟨P4,R4⟩,?_⟩;refine fg κ ?_ 0
 exact iw ⟨⟨_,_,_,_,_,_,_,_,_,_,_,rfl⟩,P4⟩
def aoa{g z}(h:WA kd .iC g v):Term prog (WA kd .lS) (Go.Conc.served g (.tuple #[z,.bool false])) v:=by obtain⟨⟨x4,x6,x7,x8,x9,nz,mR,nd,od,mP,m9,m4,n7,rfl⟩,h⟩:=h;unfold tJ;rw[nR (o:=⟨some 6,_,_,_,_,_⟩) rfl];show Term _ _ (mL (bw.at ⟨#[lp 5,lp 6,lp 7,lp 8,x4,.chan (some 2),.tuple #[z,.bool false],x7,x8,x9,nz,mR,nd,od,mP,m9,m4,n7],[]⟩ _) _) v;refine jY iy (λg w τ n (h:WA kd .lS g w)=>h.re τ n) rfl λτ n=>?_;have h:nD (v.re τ n) (Hw kd):=h;generalize v.re τ n=v at h;refine Tp.o8 (o:=⟨some 7,_,_,_,_,_⟩) (v:=.bool false) rfl rfl rfl ?_;show jk _ _ (bw.at ⟨#[lp 5,lp 6,lp 7,lp 8,x4,.chan (some 2),.tuple #[z,.bool false],.bool false,x8,x9,nz,mR,nd,od,mP,m9,m4,n7],[]⟩ _) _ _;refine Tp.iS (gH aqD (ix (t:=false) rfl rfl (n5 rfl rfl ?_)));have l8:v.cell? ⟨8,0,none⟩=some (.chan (some 4)):=h.row (i:=8) rfl 0;refine m3 2 [2] rfl rfl aFK ?_;show wpList _ _ _ [_,_] _ _;go_wp2_with fail;exact iw ⟨⟨_,_,_,_,_,_,_,_,_,_,_,rfl⟩,h⟩
def ajA{t g}(h:WA kd (.jh t) g v):Term prog (WA kd .iC) (Go.Conc.served g undef) v:=by obtain⟨⟨x4,x6,x7,x8,nz,mR,nd,od,mP,m4,n7,rfl⟩,h⟩:=h;unfold tR;rw[nR (o:=⟨none,_,_,_,_,_⟩) rfl];show Term _ _ (mL (bw.at ⟨#[lp 5,lp 6,lp 7,lp 8,x4,.chan (some 2),x6,x7,x8,.chan (some 3),nz,mR,nd,od,mP,fvT kd t,m4,n7],[]⟩ _) _) v;refine jY iy (λg w τ n (h:WA kd .iC g w)=>h.re τ n) rfl λτ n=>?_;have h:nD (v.re τ n) (Hw kd):=h;generalize v.re τ n=v at h;refine Tp.iS (Tp.lU (Tp.mM ?_));exact Ut h _ _ _ _ _ _ _ _ _ _ _ _ _
end
end Ph
namespace Ph
open Go.Conc Rn iz
open Go.RowKit
open Tp (iT iy Term Ld jk iw iQ kY mL)
noncomputable def F:Code:=cb Tryz.f88
noncomputable def FX:Code:=ci (ci (cr (cl F)))
noncomputable def FY:Code:=ci (ci (cr (cl (cr (cr F)))))
def bf:Frame:={(default:Frame)with fn:=88,kind:=.deferred}
def Bb:Value:=.func (.method "") #[.nilIface] #[]
def Hf(es:Array MapEntry)(clock:Nat):List Obj:=[lH,lH,lH,lH,lH,fz [lp 9] 74,fz [.chan (some 2)] 145,fz [.chan (some 4)] 147,fz [.chan (some 3)] 146,fz [.map (some 10),Bb,Bb,Bb] 44,.map es clock]
noncomputable def tS:List Item:=[.inRegion (co (cr (ci (cr (cr FX))))) [2],.inBlock 1,.inLoop FX,.inBlock 0,.code (cr F)]
noncomputable def tCJ:List Item:=[.inRegion (co (cl (cr F))) [1],.code (cr (cr F))]
noncomputable def tRD:List Item:=[.inRegion (co (ci (cl (cr (cr FY))))) [1],.inBlock 3,.code (cr (cr (cr FY))),.inLoop FY,.inBlock 2,.code (cr (cr (cr F)))]
noncomputable def tCR:List Item:=[.inRegion (co (cr (cr (cr F)))) [1]]
def It(left:Lit->Bool)(P:List (List UInt8)):List (List UInt8):=P.filter λt=>left (.string (Mk.gC t))
def Yp{left}(h:∀kl,left kl=false) P:It left P=[]:=by unfold It;rw[dH];intro t _;rw[h];simp
def abq(P:List (List UInt8))(nU:Pl.Up Mk.gC P):It (Maps.has (Mp.D P)) P=P:=by unfold It;rw[dQ];intro t ht;rw[Mp.Pf P _ nU];exact(Pl.at_mem Mk.gC (Mk.gC t) P nU).2 ⟨t,ht,rfl⟩
theorem Jn(left:Lit->Bool)(t:List UInt8)(hl:left (.string (Mk.gC t))=true):∀(P:List (List UInt8)),Pl.Up Mk.gC P->t∈P->(It left P).Perm (t::It (λz=>left z&& !z.sameKey (.string (Mk.gC t))) P)
 |[],_,h=>by cases h
 |y::P,nU,h=>by
  obtain⟨h1,h2⟩:=bI.1 nU;unfold It at *;by_cases hy:y=t;subst hy;rw[List.filter_cons_of_pos (p:=λt=>left (.string (Mk.gC t))) hl,List.filter_cons_of_neg (by dsimp only;rw[Mp.sK];simp)];refine List.Perm.cons _ ?_;have:P.filter (λu=>left (.string (Mk.gC u)))=P.filter (λu=>left (.string (Mk.gC u))&& !(Lit.string (Mk.gC u)).sameKey (.string (Mk.gC y))):=eN λu hu=>by
   have iZ:Mk.gC y≠Mk.gC u:=λe=>by have:=h1 u hu;rw[e]at this;exact Pl.vJ _ this
   rw[Mp.sK];have:(Mk.gC u==Mk.gC y)=false:=by simpa using λe=>iZ e.symm
   rw[this];simp
  rw[this];have ht:t∈P:=by rcases List.mem_cons.1 h with e|h;exact absurd e.symm hy;exact h
  have ih:=Jn left t hl P h2 ht;unfold It at ih;have iZ:Mk.gC y≠Mk.gC t:=λe=>by have:=h1 t ht;rw[e]at this;exact Pl.vJ _ this
  have hk:(!(Lit.string (Mk.gC y)).sameKey (.string (Mk.gC t)))=true:=by
   rw[Mp.sK];have:(Mk.gC y==Mk.gC t)=false:=by simpa using iZ
   rw[this];rfl
  by_cases hyl:left (.string (Mk.gC y))=true;rw[List.filter_cons_of_pos (p:=λt=>left (.string (Mk.gC t))) hyl,List.filter_cons_of_pos (by dsimp only;rw[hyl,hk];rfl)];exact(List.Perm.cons y ih).trans (List.Perm.swap t y _);rw[List.filter_cons_of_neg (p:=λt=>left (.string (Mk.gC t))) hyl,List.filter_cons_of_neg (by simp[hyl])];exact ih
def ama{P:List (List UInt8)}{x:List UInt8}{z:DataW Unit}(h:∀zd,(Mp.D P).atKey (.string x) zd=z):∃t∈P,Mk.gC t=x/\z=.lit (.string t):=by
 unfold Mp.D DataW.atKey at h;dsimp only at h;cases hf:(Mp.vU P).find? (λp=>p.1.sameKey (.string x))with
 |none=>rw[hf]at h;have h1:=h .nil;have h2:=h (.lit (.bool true));rw[<-h1]at h2;cases h2
 |some p=>rw[hf]at h;have hm:=List.mem_of_find?_eq_some hf;have hp:=List.find?_some hf;unfold Mp.vU at hm;obtain⟨t,ht,rfl⟩:=List.mem_map.1 hm;rw[Mp.sK]at hp;exact⟨t,ht,by simpa using hp,(h .nil).symm⟩
def FA(P:List (List UInt8))(es:Array MapEntry)(clock:Nat):pI (List UInt8)->Goroutine->World->Prop
 |.jJ t rem=>λg v=>(∃x4 x5 x6 x7 x8 x9 mR nd od mP n7 rm tI rU qw pN qa,g=mL (bf.at ⟨#[lp 5,lp 6,lp 7,lp 8,x4,x5,x6,x7,x8,x9,lp 11,mR,nd,od,mP,.chan (some 2),Mi t,n7,rm,tI,rU,qw,pN,qa],[]⟩ tS) [wall])/\nD v (Hf es clock)/\∃left cnt,v.ranges prog 76 Mp.AH 10 11 20 (Mp.D P) left cnt/\rem.Perm (It left P)|.lM=>λg v=>(∃x4 x5 x6 x7 x8 x9 nz mR nd od mP m9 m4 rm tI rU qw pN qa,g=mL (bf.at ⟨#[lp 5,lp 6,lp 7,lp 8,x4,x5,x6,x7,x8,x9,nz,mR,nd,od,mP,m9,m4,.chan (some 2),rm,tI,rU,qw,pN,qa],[]⟩ tCJ) [wall])/\nD v (Hf es clock)|.iK k=>λg v=>(∃x4 x5 x6 x7 x8 x9 nz mR nd od mP m9 m4 n7 tI qw pN qa,g=mL (bf.at ⟨#[lp 5,lp 6,lp 7,lp 8,x4,x5,x6,x7,x8,x9,nz,mR,nd,od,mP,m9,m4,n7,.int .i64 (k:Int),tI,.chan (some 4),qw,pN,qa],[]⟩ tRD) [wall])/\nD v (Hf es clock)/\k<3|.jV=>λg v=>(∃x4 x5 x6 x7 x8 x9 nz mR nd od mP m9 m4 n7 rm tI rU qw pN,g=mL (bf.at ⟨#[lp 5,lp 6,lp 7,lp 8,x4,x5,x6,x7,x8,x9,nz,mR,nd,od,mP,m9,m4,n7,rm,tI,rU,qw,pN,.chan (some 3)],[]⟩ tCR) [wall])/\nD v (Hf es clock)|_=>λ_ _=>False
def FA.re{P es clock c g v}(h:FA P es clock c g v) τ n:FA P es clock c g (v.re τ n):=by cases c<;>exact h
def Dj(P:List (List UInt8))(es:Array MapEntry)(clock:Nat)(rem:List (List UInt8))(g:Goroutine)(v:World):Prop:=(∃a Iu,rem.Perm (a::Iu)/\FA P es clock (.jJ a Iu) g v)∨(rem=[]/\FA P es clock .lM g v)
theorem Dj.re{P es clock rem g v}(h:Dj P es clock rem g v) τ n:Dj P es clock rem g (v.re τ n):=h.imp (λ⟨a,r,h1,h2⟩=>⟨a,r,h1,h2.re τ n⟩) (λ⟨h1,h2⟩=>⟨h1,h2.re τ n⟩)
def hF:F=.seq (cl F) (cr F):=rfl
def hFl:cl F=.seq (cl (cl F)) (cr (cl F)):=rfl
def hFb:cr (cl F)=.block 0 (ci (cr (cl F))):=rfl
def hFo:ci (cr (cl F))=.loop FX:=rfl
def hFX:FX=.seq (cl FX) (cr FX):=rfl
def aq2:cr FX=.seq (cl (cr FX)) (cr (cr FX)):=rfl
def awH:cr (cr FX)=.block 1 (ci (cr (cr FX))):=rfl
def awG:ci (cr (cr FX))=.seq (cl (ci (cr (cr FX)))) (cr (ci (cr (cr FX)))):=rfl
def hFr:cr F=.seq (cl (cr F)) (cr (cr F)):=rfl
def awD:cr (cr F)=.seq (cl (cr (cr F))) (cr (cr (cr F))):=rfl
def hFy:cl (cr (cr F))=.seq (cl (cl (cr (cr F)))) (cr (cl (cr (cr F)))):=rfl
def awC:cr (cl (cr (cr F)))=.block 2 (ci (cr (cl (cr (cr F))))):=rfl
def awB:ci (cr (cl (cr (cr F))))=.loop FY:=rfl
def hFY:FY=.seq (cl FY) (cr FY):=rfl
def aq1:cr FY=.seq (cl (cr FY)) (cr (cr FY)):=rfl
def awF:cr (cr FY)=.seq (cl (cr (cr FY))) (cr (cr (cr FY))):=rfl
def awE:cl (cr (cr FY))=.block 3 (ci (cl (cr (cr FY)))):=rfl
def ahH p q r u:Frame.enter prog 88 #[p,q,r,u] .deferred=bf.at ⟨#[p,q,r,u,undef,undef,undef,undef,undef,undef,undef,undef,undef,undef,undef,undef,undef,undef,undef,undef,undef,undef,undef,undef],[]⟩ [.code F]:=by unfold Frame.enter;rw[func88];kernel_rfl
def abn{P:List (List UInt8)}{v w:World}{left:Lit->Bool}{cnt B:Nat}(h:v.ranges prog 76 Mp.AH 10 11 20 (Mp.D P) left cnt)(h12:11<B)(hb:Below B v w):w.ranges prog 76 Mp.AH 10 11 20 (Mp.D P) left cnt:=by obtain⟨es,clock,since,seen,c0,h1,h2,h3,h4,h5,h6⟩:=h;exact⟨es,clock,since,seen,c0,(hb.block 10 ω).trans h1,h2,h3,h4,(hb.block 11 h12).trans h5,h6⟩
def nD.rg{P:List (List UInt8)}{v:World}{l:List Obj}{left:Lit->Bool}{cnt:Nat}(_:nD v l)(h:v.ranges prog 76 Mp.AH 10 11 20 (Mp.D P) left cnt):11<v.heap.size:=h.lt
section
variable{P:List (List UInt8)}{es:Array MapEntry}{clock:Nat}{v:World}
def Wa(nU:Pl.Up Mk.gC P)(h:nD v (Hf es clock)){left cnt}(hrg:v.ranges prog 76 Mp.AH 10 11 20 (Mp.D P) left cnt){rem}(agZ:rem.Perm (It left P)) x4 x5 x6 x7 x8 x9 mR nd od mP m9 m4 n7 rm tI rU qw pN qa:jk prog (Dj P es clock rem) (bf.at ⟨#[lp 5,lp 6,lp 7,lp 8,x4,x5,x6,x7,x8,x9,lp 11,mR,nd,od,mP,m9,m4,n7,rm,tI,rU,qw,pN,qa],[]⟩ [.code FX,.inLoop FX,.inBlock 0,.code (cr F)]) [wall] v:=by
 have HP:=η h;have HUP:=η nU;have ams:=η agZ;clear h nU agZ;refine gH hFX (ib (c':=.region _ _ _) rfl ?_);go_wp2_with (at_next;refine wpList_next_ranges _ (o:=⟨some 11,_,_,_,_,_⟩) rfl _ rfl 76 Mp.law Mp.AH (λd:{d:List UInt8 // d.length=32}=>Value.agg (w8 d.1).toArray) (λc:Value=>c) aGk (λv y hv=>⟨v,rfl⟩) 10 11 20 _ _ _ rfl hrg ?_ ?_)
 ·intro pV hl0;go_wp2_with fail;show jk _ _ _ _ _;refine gH aq2 (ix (t:=false) rfl rfl (n5 rfl rfl ?_));have h:=HP.o;have l6:v.cell? ⟨6,0,none⟩=some (.chan (some 2)):=h.row (i:=6) rfl 0;refine gH hFr (m3 1 [1] rfl rfl aFK ?_);show wpList _ _ _ [_] _ _;go_wp2_with fail;exact iw (.inr ⟨by have:=ams.o;rw[Yp hl0]at this;exact this.eq_nil,⟨_,_,_,_,_,_,_,_,_,_,_,_,_,_,_,_,_,_,_,rfl⟩,h⟩)
 intro x hx c kl yd yp w2 arp BM OV hv q8 acN gV Th zU hen;obtain rfl:kl=.string x:=by rw[Mp.BI x hx]at BM;exact(aA BM).symm
 obtain⟨t,htP,rfl,rfl⟩:=ama q8;obtain⟨t',rfl,hz⟩|⟨_,hz⟩:=Mp.Ko hv;case inr=>cases hz
 obtain rfl:t=t':=by have:=(Prod.mk.inj hz).1;injection this with this;injection this
 have arN:=η (ams.o.trans (Jn left t OV P HUP.o htP));have h2:nD w2 (Hf es clock):=HP.o.keep λb hb=>Th.block b (ay hb HP.o.le) (λe=>by have:b=11:=aA e;have:b<11:=hb;omega);have HRG:=η acN;have H2:=η h2;clear BM OV hv q8 hz Th zU acN gV hx hrg HP ams h2;go_wp2_with fail;show jk _ _ _ _ _;refine gH aq2 (ix (t:=true) rfl rfl (jz rfl (jf awH (gH awG ?_))));have r1:Row (w2.alloc (.cells j1.toArray 78)) w2.heap.size j1:=Row.new w2 j1 78;have hB:Below w2.heap.size w2 (w2.alloc (.cells j1.toArray 78)):=(Below.refl _ _).alloc ν _;have B1:=η (below_setRow hB ν (gD t).toArray);have H4:=r1.setRow (gD t);rw[Tryz.n9]at r1 hB B1 H4;have H1:=r1;clear r1 hB;have avI:Sem.run prog (Instr.entry (Value.pointer (some {block:=11,off:=0}))) w2=Result.ok (Value.tuple #[Value.agg (w8 (Mk.gC t)).toArray,.agg (gD t).toArray]) w2:=hen;clear hen;refine ib (c':=.region _ _ _) rfl ?_;go_wp2_with (with_reducible refine gJ (o:=⟨none,_,_,_,_,_⟩) rfl _ _ _ rfl w2.heap.size j1 (gD t) rfl rfl H1 (kj.trans aGK) aH8 (iV t) ?_);clear H1 avI;have P3:nD _ (Hf es clock):=H2.o.below B1.o H2.o.le;have R3:=abn HRG.o (nD.rg H2.o HRG.o) B1.o;have hA9:11<=w2.heap.size:=H2.o.le;obtain⟨A,hA⟩:∃A,w2.heap.size=A:=⟨_,rfl⟩;rw[hA]at B1 H4 P3 R3|-;clear B1 hA HRG H2;generalize World.setRow _ A (gD t).toArray=w3 at H4 P3 R3|-;have l6:w3.cell? ⟨6,0,none⟩=some (.chan (some 2)):=P3.row (i:=6) rfl 0;refine m3 2 [2] rfl rfl aFK ?_;show wpList _ _ _ [_,_] _ _;go_wp2_with (refine l0 (o:=⟨some 16,_,_,_,_,_⟩) rfl _ _ rfl A (gD t) rfl H4 _ fG (kj.trans aGK) _ rfl ?_);exact iw (.inl ⟨t,_,arN.o,⟨_,_,_,_,_,_,_,_,_,_,_,_,_,_,_,_,_,rfl⟩,P3,_,_,R3,.refl _⟩)
def ahA(nU:Pl.Up Mk.gC P)(h:nD v (Hf es clock))(hs:v.heap.size=11)(hm:v.ownsMap prog 76 Mp.AH 10 20 (Mp.D P)):Term prog (Dj P es clock P) (mL (Frame.enter prog 88 #[lp 5,lp 6,lp 7,lp 8] .deferred) [wall]) v:=by rw[ahH];refine jY iy (λg w τ n (h:Dj P es clock P g w)=>h.re τ n) rfl λτ n=>?_;have h:nD (v.re τ n) (Hf es clock):=h;have hs:(v.re τ n).heap.size=11:=hs;have hm:(v.re τ n).ownsMap prog 76 Mp.AH 10 20 (Mp.D P):=hm;generalize v.re τ n=v at h hs hm;have HU:=η nU;have HP:=η h;have HM:=η hm;have HS:=η hs;have l5:v.cell? ⟨5,0,none⟩=some (lp 9):=h.row (i:=5) rfl 0;have l9:v.cell? ⟨9,0,none⟩=some (.map (some 10)):=h.row (i:=9) rfl 0;clear h nU hm hs;refine gH hF (gH hFl (ib (c':=.region _ _ _) rfl ?_));go_wp2_with (at_range;refine wpList_range_own _ (o:=⟨some 10,_,_,_,_,_⟩) rfl _ 39 rfl 76 78 Mp.law fU Mp.AH 10 20 (Mp.D P) rfl HM.o ?_;intro w0 acO hg0 Aw);rw[HS.o]at acO;show jk _ _ (bf.at ⟨#[_,_,_,_,_,_,_,_,_,_,.pointer (some ⟨v.heap.size,0,none⟩),_,_,_,_,_,_,_,_,_,_,_,_,_],[]⟩ _) _ _;rw[HS.o];have h0:nD w0 (Hf es clock):=HP.o.keep λb hb=>hg0.block b (ay hb HP.o.le) aGF;refine jf hFb (nZ hFo ?_);exact Wa HU.o h0 acO (by rw[abq P HU.o]) _ _ _ _ _ _ _ _ _ _ _ _ _ _ _ _ _ _ _
def alZ(nU:Pl.Up Mk.gC P){t rem g}(h:FA P es clock (.jJ t rem) g v):Term prog (Dj P es clock rem) (Go.Conc.served g undef) v:=by obtain⟨⟨x4,x5,x6,x7,x8,x9,mR,nd,od,mP,n7,rm,tI,rU,qw,pN,qa,rfl⟩,h,left,cnt,hrg,agZ⟩:=h;unfold tS;rw[nR (o:=⟨none,_,_,_,_,_⟩) rfl];show Term _ _ (mL (bf.at ⟨#[lp 5,lp 6,lp 7,lp 8,x4,x5,x6,x7,x8,x9,lp 11,mR,nd,od,mP,.chan (some 2),Mi t,n7,rm,tI,rU,qw,pN,qa],[]⟩ _) _) v;refine jY iy (λg w τ n (h:Dj P es clock rem g w)=>h.re τ n) rfl λτ n=>?_;have h:nD (v.re τ n) (Hf es clock):=h;have hrg:(v.re τ n).ranges prog 76 Mp.AH 10 11 20 (Mp.D P) left cnt:=hrg;generalize v.re τ n=v at h hrg;refine Tp.iS (Tp.lU (Tp.mM ?_));exact Wa nU h hrg agZ _ _ _ _ _ _ _ _ _ _ _ _ _ _ _ _ _ _ _
def adB(h:nD v (Hf es clock)){k}(hk:k<3) x4 x5 x6 x7 x8 x9 nz mR nd od mP m9 m4 n7 tI rU qw pN qa:jk prog (FA P es clock (.iK k)) (bf.at ⟨#[lp 5,lp 6,lp 7,lp 8,x4,x5,x6,x7,x8,x9,nz,mR,nd,od,mP,m9,m4,n7,.int .i64 (k:Int),tI,rU,qw,pN,qa],[]⟩ [.code FY,.inLoop FY,.inBlock 2,.code (cr (cr (cr F)))]) [wall] v:=by have l7:v.cell? ⟨7,0,none⟩=some (.chan (some 4)):=h.row (i:=7) rfl 0;have HP:=η h;clear h;have Tg:((k:Int)<3):=ω;refine gH hFY (ib (c':=.region _ _ _) rfl ?_);go_wp2_with fail;show jk _ _ _ _ _;refine gH aq1 (ix (t:=true) rfl (by simp[Act.eval,Tg]) (jz rfl (gH awF (jf awE ?_))));refine m3 1 [1] rfl rfl aFK ?_;show wpList _ _ _ [_] _ _;go_wp2_with fail;exact iw ⟨⟨_,_,_,_,_,_,_,_,_,_,_,_,_,_,_,_,_,_,rfl⟩,HP.o,hk⟩
def adC{g}(h:FA P es clock .lM g v):Term prog (FA P es clock (.iK 0)) (ks g (.tuple #[])) v:=by obtain⟨⟨x4,x5,x6,x7,x8,x9,nz,mR,nd,od,mP,m9,m4,rm,tI,rU,qw,pN,qa,rfl⟩,h⟩:=h;unfold tCJ;rw[G0 (o:=⟨none,_,_,_,_,_⟩) rfl];show Term _ _ (mL (bf.at ⟨#[lp 5,lp 6,lp 7,lp 8,x4,x5,x6,x7,x8,x9,nz,mR,nd,od,mP,m9,m4,.chan (some 2),rm,tI,rU,qw,pN,qa],[]⟩ _) _) v;refine jY iy (λg w τ n (h:FA P es clock (.iK 0) g w)=>h.re τ n) rfl λτ n=>?_;have h:nD (v.re τ n) (Hf es clock):=h;generalize v.re τ n=v at h;have HP:=η h;clear h;refine Tp.iS (gH awD (gH hFy (ib (c':=.region _ _ _) rfl ?_)));go_wp2_with fail;show jk _ _ _ _ _;refine jf awC (nZ awB ?_);exact adB (k:=0) HP.o ω _ _ _ _ _ _ _ _ _ _ _ _ _ _ _ _ _ _ _
def ahB{k g} z(hk:k<2)(h:FA P es clock (.iK k) g v):Term prog (FA P es clock (.iK (k+1))) (Go.Conc.served g z) v:=by
 obtain⟨⟨x4,x5,x6,x7,x8,x9,nz,mR,nd,od,mP,m9,m4,n7,tI,qw,pN,qa,rfl⟩,h,_⟩:=h;unfold tRD;rw[nR (o:=⟨some 21,_,_,_,_,_⟩) rfl];show Term _ _ (mL (bf.at ⟨#[lp 5,lp 6,lp 7,lp 8,x4,x5,x6,x7,x8,x9,nz,mR,nd,od,mP,m9,m4,n7,.int .i64 (k:Int),tI,.chan (some 4),z,pN,qa],[]⟩ _) _) v;refine jY iy (λg w τ n (h:FA P es clock (.iK (k+1)) g w)=>h.re τ n) rfl λτ n=>?_;have h:nD (v.re τ n) (Hf es clock):=h;generalize v.re τ n=v at h;have HP:=η h;clear h;have hw:wrap64 ((k:Int)+1)=((k+1:Nat):Int):=by unfold wrap64;omega
 refine Tp.iS (Tp.lU (ib (c':=.region _ _ _) rfl ?_));go_wp2_with fail;show jk _ _ _ _ _;refine Tp.mM ?_;first|rw[hw]|skip
 exact adB (k:=k+1) HP.o ω _ _ _ _ _ _ _ _ _ _ _ _ _ _ _ _ _ _ _
def al0{g} z(h:FA P es clock (.iK 2) g v):Term prog (FA P es clock .jV) (Go.Conc.served g z) v:=by obtain⟨⟨x4,x5,x6,x7,x8,x9,nz,mR,nd,od,mP,m9,m4,n7,tI,qw,pN,qa,rfl⟩,h,_⟩:=h;unfold tRD;rw[nR (o:=⟨some 21,_,_,_,_,_⟩) rfl];show Term _ _ (mL (bf.at ⟨#[lp 5,lp 6,lp 7,lp 8,x4,x5,x6,x7,x8,x9,nz,mR,nd,od,mP,m9,m4,n7,.int .i64 2,tI,.chan (some 4),z,pN,qa],[]⟩ _) _) v;refine jY iy (λg w τ n (h:FA P es clock .jV g w)=>h.re τ n) rfl λτ n=>?_;have h:nD (v.re τ n) (Hf es clock):=h;generalize v.re τ n=v at h;have l8:v.cell? ⟨8,0,none⟩=some (.chan (some 3)):=h.row (i:=8) rfl 0;have HP:=η h;clear h;refine Tp.iS (Tp.lU (ib (c':=.region _ _ _) rfl ?_));go_wp2_with fail;show jk _ _ _ _ _;refine Tp.mM (gH hFY (ib (c':=.region _ _ _) rfl ?_));go_wp2_with fail;show jk _ _ _ _ _;refine gH aq1 (ix (t:=false) rfl (by simp[Act.eval]) (n5 rfl rfl ?_));refine m3 1 [1] rfl rfl aFK ?_;show wpList _ _ _ [_] _ _;go_wp2_with fail;exact iw ⟨⟨_,_,_,_,_,_,_,_,_,_,_,_,_,_,_,_,_,_,_,rfl⟩,HP.o⟩
end
end Ph
def t071{p:Prop}(h:p:=by go_wp2_with fail;refine⟨gI.gF HR4.o,?_⟩;exact s_tail hn HE.o HP4.o HR4.o HK4.o HLT.o HZ4.o z4 _ _ _ _ _ _ _ _ _ _ _ _ _ _):p:=h
namespace Ph
open Go.Conc Rn iz
open Go.RowKit
open Tp (iT iy Term Ld jk iw iQ kY mL)
noncomputable def M:Code:=cb Tryz.f45
noncomputable def M4:Code:=cr (cr (cr (cr M)))
noncomputable def MX:Code:=ci (ci (cr (cl M4)))
noncomputable def M8:Code:=cr M4
noncomputable def M9:Code:=cr M8
noncomputable def M10:Code:=cr M9
noncomputable def MY:Code:=ci (ci (cr (cl M10)))
noncomputable def M14:Code:=cr M10
def bm:Frame:={(default:Frame)with fn:=45,kind:=.normal}
def Hs(kd:List UInt8):List Obj:=[lH,lH,lH,lH,lH,fz [Bb] 74,fz (iu kd) 89,fz [.chan (some 2)] 145,fz [.chan (some 3)] 146,fz [.chan (some 4)] 147]
noncomputable def tG:List Item:=[.inRegion (co (ci (cl (cr (cr MX))))) [1],.inBlock 1,.code (cr (cr (cr MX))),.inLoop MX,.inBlock 0,.code M8]
noncomputable def tG3:List Item:=[.inRegion (co (cl M8)) [1],.code M9]
noncomputable def tRR:List Item:=[.inRegion (co (cl MY)) [0,1],.code (cr MY),.inLoop MY,.inBlock 2,.code M14]
def ja(kd t:List UInt8):List UInt8:=En.six (iE.UN (En.Gq kd) (En.Gp kd) (Mk.gC t))
def SA(kd:List UInt8):pI (List UInt8)->Goroutine->World->Prop
 |.spawn k=>λg v=>((k<3/\∃x0 x1 x4 x8 x9 nz mR nd mP m4 n7 rm tI rU qw pN qa xD ym yl yj yh yg yf ye xZ xe xd,g=mL (bm.at ⟨#[x0,x1,lp 5,lp 6,x4,lp 7,lp 8,lp 9,x8,x9,nz,mR,nd,.int .i64 (k:Int),mP,.func (.func 87) #[] #[lp 7,lp 8,lp 6,lp 9],m4,n7,rm,tI,rU,qw,pN,qa,xD,ym,yl,yj,yh,yg,yf,ye,xZ,xe,xd],[]⟩ tG) [wall])∨(k=3/\∃x0 x1 x4 x8 x9 nz mR nd od mP m9 m4 rm tI rU qw pN qa xD ym yl yj yh yg yf ye xZ xe xd,g=mL (bm.at ⟨#[x0,x1,lp 5,lp 6,x4,lp 7,lp 8,lp 9,x8,x9,nz,mR,nd,od,mP,m9,m4,.func (.func 88) #[] #[lp 5,lp 7,lp 9,lp 8],rm,tI,rU,qw,pN,qa,xD,ym,yl,yj,yh,yg,yf,ye,xZ,xe,xd],[]⟩ tG3) [wall]))/\nD v (Hs kd)/\v.heap.size=10|.iq iP=>λg v=>(∃x0 x1 x4 x9 nz mR nd od mP m9 m4 n7 rm rU qw pN qa xD ym yl yj yh yg yf ye xZ xe xd,g=mL (bm.at ⟨#[x0,x1,lp 5,lp 6,x4,lp 7,lp 8,lp 9,.map (some 10),x9,nz,mR,nd,od,mP,m9,m4,n7,rm,.chan (some 3),rU,qw,pN,qa,xD,ym,yl,yj,yh,yg,yf,ye,xZ,xe,xd],[]⟩ tRR) [wall])/\nD v (Hs kd)/\mN v 11 10 (ja kd) iP/\iP.length<=1000|_=>λ_ _=>False
def SA.re{kd c g v}(h:SA kd c g v) τ n:SA kd c g (v.re τ n):=by cases c<;>exact h
def hM4:M4=.seq (cl M4) (cr M4):=rfl
def awu:cl M4=.seq (cl (cl M4)) (cr (cl M4)):=rfl
def awv:cr (cl M4)=.block 0 (ci (cr (cl M4))):=rfl
def awt:ci (cr (cl M4))=.loop MX:=rfl
def hMX:MX=.seq (cl MX) (cr MX):=rfl
def alN:cr MX=.seq (cl (cr MX)) (cr (cr MX)):=rfl
def aqR:cr (cr MX)=.seq (cl (cr (cr MX))) (cr (cr (cr MX))):=rfl
def aqQ:cl (cr (cr MX))=.block 1 (ci (cl (cr (cr MX)))):=rfl
def hM8:M8=.seq (cl M8) M9:=rfl
def hM9:M9=.seq (cl M9) M10:=rfl
def aww:M10=.seq (cl M10) M14:=rfl
def aqV:cl M10=.seq (cl (cl M10)) (cr (cl M10)):=rfl
def aqW:cr (cl M10)=.block 2 (ci (cr (cl M10))):=rfl
def aqU:ci (cr (cl M10))=.loop MY:=rfl
def hMY:MY=.seq (cl MY) (cr MY):=rfl
def aqP:cr MY=.seq (cl (cr MY)) (cr (cr MY)):=rfl
def awr:cr (cr MY)=.block 3 (ci (cr (cr MY))):=rfl
def awq:ci (cr (cr MY))=.seq (cl (ci (cr (cr MY)))) (cr (ci (cr (cr MY)))):=rfl
def aaC{P ev o w w' t m k x}(ho:o.op=.mapUpdate t m k x)(h:(Instr.mapUpdate t (ev m) (ev k) (ev x)).run P w=.ok () w'):(execOp ev o).run P w=.ok .skip w':=by unfold execOp;simp only[ho,fh,h,fi,fj]
def V8:List Value:=.string (str [])::j1
def kg(kd t:List UInt8):List Value:=.string (str (ja kd t))::gD t
def aju:V8.toArray=#[.string (str []),.string (str []),.int .u8 0,.int .u8 0,.int .u8 0,.int .u8 0,.int .u8 0,.int .u8 0,.int .u8 0,.int .u8 0,.int .u8 0,.int .u8 0,.int .u8 0,.int .u8 0,.int .u8 0,.int .u8 0,.int .u8 0,.int .u8 0,.int .u8 0,.int .u8 0,.int .u8 0,.int .u8 0,.int .u8 0,.int .u8 0,.int .u8 0,.int .u8 0,.int .u8 0,.int .u8 0,.int .u8 0,.int .u8 0,.int .u8 0,.int .u8 0,.int .u8 0,.int .u8 0]:=κ
def ahz:V8.length=34:=by unfold V8;rw[aq,je]
def Df kd t:(kg kd t).length=34:=by unfold kg;rw[aq,gQ]
def Pr kd t:(kg kd t).all (·.oneCell')=true:=by unfold kg;rw[bV,Bool.and_eq_true];exact⟨rfl,iV t⟩
def akG:(prog.info? 149).map (·.size)=some 34:=κ
section
variable{kd:List UInt8}{v:World}
def ajU(h:nD v (Hs kd))(hs:v.heap.size=10){k}(hk:k<3) x0 x1 x4 x8 x9 nz mR nd mP m9 m4 n7 rm tI rU qw pN qa xD ym yl yj yh yg yf ye xZ xe xd:jk prog (SA kd (.spawn k)) (bm.at ⟨#[x0,x1,lp 5,lp 6,x4,lp 7,lp 8,lp 9,x8,x9,nz,mR,nd,.int .i64 (k:Int),mP,m9,m4,n7,rm,tI,rU,qw,pN,qa,xD,ym,yl,yj,yh,yg,yf,ye,xZ,xe,xd],[]⟩ [.code MX,.inLoop MX,.inBlock 0,.code M8]) [wall] v:=by have HP:=η h;have HS:=η hs;clear h hs;have Tg:((k:Int)<3):=ω;refine gH hMX (ib (c':=.region _ _ _) rfl ?_);go_wp2_with fail;show jk _ _ _ _ _;refine gH alN (ix (t:=true) rfl (by simp[Act.eval,Tg]) (jz rfl (gH aqR (jf aqQ ?_))));refine m3 1 [1] rfl rfl aFK ?_;show wpList _ _ _ [_] _ _;go_wp2_with fail;exact iw ⟨.inl ⟨hk,_,_,_,_,_,_,_,_,_,_,_,_,_,_,_,_,_,_,_,_,_,_,_,_,_,_,_,_,rfl⟩,HP.o,HS.o⟩
def ajS{k g}(hk:k<3)(h:SA kd (.spawn k) g v):Term prog (SA kd (.spawn (k+1))) (ks g undef) v:=by
 obtain⟨⟨_,x0,x1,x4,x8,x9,nz,mR,nd,mP,m4,n7,rm,tI,rU,qw,pN,qa,xD,ym,yl,yj,yh,yg,yf,ye,xZ,xe,xd,rfl⟩|⟨II,_⟩,h,hs⟩:=h;case inr=>omega
 unfold tG;rw[G0 (o:=⟨none,_,_,_,_,_⟩) rfl];show Term _ _ (mL (bm.at ⟨#[x0,x1,lp 5,lp 6,x4,lp 7,lp 8,lp 9,x8,x9,nz,mR,nd,.int .i64 (k:Int),mP,.func (.func 87) #[] #[lp 7,lp 8,lp 6,lp 9],m4,n7,rm,tI,rU,qw,pN,qa,xD,ym,yl,yj,yh,yg,yf,ye,xZ,xe,xd],[]⟩ _) _) v;refine jY iy (λg w τ n (h:SA kd (.spawn (k+1)) g w)=>h.re τ n) rfl λτ n=>?_;have h:nD (v.re τ n) (Hs kd):=h;have hs:(v.re τ n).heap.size=10:=hs;generalize v.re τ n=v at h hs;have HP:=η h;have HS:=η hs;clear h hs;have hw:wrap64 ((k:Int)+1)=((k+1:Nat):Int):=by unfold wrap64;omega
 refine Tp.iS (Tp.lU (ib (c':=.region _ _ _) rfl ?_));go_wp2_with fail;show jk _ _ _ _ _;refine Tp.mM ?_;by_cases BN:k<2;first|rw[hw]|skip
 exact ajU (k:=k+1) HP.o HS.o ω _ _ _ _ _ _ _ _ _ _ _ _ _ _ _ _ _ _ _ _ _ _ _ _ _ _ _ _ _;obtain rfl:k=2:=by omega
 refine gH hMX (ib (c':=.region _ _ _) rfl ?_);go_wp2_with fail;show jk _ _ _ _ _;refine gH alN (ix (t:=false) rfl (by simp[Act.eval]) (n5 rfl rfl ?_));refine gH hM8 (m3 1 [1] rfl rfl aFK ?_);show wpList _ _ _ [_] _ _;go_wp2_with fail;exact iw ⟨.inr ⟨rfl,_,_,_,_,_,_,_,_,_,_,_,_,_,_,_,_,_,_,_,_,_,_,_,_,_,_,_,_,_,rfl⟩,HP.o,HS.o⟩
def UR(h:nD v (Hs kd)){iP:List (List UInt8)}(ho:mN v 11 10 (ja kd) iP)(hn:iP.length<=1000)(x0 x1 x4 x9 nz mR nd od mP m9 m4 n7 rm rU qw pN qa xD ym yl yj yh yg yf ye xZ xe xd:Value):jk prog (SA kd (.iq iP)) (bm.at ⟨#[x0,x1,lp 5,lp 6,x4,lp 7,lp 8,lp 9,.map (some 10),x9,nz,mR,nd,od,mP,m9,m4,n7,rm,.chan (some 3),rU,qw,pN,qa,xD,ym,yl,yj,yh,yg,yf,ye,xZ,xe,xd],[]⟩ [.code MY,.inLoop MY,.inBlock 2,.code M14]) [wall] v:=by refine gH hMY ?_;refine Ci (s:=0) (r:=[0,1]) rfl rfl ?_;show jk _ _ _ _ _;exact iw ⟨⟨_,_,_,_,_,_,_,_,_,_,_,_,_,_,_,_,_,_,_,_,_,_,_,_,_,_,_,_,rfl⟩,h,ho,hn⟩
def aom{g}(h:SA kd (.spawn 3) g v):Term prog (SA kd (.iq [])) (ks g undef) v:=by
 obtain⟨⟨hk,_⟩|⟨_,x0,x1,x4,x8,x9,nz,mR,nd,od,mP,m9,m4,rm,tI,rU,qw,pN,qa,xD,ym,yl,yj,yh,yg,yf,ye,xZ,xe,xd,rfl⟩,h,hs⟩:=h;case inl=>omega
 unfold tG3;rw[G0 (o:=⟨none,_,_,_,_,_⟩) rfl];show Term _ _ (mL (bm.at ⟨#[x0,x1,lp 5,lp 6,x4,lp 7,lp 8,lp 9,x8,x9,nz,mR,nd,od,mP,m9,m4,.func (.func 88) #[] #[lp 5,lp 7,lp 9,lp 8],rm,tI,rU,qw,pN,qa,xD,ym,yl,yj,yh,yg,yf,ye,xZ,xe,xd],[]⟩ _) _) v;refine jY iy (λg w τ n (h:SA kd (.iq []) g w)=>h.re τ n) rfl λτ n=>?_;have h:nD (v.re τ n) (Hs kd):=h;have hs:(v.re τ n).heap.size=10:=hs;generalize v.re τ n=v at h hs;have HP:=η h;have HS:=η hs;clear h hs;have hmm:=@run_makeMap prog;refine Tp.iS (gH hM9 (ib (c':=.region _ _ _) rfl ?_));go_wp2_with fail;show jk _ _ (bm.at ⟨#[_,_,_,_,_,_,_,_,.map (some v.heap.size),_,_,_,_,_,_,_,_,_,_,_,_,_,_,_,_,_,_,_,_,_,_,_,_,_,_],[]⟩ _) _ _;rw[HS.o];have h1:nD (v.alloc (.map #[] 0)) (Hs kd):=HP.o.alloc _;have O1:mN (v.alloc (.map #[] 0)) 11 10 (ja kd) []:=mN.nil _ _ _ _ (by rw[<-HS.o];exact(MapKept.heap_alloc v _).1);have H1:=η h1;have H2:=η O1;clear HP HS hmm h1 O1;generalize v.alloc _=v1 at H1 H2|-;have l8:v1.cell? ⟨8,0,none⟩=some (.chan (some 3)):=H1.o.row (i:=8) rfl 0;refine gH aww (gH aqV (ib (c':=.region _ _ _) rfl ?_));go_wp2_with fail;show jk _ _ _ _ _;refine jf aqW (nZ aqU ?_);exact UR H1.o H2.o ζ _ _ _ _ _ _ _ _ _ _ _ _ _ _ _ _ _ _ _ _ _ _ _ _ _ _ _ _
def s_tail{t s iP w4 A Z es clock K}(hn:(t::iP).length<=1000)(hs:ja kd t=s)(hP:nD w4 (Hs kd))(hR:Row w4 A (kg kd t)) (hK:Slot w4 11 10 (ja kd) iP s es clock K) (gV:∀g,(tO K s).ownBlock=some g->g<A) (hZ:Row w4 Z (gD t)) (hZs:w4.heap.size=Z+1) x0 x1 x4 nz mR nd od mP m9 m4 n7 rm xe xd:wpAnyH prog .any (co (cr (ci (cr (cr MY))))) (Tp.uH λa' w'=>jk prog (SA kd (.iq (t::iP))) (bm.at a' [.inBlock 3,.inLoop MY,.inBlock 2,.code M14]) [wall] w') (gI.cls λu=>Row u A (kg kd t)) 2 #[true,true,true,true,true,true,true,true,true,true,false,false] ⟨#[x0,x1,lp 5,lp 6,x4,lp 7,lp 8,lp 9,.map (some 10),.pointer (some ⟨A,0,none⟩),nz,mR,nd,od,mP,m9,m4,n7,rm,.chan (some 3),.tuple #[.agg (kg kd t).toArray,.bool true],.bool true,.agg (kg kd t).toArray,.map (some 10),.pointer (some ⟨A,0,none⟩),.string (str s),.map (some 10),.pointer (some ⟨A,0,none⟩),.string (str s),tO K s,.pointer (some ⟨A,1,none⟩),Mi t,.slice (some ⟨Z,0,none⟩) 1 1,xe,xd],[]⟩ w4:=by
 obtain⟨i0,kV,mJ,mC,kS⟩:=fy El;have HI:=η kV;have HP:=η hP;have HK:=η hK;have HR:=η hR;have HZ:=η hZ;have HE:=η hs;have hO:=hK.own;have Ia:(na (ja kd) iP s).length<=1000:=ak (List.length_filter_le _ _) (by simp at hn|-;omega);have hcz:∀(j:Nat)(u:Value),(gD t)[j]? =some u->w4.cell? ((⟨Z,0,none⟩:Addr).add j)=some u:=λj u hu=>by rw[fJ,aC,hZ.cell];exact hu
 have h10:10<w4.heap.size:=(ae.1 hK.at_).1;have hAz:=hR.lt;clear kV hP hK hR hZ hs;show wpAnyH _ _ #[_,_,_,_,_,_,_,_,_,_,_,_] _ _ _ _ _ _;refine gI.one 10 _ κ rfl rfl ?_;refine fY _ (o:=⟨some 33,_,_,_,_,_⟩) rfl _ _ 42 rfl 11 78 i0 (.agg j1.toArray) 33 48 fT HI.o mJ mC kS aIO ψ _ _ _ rfl hO ⟨Z,0,none⟩ 1 1 (gD t) rfl aGK hcz (λu hu=>List.all_eq_true.1 (iV t) u hu) ι ω ω ?_;intro v5 w5 kU so _ oN;go_frame;go_wp2_with fail;have aiU:∀g,(tO K s).ownBlock=some g->11<=g:=λg hg=>(hO.lt g hg).1;have k10:w5.heap[10]? =w4.heap[10]?:=so.block 10 h10 (λe=>by have:=aiU _ e.symm;omega);have kA:w5.heap[A]? =w4.heap[A]?:=so.block A hAz (λe=>by have:=gV _ e.symm;omega);have R5:Row w5 A (kg kd t):=by obtain⟨T,hT⟩:=HR.o;exact⟨T,kA.trans hT⟩
 refine⟨gI.gF R5,?_⟩;have P5:nD w5 (Hs kd):=HP.o.keep λb hb=>so.block b (ay hb HP.o.le) (λe=>by have:=aiU _ e.symm;have:b<10:=hb;omega);obtain⟨nM,rh,hu,IL⟩:=afN (w:=w5) (m:=10) (K:=K) (k10.trans HK.o.at_) HK.o.key s v5;have OUT:mN {w5 with heap:=w5.heap.setIfInBounds 10 (.map nM rh)} 11 10 (ja kd) (t::iP):=by
  have hKt:Slot w4 11 10 (ja kd) iP (ja kd t) es clock K:=by rw[HE.o];exact HK.o
  have hee:s=ja kd t:=HE.o.symm;rw[hee]at so kU oN IL;exact hKt.put so kU (oN.imp id λe=>⟨_,e,ν⟩) IL
 have aEg:10<w5.heap.size:=ay h10 so.size;have P6:nD {w5 with heap:=w5.heap.setIfInBounds 10 (.map nM rh)} (Hs kd):=P5.keep λb hb=>by have:b<10:=hb;show(w5.heap.setIfInBounds 10 _)[b]? =_;rw[ah ω]
 have aw6:A≠10:=λe=>by subst e;obtain⟨T,hT⟩:=HR.o;rw[HK.o.at_]at hT;cases hT
 have R6:Row {w5 with heap:=w5.heap.setIfInBounds 10 (.map nM rh)} A (kg kd t):=by obtain⟨T,hT⟩:=R5;exact⟨T,by show(w5.heap.setIfInBounds 10 _)[A]? =_;rw[ah (aG aw6)];exact hT⟩
 refine gI.one 11 _ κ rfl rfl ?_;refine JL (o:=⟨none,.mapUpdate 101 (.tmp 23) (.tmp 25) (.tmp 33),_,_,_,_⟩) rfl (aaC rfl hu) ?_;go_wp2_with fail;refine⟨gI.gF R6,?_⟩;refine fg κ ?_ 0;show jk _ _ _ _ _;refine Tp.lU (Tp.mM ?_);exact UR P6 OUT hn _ _ _ _ _ _ _ _ _ _ _ _ _ _ _ _ _ _ _ _ _ _ _ _ _ _ _ _
def ajT{t iP g}(hn:(t::iP).length<=1000)(h:SA kd (.iq iP) g v):Term prog (SA kd (.iq (t::iP))) (Go.Conc.served g (.tuple #[.agg (kg kd t).toArray,.bool true])) v:=by
 obtain⟨⟨x0,x1,x4,x9,nz,mR,nd,od,mP,m9,m4,n7,rm,rU,qw,pN,qa,xD,ym,yl,yj,yh,yg,yf,ye,xZ,xe,xd,rfl⟩,h,ho,_⟩:=h;unfold tRR;rw[nR (o:=⟨some 20,_,_,_,_,_⟩) rfl];show Term _ _ (mL (bm.at ⟨#[x0,x1,lp 5,lp 6,x4,lp 7,lp 8,lp 9,.map (some 10),x9,nz,mR,nd,od,mP,m9,m4,n7,rm,.chan (some 3),.tuple #[.agg (kg kd t).toArray,.bool true],qw,pN,qa,xD,ym,yl,yj,yh,yg,yf,ye,xZ,xe,xd],[]⟩ _) _) v;refine jY iy (λg w τ n (h:SA kd (.iq (t::iP)) g w)=>h.re τ n) rfl λτ n=>?_;have h:nD (v.re τ n) (Hs kd):=h;have ho:mN (v.re τ n) 11 10 (ja kd) iP:=ho;generalize v.re τ n=v at h ho;refine Tp.o8 (o:=⟨some 21,_,_,_,_,_⟩) (v:=.bool true) rfl rfl rfl ?_;show jk _ _ (bm.at ⟨#[x0,x1,lp 5,lp 6,x4,lp 7,lp 8,lp 9,.map (some 10),x9,nz,mR,nd,od,mP,m9,m4,n7,rm,.chan (some 3),.tuple #[.agg (kg kd t).toArray,.bool true],.bool true,pN,qa,xD,ym,yl,yj,yh,yg,yf,ye,xZ,xe,xd],[]⟩ _) _ _;refine Tp.iS (gH aqP (ix (t:=true) rfl rfl (jz rfl (jf awr (gH awq ?_)))));obtain⟨es,clock,K,hK⟩:=ho.slot (ja kd t);have gV:∀g,(tO K (ja kd t)).ownBlock=some g->g<v.heap.size:=λg hg=>(hK.own.lt g hg).2;have h10:10<v.heap.size:=(ae.1 hK.at_).1;have r1:Row (v.alloc (.cells V8.toArray 149)) v.heap.size V8:=Row.new v V8 149;have hB:Below v.heap.size v (v.alloc (.cells V8.toArray 149)):=(Below.refl _ _).alloc ν _;have B1:=η (below_setRow hB ν (kg kd t).toArray);have H2:=r1.setRow (kg kd t);rw[aju]at r1 hB B1 H2;have H1:=r1;have HP:=η h;have HK:=η hK;have HLT:=η gV;clear r1 hB h ho hK gV;refine ib (c':=.region _ _ _) rfl ?_;go_wp2_with (with_reducible refine gJ (o:=⟨none,_,_,_,_,_⟩) rfl _ _ _ rfl v.heap.size V8 (kg kd t) rfl rfl H1 (akG.trans (by rw[Df])) (by rw[Df,ahz]) (Pr kd t) ?_);clear H1;have P2:nD _ (Hs kd):=HP.o.below B1.o HP.o.le;have K2:Slot _ 11 10 (ja kd) iP (ja kd t) es clock K:=HK.o.below B1.o ν;obtain⟨A,hA⟩:∃A,v.heap.size=A:=⟨_,rfl⟩;rw[hA]at B1 H2 P2 K2 h10 HLT|-;clear B1 HP HK hA;generalize World.setRow _ A (kg kd t).toArray=w2 at H2 P2 K2|-;obtain⟨s,hs⟩:∃s,ja kd t=s:=⟨_,rfl⟩;rw[hs]at K2 HLT;have Av:∀u:gI.Of (λu=>Row u A (kg kd t)),u.w.cell? ⟨A,0,none⟩=some (.string (str s)):=λu=>by rw[u.h.cell,<-hs];rfl
 haveI iZ:Nonempty (gI.Of (λu=>Row u A (kg kd t))):=⟨⟨w2,H2⟩⟩;have HK2:=η K2;have HP2:=η P2;have HE:=η hs;clear K2 P2 hs;show jk _ _ _ _ _;refine ib (c':=.region _ _ _) rfl ?_;refine gI.jl [0,1,2,3,4,5,7,8] 4 mixed κ rfl rfl aGj ξ rfl (λu=>Row u A (kg kd t)) H2 ?_;show wpQuiet _ _ _ _ [_,_,_,_,_,_,_,_] _;iterate 7 (go_big_quiet_step (fail))
 refine Mp.Ft (o:=⟨some 31,_,_,_,_,_⟩) rfl _ rfl A 1 t rfl (λw hw=>by obtain⟨u,rfl⟩:=hw;exact λj x hx=>by rw[u.h.cell];show(Value.string (str (ja kd t))::gD t)[1+j]? =_;rw[dR];exact hx) ?_;go_frame;refine fe ?_;have K3:Slot w2.drew 11 10 (ja kd) iP s es clock K:=HK2.o.below (w':=w2.drew) (C:=w2.heap.size) ⟨rfl,rfl,rfl,ν,λ_ _=>rfl⟩ ν;have P3:nD w2.drew (Hs kd):=HP2.o;have R3:Row w2.drew A (kg kd t):=H2;clear H2 HK2 HP2;show wpAnyH _ _ _ _ _ _ _ _ w2.drew;generalize w2.drew=w3 at R3 K3 P3|-;have hAl:=R3.lt;have B4:Below w3.heap.size w3 (w3.alloc (.cells (gD t).toArray 78)):=(Below.refl _ _).alloc ν _;have R4:=R3.alloc (.cells (gD t).toArray 78);have Z4:Row (w3.alloc (.cells (gD t).toArray 78)) w3.heap.size (gD t):=Row.new w3 (gD t) _;have z4:(w3.alloc (.cells (gD t).toArray 78)).heap.size=w3.heap.size+1:=ζ;have K4:=K3.below B4 ν;have P4:=P3.below B4 P3.le;have L3:=η (Gl K3.at_ K3.key s);have L4:=η (Gl K4.at_ K4.key s);have HK4:=η K4;have HP4:=η P4;have HR3:=η R3;have HR4:=η R4;have HZ4:=η Z4;clear B4 R3 R4 Z4 K3 K4 P3 P4;refine gI.two 6 9 _ _ κ rfl rfl rfl rfl ?_ ?_
 ·refine qV (o:=⟨some 29,.lookup 101 (.tmp 26) (.tmp 28) false,_,_,_,_⟩) rfl (v:=tO K s) (w':=w3) (gI.uk rfl L3.o) ?_;try go_frame
  go_wp2_with fail;refine⟨gI.gF HR3.o,?_⟩;refine gI.one 9 _ κ rfl rfl ?_
  try go_frame
  refine qI (o:=⟨some 32,_,_,_,_,_⟩) rfl _ rfl t rfl ?_;go_frame;exact t071
 refine qI (o:=⟨some 32,_,_,_,_,_⟩) rfl _ rfl t rfl ?_;try go_frame
 go_wp2_with fail;refine⟨gI.gF HR4.o,?_⟩;refine gI.one 6 _ κ rfl rfl ?_
 refine qV (o:=⟨some 29,.lookup 101 (.tmp 26) (.tmp 28) false,_,_,_,_⟩) rfl (v:=tO K s) (w':=w3.alloc _) (gI.uk rfl L4.o) ?_;try go_frame
 exact t071
end
end Ph
