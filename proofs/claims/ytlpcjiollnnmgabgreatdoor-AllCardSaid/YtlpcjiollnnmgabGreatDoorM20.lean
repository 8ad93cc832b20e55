import Derived.Test.YtlpcjiollnnmgabGreatDoorM15
import Derived.Test.YtlpcjiollnnmgabGreatDoorM18
set_option maxRecDepth 100000
set_option maxHeartbeats 8000000
set_option linter.all false
namespace Go.Proofs.YtlpcjiollnnmgabGreatDoor
open Go.Proofs.Tryz
section
open iz
open Go.RowKit
namespace Ao
def pick(c n:Int):Int:=(if c<0 then -(c+1)else c) % n
def agl c n(h:0<n):0<=pick c n/\pick c n<n:=by unfold pick;exact⟨Int.emod_nonneg _ ω,Int.emod_lt_of_pos _ h⟩
end Ao
namespace Ao
def arw(Yd k:Int):Int:=wrap64 (wrap64 (Yd*(k+7))+wrap64 (k*k))+wrap64 (wrap64 (Yd.tdiv 256)*(k+1))
def toY(y:Int):UInt8:=UInt8.ofNat (y % 256).toNat
def arB y:Y (toY y)=y % 256:=by unfold toY Y;rw[cK];omega
def axd z:wrap64 z % 256=Y (toY z):=by rw[arB];unfold wrap64;omega
def byte(Yd:Int)(k:Nat):UInt8:=toY (arw Yd k)
def bytes(n:Nat)(Yd:Int):List UInt8:=(List.range n).map (byte Yd)
end Ao
section
attribute [local go_sem high] Ao.axd
end
def Oi c n w(h0:0<n)(h1:n<9223372036854775808)(hc: -9223372036854775808<=c/\c<9223372036854775808):Calls prog 55 #[.int .i64 c,.int .i64 n] w λe w'=>e=.returned (.int .i64 (Ao.pick c n))/\w'=w:=by
 unfold Ao.pick;have hn:n≠0:=ω;by_cases gV:c<0
 ·rw[if_pos gV];have e1:IntKind.i64.wrap (c+1)=c+1:=fF _ ω;have e2:IntKind.i64.wrap (-(c+1))= -(c+1):=fF _ ω;go_enter func55,ntmps55;go_wp2_with fail;go_ret;have e3: -(c+1).tmod n= -(c+1) % n:=by rw[<-Int.neg_tmod,df ω]
  exact⟨by rw[<-e3];rfl,rfl⟩
 rw[if_neg gV];go_enter func55,ntmps55;exact t0116
namespace Lw
structure Op where
 k:Int
 a:Int
 s:List UInt8
def Op.ok(o:Op):Prop:=(-9223372036854775808<=o.k/\o.k<9223372036854775808)/\(-9223372036854775808<=o.a/\o.a<9223372036854775808)/\o.s.length<=140737488355328
instance:Inhabited Op:=⟨⟨0,0,[]⟩⟩
def wj(w:World)(v:Value)(ol:List Op):Prop:=(∃a cap,v=.slice a 0 cap/\ol=[])∨∃b o cap,v=.slice (some ⟨b,o,none⟩) ol.length cap/\b<w.heap.size/\∀j,j<ol.length->w.cell? ⟨b,o+j*3,none⟩=some (.int .i64 (ol.getD j default).k)/\w.cell? ⟨b,o+j*3+1,none⟩=some (.int .i64 (ol.getD j default).a)/\w.cell? ⟨b,o+j*3+2,none⟩=some (.string (str (ol.getD j default).s))
def wj.form{w v ol}(h:wj w v ol):∃a cap,v=.slice a ol.length cap:=by exact t097
theorem wj.at{w a n cap ol}(h:wj w (.slice a n cap) ol)(hn:0<ol.length):∃b o,a=some ⟨b,o,none⟩/\b<w.heap.size/\∀j,j<ol.length->w.cell? ⟨b,o+j*3,none⟩=some (.int .i64 (ol.getD j default).k)/\w.cell? ⟨b,o+j*3+1,none⟩=some (.int .i64 (ol.getD j default).a)/\w.cell? ⟨b,o+j*3+2,none⟩=some (.string (str (ol.getD j default).s)):=by rcases h with⟨a',Cc,h1,rfl⟩|⟨b,o,Cc,h1,hb,hc⟩;simp at hn;cases h1;exact⟨b,o,rfl,hb,hc⟩
def UG(ol:List Op)(j:Nat):Nat:=ol.length+((ol.take j).map λo=>o.s.length).sum
def aaS ol j(h:j<ol.length):UG ol (j+1)=UG ol j+(ol.getD j default).s.length:=by unfold UG;rw[ax h,cP,List.sum_append,ab,ag h];simp;omega
def afX ol:∀o∈ol,o.s.length<=UG ol ol.length:=λo ho=>by
 unfold UG;rw[ec];have:∀l:List Op,o∈l->o.s.length<=(l.map λo=>o.s.length).sum:=λl hl=>by
  induction l with
  |nil=>cases hl
  |cons x l ih=>rw[List.map_cons,List.sum_cons];rcases List.mem_cons.1 hl with rfl|hl;omega;have:=ih hl;omega
 have:=this ol ho;omega
def mk(k:Nat):List UInt8:=[109,105,110,101,UInt8.ofNat k,UInt8.ofNat (k/256),UInt8.ofNat (k/65536)]
end Lw
def aiw v ol w(h:Lw.wj w v ol)(jo:∀o∈ol,o.ok)(hlen:ol.length<=140737488355328):Calls prog 11 #[v] w λe w'=>(∃b,e=.returned (.bool b)/\(b=true->ol.length<=1048576/\∀o∈ol,o.s.length<=1048576))/\Below w.heap.size w w':=by
 obtain⟨oa,oc,rfl⟩:=h.form;have HO:=η h;have HK:=η jo;clear h jo;go_enter func11,ntmps11;go_wp2_with fail;go_loopw [3,10] (λnv iv wr=>∃j:Nat,j<=ol.length/\iv=.int .i64 j/\nv=.int .i64 (Lw.UG ol j:Nat)/\(0<j->Lw.UG ol j<=1048576)/\Below w.heap.size w wr) (λ_ iv _=>ol.length-(intOf iv).toNat)
 exact⟨0,by omega,rfl,by simp[Lw.UG],λh=>by omega,Below.refl _ _⟩;obtain⟨j,hj,rfl,rfl,hle,hB⟩:=hrel;have HB:=η hB;have HL:=η hle;have ql:=hB.size;clear hB hle;by_cases gV:j<ol.length
 ·have p1:(j:Int)< (ol.length:Int):=by omega
  obtain⟨b,o,rfl,hb,hc⟩:=HO.o.at ω;obtain⟨c0,c1,c2⟩:=hc j gV;have jo:=HK.o (ol.getD j default) aFX;have d0:=(fb (w:=w) (HB.o.block b hb)).trans c0;have d1:=(fb (w:=w) (HB.o.block b hb)).trans c1;have d2:=(fb (w:=w) (HB.o.block b hb)).trans c2;have HT:=η (Lw.aaS ol j gV);have BJ:(ol.getD j default).s.length<=140737488355328:=jo.2.2;have Qg:Lw.UG ol j<=140737488355328:=by
   by_cases h0:0<j;have:=HL.o h0;omega;obtain rfl:j=0:=by omega
   simp[Lw.UG];omega
  generalize(ol.getD j default).k=x0 at d0;generalize(ol.getD j default).a=x1 at d1;generalize(ol.getD j default).s=x2 at d2 HT BJ;obtain⟨T,hT⟩:∃T,Lw.UG ol j=T:=⟨_,rfl⟩;rw[hT]at HT Qg HL|-;clear hc c0 c1 c2 jo hb;by_cases aC1:T+x2.length>1048576
  ·have p2:(T:Int)+(x2.length:Int)>1048576:=by omega
   clear hT;go_wp2_with fail;go_ret;exact⟨⟨false,rfl,(λh=>by cases h)⟩,HB.o.alloc ql _⟩
  have p2:¬(T:Int)+(x2.length:Int)>1048576:=by omega
  clear hT;go_wp2_with fail;go_roundw
  ·exact⟨j+1,by omega,by go_num,by rw[HT.o];go_num,λ_=>by rw[HT.o];omega,HB.o.alloc ql _⟩
  simp[intOf];omega
 obtain rfl:j=ol.length:=by omega
 have HA:=η (Lw.afX ol);have H0:Hid (ol.length<=Lw.UG ol ol.length):=η (by unfold Lw.UG;omega);go_wp2_with fail;go_ret;refine⟨⟨_,rfl,λh=>?_⟩,HB.o⟩
 have h':Lw.UG ol ol.length<=1048576:=by have:=of_decide_eq_true h;omega
 exact⟨ak H0.o h',λo ho=>ak (HA.o o ho) h'⟩
def Gg(k:Nat) w(hk:k<9223372036854775808):Calls prog 65 #[.int .i64 k] w λe w'=>e=.returned (.string (str (Lw.mk k)))/\Below w.heap.size w w':=by
 unfold Lw.mk;have e1:(k:Int) / 256=((k/256:Nat):Int):=ω;have e2:(k:Int) / 65536=((k/65536:Nat):Int):=ω;have h2:k/256<9223372036854775808:=ω;have h3:k/65536<9223372036854775808:=ω;generalize k/256=k2 at e1 h2|-;generalize k/65536=k3 at e2 h3|-;have hB:Bytes (w.alloc (.cells (w8 [UInt8.ofNat k,UInt8.ofNat k2,UInt8.ofNat k3]).toArray 5)) w.heap.size 0 [UInt8.ofNat k,UInt8.ofNat k2,UInt8.ofNat k3]:=(Row.new w (w8 [UInt8.ofNat k,UInt8.ofNat k2,UInt8.ofNat k3]) 5).bytes;have hB':Bytes (w.alloc (.cells #[.int .u8 (Y (UInt8.ofNat k)),.int .u8 (Y (UInt8.ofNat k2)),.int .u8 (Y (UInt8.ofNat k3))] 5)) w.heap.size 0 [UInt8.ofNat k,UInt8.ofNat k2,UInt8.ofNat k3]:=hB;clear hB;go_enter func65,ntmps65;go_wp2_with (with_reducible refine tF (o:=⟨some 12,_,_,_,_,_⟩) rfl _ _ _ _ rfl w.heap.size 0 3 3 [UInt8.ofNat k,UInt8.ofNat k2,UInt8.ofNat k3] rfl rfl fq fu fp hB' ?_)
 go_ret;exact⟨rfl,(Below.refl _ _).alloc ν _⟩
def ajR va vb l w(ha:n6 w va l)(hb:n6 w vb l)(hl:l.length<=9223372036854775807):Calls prog 60 #[va,vb] w λe w'=>e=.returned (.bool true)/\Below w.heap.size w w':=by
 have HA:=η ha;have HB:=η hb;obtain⟨aa,ac,rfl⟩:∃a c,va=.slice a l.length c:=by rcases ha with⟨a,c,rfl,rfl⟩|⟨b,o,c,rfl,_⟩;exact⟨a,c,rfl⟩;exact⟨_,c,rfl⟩
 obtain⟨ba,bc,rfl⟩:∃a c,vb=.slice a l.length c:=by rcases hb with⟨a,c,rfl,rfl⟩|⟨b,o,c,rfl,_⟩;exact⟨a,c,rfl⟩;exact⟨_,c,rfl⟩
 clear ha hb;go_enter func60,ntmps60;go_wp2_with fail;go_loopw [13] (λiv wr=>∃j:Nat,j<=l.length/\iv=.int .i64 j/\Below w.heap.size w wr) (λiv _=>l.length-(intOf iv).toNat)
 exact⟨0,by omega,rfl,Below.refl _ _⟩;obtain⟨j,hj,rfl,hB⟩:=hrel;have HW:=η hB;clear hB;by_cases gV:j<l.length
 ·have p1:(j:Int)< (l.length:Int):=by omega
  have p0:(0:Int)<=(j:Int):=ω;obtain⟨b1,o1,c1,h1,m0,Mq⟩:=n6.open HA.o ω;obtain⟨b2,o2,c2,h2,kD,Qj⟩:=n6.open HB.o ω;cases h1;cases h2;have d1:=(fb (w:=w) (HW.o.block b1 m0)).trans (Mq j gV);have d2:=(fb (w:=w) (HW.o.block b2 kD)).trans (Qj j gV);generalize l.getD j []=x at d1 d2;clear Mq Qj m0 kD;go_upto_region 6 with fail
  go_quiet (fail)
  go_wp2_with fail;go_roundw
  ·exact⟨j+1,by omega,by go_num,fE HW.o _⟩
  simp[intOf];omega
 obtain rfl:j=l.length:=by omega
 go_wp2_with fail;go_ret;exact⟨rfl,HW.o⟩
end
def t039{p:Prop}(h:p:=by refine⟨ho.1,?_⟩;rcases ho.2 with h1|⟨g,cap,cur,rfl,h1,h2,h3⟩;exact .inl h1;obtain⟨h4,h5⟩:=hb g rfl;exact .inr ⟨g,cap,cur,rfl,h1,by rw[h.block g h4 h5];exact h2,h3⟩):p:=h
section
open iz
open Go.RowKit
namespace Lw
structure Fr(B:Nat)(S:Nat->Prop)(w w':World):Prop where
 os:w'.os=w.os
 tape:w'.tape=w.tape
 output:w'.output=w.output
 size:w.heap.size<=w'.heap.size
 block:∀k,k<B->¬S k->w'.heap[k]? =w.heap[k]?
namespace Fr
variable{B:Nat}{S:Nat->Prop}{w w':World}
def refl B S w:Fr B S w w:=⟨rfl,rfl,rfl,ν,λ_ _ _=>rfl⟩
theorem trans{tK}(h:Fr B S w w')(k:Fr B S w' tK):Fr B S w tK:=⟨k.os.trans h.os,k.tape.trans h.tape,k.output.trans h.output,ak h.size k.size,λi hi hs=>(k.block i hi hs).trans (h.block i hi hs)⟩
def gL(h:Below B w w'):Fr B S w w':=⟨h.os,h.tape,h.output,h.size,λk hk _=>h.block k hk⟩
def lG{s}(h:iL B s w w')(hs:S s∨B<=s):Fr B S w w':=⟨h.os,h.tape,h.output,h.size,λk hk hn=>h.block k hk (λe=>by subst e;rcases hs with hs|hs<;>first|exact hn hs|omega)⟩
def mono{B' S'}(h:Fr B S w w')(hB:B'<=B)(hS:∀k,k<B'->S k->S' k):Fr B' S' w w':=⟨h.os,h.tape,h.output,h.size,λk hk hs=>h.block k ω (λhn=>hs (hS k hk hn))⟩
theorem alloc(h:Fr B S w w')(hB:B<=w'.heap.size) o:Fr B S w (w'.alloc o):=h.trans (gL ((Below.refl _ _).alloc hB o))
theorem setCell(h:Fr B S w w'){a}(ha:S a.block∨B<=a.block) v:Fr B S w (w'.setCell a v):=h.trans ⟨rfl,rfl,rfl,by simp[World.setCell],λk hk hs=>ft _ _ _ _ (λe=>by subst e;rcases ha with ha|ha<;>first|exact hs ha|omega)⟩
def grown{tK row}(h:Fr B S w w')(hg:w'.grownBy tK row)(hB:B<=w'.heap.size)(hr:∀g,row=some g->S g∨B<=g):Fr B S w tK:=h.trans ⟨hg.os,hg.tape,hg.output,hg.size,λk hk hs=>hg.block k ω (λe=>by rcases hr k e.symm with h1|h1<;>first|exact hs h1|omega)⟩
def row{b l}(h:Fr B S w w')(hr:Row w b l)(hb:b<B)(hs:¬S b):Row w' b l:=by obtain⟨T,hr⟩:=hr;exact⟨T,by rw[h.block b hb hs];exact hr⟩
def own{C n e z v xs}(h:Fr B S w w')(ho:w.ownsRow C e z v n xs)(hb:∀g,v.ownBlock=some g->g<B/\¬S g):w'.ownsRow C e z v n xs:=by exact t039
def below(h:Fr B S w w'){B'}(hB:B'<=B)(hS:∀k,S k->B'<=k):Below B' w w':=⟨h.os,h.tape,h.output,h.size,λk hk=>h.block k ω (λhn=>by have:=hS k hn;omega)⟩
end Fr
def akE:(prog.info? 28).map (λi=>(i.zero,i.size,i.bytes))=some (some (.slice none 0 0),1,24):=κ
def wc(t:Nat)(mh lP:Value):List Value:=[.pointer (some ⟨t,0,none⟩),mh,lP,.bool false]
def XV(l:List (List UInt8)) m j(h:j<l.length):(List.replicate j m++l.drop j).set j m=List.replicate (j+1) m++l.drop (j+1):=by rw[da _ _ ζ];simp only[bD,bh];rw[bo h,dA,dc,aL];rfl
end Lw
open Lw
def akv Wb t Bl Bs mh lP lv l ls w(hW:Row w Wb (wc t mh lP))(hl:w.ownsRow Bl 9 1 lv l.length (wt l))(hs:w.ownsRow Bs 28 1 lP ls.length ls) (h1:∀g,lv.ownBlock=some g->g≠Wb) (h2:∀g,lP.ownBlock=some g->g≠Wb) (h3:∀g,lv.ownBlock=some g->lP.ownBlock≠some g) (h20:l.length<=1000) (hn:ls.length<=4194304) (Ep:Bl<=w.heap.size) (Mt:Bs<=w.heap.size):Calls prog 62 #[.pointer (some ⟨Wb,0,none⟩),lv] w λe w'=>e=.returned (.tuple #[])/\∃lv' sj,Row w' Wb (wc t mh sj)/\w'.ownsRow Bl 9 1 lv' (l.length+2) (wt (List.replicate (l.length+2) (mk ls.length)))/\w'.ownsRow Bs 28 1 sj (ls.length+1) (ls++[lv'])/\(lv'.ownBlock=lv.ownBlock∨∃g,lv'.ownBlock=some g/\w.heap.size<=g)/\(sj.ownBlock=lP.ownBlock∨∃g,sj.ownBlock=some g/\w.heap.size<=g)/\(∀g,lv'.ownBlock=some g->sj.ownBlock≠some g)/\Fr w.heap.size (λk=>k=Wb∨lv.ownBlock=some k∨lP.ownBlock=some k) w w':=by
 have HW:=η hW;have HL:=η hl;have HS:=η hs;have H1:=η h1;have H2:=η h2;have H3:=η h3;have hWl:=hW.lt;obtain⟨la,lc,rfl⟩:=jB hl;obtain⟨sa,sc,rfl⟩:=jB hs;have pM:w.cell? ⟨Wb,2,none⟩=some (.slice sa ls.length sc):=hW.cell 2;have T1:=η (Gg ls.length w ω);clear hW hl hs h1 h2 h3;go_enter func62,ntmps62;go_wp2_with fail;refine T1.o.mono ?_;clear T1 pM;rintro e w1⟨rfl,m0⟩;have B1:=η m0;have L1:=η (gM HL.o m0 ν);have mC:=m0.size;clear m0;obtain⟨m,hm⟩:∃m,mk ls.length=m:=⟨_,rfl⟩;rw[hm];have HM:=η hm;clear hm;go_wp2_with fail;go_loopw [5,15] (λ_ iv wr=>∃j:Nat,j<=l.length/\iv=.int .i64 j/\wr.ownsRow Bl 9 1 (.slice la l.length lc) l.length (wt (List.replicate j m++l.drop j))/\Fr w1.heap.size (λk=>(Value.slice la l.length lc).ownBlock=some k) w1 wr) (λ_ iv _=>l.length-(intOf iv).toNat)
 exact⟨0,by omega,rfl,by simpa using L1.o,Fr.refl _ _ _⟩;obtain⟨j,hj,rfl,iB,hF⟩:=hrel;have HF:=η hF;have HO:=η iB;have ql:=hF.size;clear iB hF;by_cases gV:j<l.length
 ·have p1:(j:Int)< (l.length:Int):=by omega
  have hln:(List.replicate j m++l.drop j).length=l.length:=aFJ;obtain⟨g,cap,hv,hg,np⟩:=Rp.Ek HO.o (by rw[hln]) ω;cases hv;have hc:=np j ω;have ig:=World.ownsRow.stored HO.o j (.string (str m));have HT:Hid ((wt (List.replicate j m++l.drop j)).set j (.string (str m))=wt (List.replicate (j+1) m++l.drop (j+1))):=η (by rw[<-Lw.XV l m j gV];simp[wt,dD]);rw[HT.o]at ig;have hfz:wr.frozen? ⟨g,j,none⟩=false:=by rcases HO.o.2 with⟨h0,_⟩|⟨g',Cc,cur,h0,_,hgg,_⟩;cases h0;cases h0;simp[World.frozen?,hgg]
  have HST:=η ig;clear np ig hln;generalize(List.replicate j m++l.drop j).getD j []=old at hc;go_wp2_with fail;go_roundw
  ·exact⟨j+1,by omega,by go_num,HST.o.1,HF.o.setCell (a:=⟨g,j,none⟩) (.inl rfl) _⟩
  simp[intOf];omega
 obtain rfl:j=l.length:=by omega
 have HO2:=HO.o;rw[eR,aO]at HO2;have HX:=η HO2;clear HO HO2;obtain⟨i0,kV,mJ,Gv,kS⟩:=fy mZ;have HI:=η kV;clear kV;go_upto_region 7 with(at_builtin;refine fY _ rfl _ _ 28 rfl Bl 9 i0 (.string ByteArray.empty) 1 16 underlying28 HI.o mJ Gv kS rfl ψ _ _ _ rfl (HX.o.alloc _) ⟨wr.heap.size,0,none⟩ 2 2 [.string (str m),.string (str m)] rfl rfl (cell_two_new _ _ _ _) (kh [m,m]) ι ω χ ?_;intro lv2 w5 kU so _ apH);have ZZ:=kU;obtain⟨va,vc,rfl⟩:=jB kU;have H2b:=η (show∀g,(Value.slice la l.length lc).ownBlock=some g->g<wr.heap.size from λg hg=>(HX.o.lt g hg).2);have FA:=η (show Fr w1.heap.size (λk=>(Value.slice la l.length lc).ownBlock=some k) w1 w5 from(HF.o.alloc ql _).grown so χ (λg hg=>.inl hg));have SQ:=FA.o.size;have HSL:Hid (∀g,(Value.slice sa ls.length sc).ownBlock=some g->g<w.heap.size):=η λg hg=>(HS.o.lt g hg).2;have HW5:Hid (Row w5 Wb (wc t mh (.slice sa ls.length sc))):=η (FA.o.row (HW.o.below B1.o hWl) ω (λh=>H1.o Wb h rfl));have HS5:Hid (w5.ownsRow Bs 28 1 (.slice sa ls.length sc) ls.length ls):=η (FA.o.own (gM HS.o B1.o ν) (λg hg=>⟨by have:=HSL.o g hg;omega,λh=>H3.o g h hg⟩));have hc5:w5.cell? ⟨Wb,2,none⟩=some (.slice sa ls.length sc):=HW5.o.cell 2;have HL5:=η kU;have HOB:=η apH;obtain⟨i1,hi1,hy0,hy1,hy2⟩:=fy akE;have HI1:=η hi1;clear kU so apH ZZ hi1;go_upto_region 8 with(at_builtin;refine fY _ rfl _ _ 64 rfl Bs 28 i1 (.slice none 0 0) 1 24 underlying64 HI1.o hy0 hy1 hy2 rfl ψ _ _ _ rfl (HS5.o.alloc _) ⟨w5.heap.size,0,none⟩ 1 1 [.slice va (l.length+2) vc] rfl rfl (cell_one_new _ _ _) (λu hu=>by rw[cn.1 hu];rfl) ι ω χ ?_;intro oG w6 lg rB _ ak8);obtain⟨ya,yc,rfl⟩:=jB lg;have HNE:Hid (∀g,(Value.slice va (l.length+2) vc).ownBlock=some g->(Value.slice sa ls.length sc).ownBlock≠some g):=η λg hg he=>by have BJ:=HSL.o g he;rcases HOB.o with h|h;exact H3.o g (h▸hg) he;rw[h,World.size_alloc]at hg;cases hg;omega
 have F6:Fr w.heap.size (λk=>k=Wb∨(Value.slice la l.length lc).ownBlock=some k∨(Value.slice sa ls.length sc).ownBlock=some k) w w6:=(((Fr.gL B1.o).trans (FA.o.mono mC (λk _ h=>.inr (.inl h)))).alloc ω _).grown rB χ (λg hg=>.inl (.inr (.inr hg)));have HW6:Row w6 Wb (wc t mh (.slice sa ls.length sc)):=by obtain⟨T,hT⟩:=HW5.o.alloc (.cells #[.slice va (l.length+2) vc] 28);exact⟨T,by rw[rB.block Wb χ (λh=>H2.o Wb h.symm rfl)];exact hT⟩
 have HL6:w6.ownsRow Bl 9 1 (.slice va (l.length+2) vc) (l.length+2) (wt (List.replicate l.length m)++[.string (str m),.string (str m)]):=(HL5.o.alloc _).kept rB (by cases hb:(Value.slice va (l.length+2) vc).ownBlock with|none=>exact .inl rfl|some g=>exact .inr λh=>HNE.o g hb h.symm);have hc6:w6.cell? ⟨Wb,2,none⟩=some (.slice sa ls.length sc):=HW6.cell 2;have hf6:=HW6.free 2;have ND:Hid (∀g,(Value.slice va (l.length+2) vc).ownBlock=some g->(Value.slice ya (ls.length+1) yc).ownBlock≠some g):=η λg hg he=>by rcases ak8 with h|h;exact HNE.o g hg (h▸he);have:=(HL5.o.lt g hg).2;rw[h,World.size_alloc]at he;cases he;omega
 have O1:Hid ((Value.slice va (l.length+2) vc).ownBlock=(Value.slice la l.length lc).ownBlock∨∃g,(Value.slice va (l.length+2) vc).ownBlock=some g/\w.heap.size<=g):=η (HOB.o.imp id λh=>⟨_,h,by rw[World.size_alloc];omega⟩);have O2:Hid ((Value.slice ya (ls.length+1) yc).ownBlock=(Value.slice sa ls.length sc).ownBlock∨∃g,(Value.slice ya (ls.length+1) yc).ownBlock=some g/\w.heap.size<=g):=η (ak8.imp id λh=>⟨_,h,by rw[World.size_alloc];omega⟩);have N1:Hid ((Value.slice va (l.length+2) vc).ownBlock≠some Wb):=η λh=>by rcases O1.o with h1|⟨g,h1,h2⟩;exact H1.o Wb (h1▸h) rfl;rw[h]at h1;cases h1;omega
 have N2:Hid ((Value.slice ya (ls.length+1) yc).ownBlock≠some Wb):=η λh=>by rcases O2.o with h1|⟨g,h1,h2⟩;exact H2.o Wb (h1▸h) rfl;rw[h]at h1;cases h1;omega
 have FF:=η F6;have WW:=η HW6;have LL:=η HL6;have SS:=η lg;clear F6 HW6 HL6 lg rB ak8 hc5;go_wp2_with fail;go_end0;refine⟨rfl,.slice va (l.length+2) vc,.slice ya (ls.length+1) yc,WW.o.set 2 _,?_,?_,O1.o,O2.o,ND.o,FF.o.setCell (.inl (.inl rfl)) _⟩;have:=gu LL.o (a:=⟨Wb,2,none⟩) N1.o (.slice ya (ls.length+1) yc);rw[HM.o,show wt (List.replicate (l.length+2) m)=wt (List.replicate l.length m)++[.string (str m),.string (str m)]from by simp[wt,dc]];exact this;exact gu SS.o (a:=⟨Wb,2,none⟩) N2.o _
def sx(w:World)(v:Value)(k:Nat):Prop:=∃n a c,n<=2000/\v=.slice a n c/\n6 w v (List.replicate n (mk k))
def RX{w:World}{B n e v xs}(h:w.ownsRow B e 1 v n xs)(h0:0<n):∃g cap,v=.slice (some ⟨g,0,none⟩) n cap/\g<w.heap.size/\∀j u,xs[j]? =some u->w.cell? ⟨g,j,none⟩=some u:=by rcases h.2 with⟨_,h'⟩|⟨g,cap,cur,rfl,hb,hg,hnc,_,_,ht⟩;omega;refine⟨g,cap,rfl,(ae.1 hg).1,λj u hj=>?_⟩;have hl:=h.1;have IJ:j<xs.length:=(aB.1 hj).1;rw[<-hj,<-ht,bS,aM ω];simp[World.cell?,hg]
def Om Wb t Bs mh lP ls w(hW:Row w Wb (wc t mh lP))(hs:w.ownsRow Bs 28 1 lP ls.length ls)(hm:∀k v,ls[k]? =some v->sx w v k)(hn:ls.length<=4194304):Calls prog 29 #[.pointer (some ⟨Wb,0,none⟩)] w λe w'=>e=.returned (.bool true)/\Below w.heap.size w w':=by
 have HS:=η hs;have HM:=η hm;obtain⟨sa,sc,rfl⟩:=jB hs;have pM:w.cell? ⟨Wb,2,none⟩=some (.slice sa ls.length sc):=hW.cell 2;clear hW hs hm;go_enter func29,ntmps29;go_wp2_with fail;clear pM;go_loopw [12] (λiv wr=>∃k:Nat,k<=ls.length/\iv=.int .i64 k/\Below w.heap.size w wr) (λiv _=>ls.length-(intOf iv).toNat)
 exact⟨0,by omega,rfl,Below.refl _ _⟩;obtain⟨k,hk,rfl,hB⟩:=hrel;have HB:=η hB;have ql:=hB.size;clear hB;by_cases gV:k<ls.length
 ·have p1:(k:Int)< (ls.length:Int):=by omega
  obtain⟨g,cap,hv,hg,np⟩:=RX HS.o ω;cases hv;obtain⟨n,ka,kc,hn2,hkv,htx⟩:=HM.o k _ (ag gV);have hc:=(fb (w:=w) (HB.o.block g hg)).trans (np k _ (ag gV));rw[hkv]at hc htx;have HT:=η htx;clear np hkv htx hg;go_wp2_with fail;clear hc;go_loopw [6,19] (λ_ iv wx=>∃j:Nat,j<=n/\iv=.int .i64 j/\Below w.heap.size w wx) (λ_ iv _=>n-(intOf iv).toNat);exact⟨0,by omega,rfl,HB.o⟩;obtain⟨j,hj,rfl,hB⟩:=hrel;have HX:=η hB;clear hB;by_cases IJ:j<n
  ·have p2:(j:Int)< (n:Int):=by omega
   obtain⟨b1,o1,c1,h1,m0,Mq⟩:=n6.open HT.o aFJ;injection h1 with h2 h3 h4;subst h2;have d1:=(fb (w:=w) (HX.o.block b1 m0)).trans (Mq j aFJ);rw[show(List.replicate n (mk k)).getD j []=mk k from by rw[ab,cE,if_pos IJ];rfl]at d1;have T1:=η (Gg k wr ω);clear h3 h4 m0 Mq;generalize mk k=m at d1 T1;go_wp2_with fail;refine T1.o.mono ?_;clear T1 d1;rintro e w1⟨rfl,m0⟩;have B1:=η (HX.o.trans (m0.mono HX.o.size));clear m0;go_wp2_with fail;go_roundw
   ·exact⟨j+1,by omega,by go_num,B1.o⟩
   simp[intOf];omega
  obtain rfl:j=n:=by omega
  go_wp2_with fail;go_roundw
  ·exact⟨k+1,by omega,by go_num,HX.o⟩
  simp[intOf];omega
 obtain rfl:k=ls.length:=by omega
 go_wp2_with fail;go_ret;exact⟨rfl,HB.o⟩
end
def t093{p:Prop}(h:p:=by rcases eI k w1.heap.size with h1|h1;have:=h.low k h1;rcases Ll k hk with h2|h2<;>omega;exact h1):p:=h
section
open iz
open Go.RowKit
def km.rT{B w w'}(h:km w)(hb:Ph.Aq B w w')(hB:1<B):km w':=⟨h.1.of_block (hb.block 0 ω),h.2.of_block (hb.block 1 hB)⟩
def TB.re{t w}(h:TB w t) τ n:TB (w.re τ n) t:=by obtain⟨hb,hc,kb,kc,h1,h2,h3⟩:=h.ex;exact⟨⟨hb,hc,kb,kc,⟨h1.h,h1.k,h1.hl,h1.kl⟩,h2,h3⟩,h.lt⟩
def TB.rT{t w w'}(h:TB w t)(hB:Ph.Aq w.heap.size w w'):TB w' t:=(h.below (w':=w'.re w.tape w.drawn) ⟨hB.os,rfl,hB.output,hB.size,hB.block⟩).re w'.tape w'.drawn
namespace Lw
structure Fb(B:Nat)(S:Nat->Prop)(w w':World):Prop where
 os:w'.os=w.os
 output:w'.output=w.output
 size:w.heap.size<=w'.heap.size
 block:∀k,k<B->¬S k->w'.heap[k]? =w.heap[k]?
section
variable{B:Nat}{S:Nat->Prop}{w w' tK:World}
def Fr.b(h:Fr B S w w'):Fb B S w w':=⟨h.os,h.output,h.size,h.block⟩
def Fb.Sb(h:Ph.Aq B w w'):Fb B S w w':=⟨h.os,h.output,h.size,λk hk _=>h.block k hk⟩
theorem Fb.trans(h:Fb B S w w')(k:Fb B S w' tK):Fb B S w tK:=⟨k.os.trans h.os,k.output.trans h.output,ak h.size k.size,λj hj hs=>(k.block j hj hs).trans (h.block j hj hs)⟩
def Fb.mono{B' S'}(h:Fb B S w w')(hB:B'<=B)(hS:∀k,k<B'->S k->S' k):Fb B' S' w w':=⟨h.os,h.output,h.size,λk hk hs=>h.block k ω (λhn=>hs (hS k hk hn))⟩
def Fb.row{b l}(h:Fb B S w w')(hr:Row w b l)(hb:b<B)(hs:¬S b):Row w' b l:=hr.of_block (h.block b hb hs)
def Fb.own{C n e z v xs}(h:Fb B S w w')(ho:w.ownsRow C e z v n xs)(hb:∀g,v.ownBlock=some g->g<B/\¬S g):w'.ownsRow C e z v n xs:=by exact t039
def Fb.rT(h:Fb B S w w'){B'}(hB:B'<=B)(hS:∀k,S k->B'<=k):Ph.Aq B' w w':=⟨h.os,h.output,h.size,λk hk=>h.block k ω (λhn=>by have:=hS k hn;omega)⟩
end
structure PR where
 r:Nat
 m:Nat
 q:Nat
 P:List Mp.B
 pv:Value
 s:Cp.RS
def j3(ps:List PR):List Value:=ps.flatMap λp=>[.pointer (some ⟨p.r,0,none⟩),.pointer (some ⟨p.q,0,none⟩)]
theorem xP:∀ps i p,ps[i]? =some p->(j3 ps)[i*2]? =some (.pointer (some ⟨p.r,0,none⟩))/\(j3 ps)[i*2+1]? =some (.pointer (some ⟨p.q,0,none⟩))
 |[],_,_,h=>by simp at h|p::l,0,p',h=>by obtain rfl:p=p':=aF0;exact⟨rfl,rfl⟩
 |p::l,i+1,p',h=>by have:=xP l i p' aF0;have e:j3 (p::l)=.pointer (some ⟨p.r,0,none⟩)::.pointer (some ⟨p.q,0,none⟩)::j3 l:=rfl;rw[e,show(i+1)*2=i*2+1+1 from by omega,show i*2+1+1+1=(i*2+1)+1+1 from rfl];simpa using this
theorem xO:∀ps i p p',ps[i]? =some p->p'.r=p.r->p'.q=p.q->j3 (ps.set i p')=j3 ps
 |[],_,_,_,h,_,_=>by simp at h|a::l,0,p,p',h,h1,h2=>by obtain rfl:a=p:=aF0;unfold j3;simp[h1,h2]
 |a::l,i+1,p,p',h,h1,h2=>by have:=xO l i p p' aF0 h1 h2;unfold j3 at *;simp[this]
def F9 ps p:j3 (ps++[p])=j3 ps++[.pointer (some ⟨p.r,0,none⟩),.pointer (some ⟨p.q,0,none⟩)]:=by unfold j3;simp
def ZY(w:World)(τ:Nat->Nat)(j rb mb:Nat)(s:Cp.RS):Prop:=(s=Cp.idle/\kn w rb (xf mb))∨(Cp.IZ s/\∃T mv,kn w rb (n8 mb s.header (.slice (some ⟨T,0,none⟩) s.jX.length s.jX.length) mv)/\Tz.At w T s.jX/\rb<T/\w.ownsRow (rb+1) 3 1 mv s.missing.length (yo s.missing)/\τ T=j/\∀g,mv.ownBlock=some g->τ g=j)
def RsT(w:World)(τ:Nat->Nat)(j q t:Nat)(pv:Value)(s:Cp.RS):Prop:=∃tv mv,Row w q (Rp.pY t pv [.string (str s.header),tv,mv])/\w.ownsRow (q+1) 9 1 tv s.jX.length (wt s.jX)/\w.ownsRow (q+1) 3 1 mv s.missing.length (yo s.missing)/\(∀g,tv.ownBlock=some g->τ g=j)/\∀g,mv.ownBlock=some g->τ g=j
variable{w w' w1:World}{t Wb:Nat}{τ τ':Nat->Nat}{S:Nat->Prop}{j rb mb q:Nat}{s:Cp.RS}{pv:Value}
def ZY.row(h:ZY w τ j rb mb s):∃hh tv mv,kn w rb (n8 mb hh tv mv):=by rcases h with⟨_,h⟩|⟨_,T,mv,h,_⟩;exact⟨_,_,_,h⟩;exact⟨_,_,_,h⟩
theorem ZY.lt(h:ZY w τ j rb mb s):rb<w.heap.size:=by obtain⟨_,_,_,h⟩:=h.row;exact h.lt
theorem ZY.cell(h:ZY w τ j rb mb s):w.cell? ⟨rb,0,none⟩=some (.map (some mb)):=by obtain⟨_,_,_,h⟩:=h.row;exact h.cell 0
theorem RsT.lt(h:RsT w τ j q t pv s):q<w.heap.size:=by obtain⟨_,_,h,_⟩:=h;exact h.lt
def ZY.fr(h:ZY w τ j rb mb s)(hF:Fb w.heap.size S w w')(hr:¬S rb)(hS:∀k,S k->k<w.heap.size->τ k≠j):ZY w' τ j rb mb s:=by rcases h with⟨e,h⟩|⟨e,T,mv,h1,h2,h3,h4,h5,h6⟩;exact .inl ⟨e,h.same (hF.block rb h.lt hr)⟩;exact .inr ⟨e,T,mv,h1.same (hF.block rb h1.lt hr),h2.of_block (hF.block T h2.lt (λhs=>hS T hs h2.lt h5)),h3,hF.own h4 (λg hg=>⟨(h4.lt g hg).2,λhs=>hS g hs (h4.lt g hg).2 (h6 g hg)⟩),h5,h6⟩
def RsT.fr(h:RsT w τ j q t pv s)(hF:Fb w.heap.size S w w')(hr:¬S q)(hS:∀k,S k->k<w.heap.size->τ k≠j):RsT w' τ j q t pv s:=by obtain⟨tv,mv,h1,h2,h3,h4,h5⟩:=h;exact⟨tv,mv,hF.row h1 h1.lt hr,hF.own h2 (λg hg=>⟨(h2.lt g hg).2,λhs=>hS g hs (h2.lt g hg).2 (h4 g hg)⟩),hF.own h3 (λg hg=>⟨(h3.lt g hg).2,λhs=>hS g hs (h3.lt g hg).2 (h5 g hg)⟩),h4,h5⟩
def ZY.Cu(h:ZY w τ j rb mb s)(pK:∀b,b<w.heap.size->τ' b=τ b):ZY w τ' j rb mb s:=by rcases h with h|⟨e,T,mv,h1,h2,h3,h4,h5,h6⟩;exact .inl h;exact .inr ⟨e,T,mv,h1,h2,h3,h4,(pK T h2.lt).trans h5,λg hg=>(pK g (h4.lt g hg).2).trans (h6 g hg)⟩
def RsT.Cu(h:RsT w τ j q t pv s)(pK:∀b,b<w.heap.size->τ' b=τ b):RsT w τ' j q t pv s:=by obtain⟨tv,mv,h1,h2,h3,h4,h5⟩:=h;exact⟨tv,mv,h1,h2,h3,λg hg=>(pK g (h2.lt g hg).2).trans (h4 g hg),λg hg=>(pK g (h3.lt g hg).2).trans (h5 g hg)⟩
structure su(w:World)(t:Nat)(τ:Nat->Nat)(i:Nat)(p:PR):Prop where
 st:ZY w τ (8+6*i) p.r p.m p.s
 map:Mp.Map w p.m p.P
 ref:RsT w τ (9+6*i) p.q t p.pv p.s
 own:w.ownsRow (p.q+1) 9 1 p.pv p.P.length (wt p.P)
 full:∀x∈p.P,x≠ []
 tr:τ p.r=4+6*i
 tm:τ p.m=5+6*i
 tq:τ p.q=6+6*i
 tg:∀g,p.pv.ownBlock=some g->τ g=7+6*i
structure lx(w1 w:World)(t Wb:Nat)(τ:Nat->Nat)(ps:List PR)(ls:List Value)(mh lP:Value):Prop where
 rT:Ph.Aq w1.heap.size w1 w
 low:∀b,b<w1.heap.size->τ b=3
 ru:Row w Wb (wc t mh lP)
 tW:τ Wb=0
 rs:w.ownsRow w1.heap.size 122 2 mh ps.length (j3 ps)
 trs:∀g,mh.ownBlock=some g->τ g=1
 lso:w.ownsRow w1.heap.size 28 1 lP ls.length ls
 tls:∀g,lP.ownBlock=some g->τ g=2
 iG:∀(i:Nat)(p:PR),ps[i]? =some p->su w t τ i p
 lists:∀(k:Nat)(v:Value),ls[k]? =some v->sx w v k/\∀g,v.ownBlock=some g->g<w.heap.size/\τ g=3
def BF{v k}(h:sx w v k)(hF:Fb w.heap.size S w w')(hS:∀g,v.ownBlock=some g->¬S g):sx w' v k:=by obtain⟨n,a,c,h1,rfl,h2⟩:=h;refine⟨n,a,c,h1,rfl,?_⟩;rcases h2 with h2|⟨b,o,cap,h3,h4,h5⟩;exact .inl h2;refine .inr ⟨b,o,cap,h3,ay h4 hF.size,λj hj=>?_⟩;rw[<-h5 j hj];exact fb (w:=w) (hF.block b h4 (hS b (by rw[h3];rfl)))
theorem su.fr{i:Nat}{p:PR}(h:su w t τ i p)(hF:Fb w.heap.size S w w')(hS:∀k,S k->k<w.heap.size->τ k<4+6*i∨10+6*i<=τ k):su w' t τ i p where
 st:=h.st.fr hF (λhs=>by have:=hS _ hs h.st.lt;have:=h.tr;omega) aGw;map:=h.map.block (hF.block _ h.map.lt (λhs=>by have:=hS _ hs h.map.lt;have:=h.tm;omega));ref:=h.ref.fr hF (λhs=>by have:=hS _ hs h.ref.lt;have:=h.tq;omega) aGw;own:=hF.own h.own (λg hg=>⟨(h.own.lt g hg).2,λhs=>by have:=hS _ hs (h.own.lt g hg).2;have:=h.tg g hg;omega⟩);full:=h.full;tr:=h.tr;tm:=h.tm;tq:=h.tq;tg:=h.tg
theorem su.Cu{i p}(h:su w t τ i p)(pK:∀b,b<w.heap.size->τ' b=τ b):su w t τ' i p:=⟨h.st.Cu pK,h.map,h.ref.Cu pK,h.own,h.full,(pK _ h.st.lt).trans h.tr,(pK _ h.map.lt).trans h.tm,(pK _ h.ref.lt).trans h.tq,λg hg=>(pK _ (h.own.lt g hg).2).trans (h.tg g hg)⟩
def lx.keep{ps ls mh lP}(h:lx w1 w t Wb τ ps ls mh lP)(hF:Fb w.heap.size S w w')(hS:∀k,S k->k<w.heap.size->4<=τ k):Ph.Aq w1.heap.size w1 w'/\Row w' Wb (wc t mh lP)/\w'.ownsRow w1.heap.size 122 2 mh ps.length (j3 ps)/\w'.ownsRow w1.heap.size 28 1 lP ls.length ls/\∀k v,ls[k]? =some v->sx w' v k/\∀g,v.ownBlock=some g->g<w'.heap.size/\τ g=3:=
 ⟨h.rT.trans ⟨hF.os,hF.output,hF.size,λk hk=>hF.block k (ay hk h.rT.size) (λhs=>by have:=hS k hs (ay hk h.rT.size);have:=h.low k hk;omega)⟩,
  hF.row h.ru h.ru.lt (λhs=>by have:=hS _ hs h.ru.lt;have:=h.tW;omega),
  hF.own h.rs (λg hg=>⟨(h.rs.lt g hg).2,λhs=>by have:=hS g hs (h.rs.lt g hg).2;have:=h.trs g hg;omega⟩),
  hF.own h.lso (λg hg=>⟨(h.lso.lt g hg).2,λhs=>by have:=hS g hs (h.lso.lt g hg).2;have:=h.tls g hg;omega⟩),
  λk v hv=>⟨BF (h.lists k v hv).1 hF (λg hg hs=>by have:=hS g hs ((h.lists k v hv).2 g hg).1;have:=((h.lists k v hv).2 g hg).2;omega),λg hg=>⟨ay ((h.lists k v hv).2 g hg).1 hF.size,((h.lists k v hv).2 g hg).2⟩⟩⟩
def lx.axk{ps ls mh lP}(h:lx w1 w t Wb τ ps ls mh lP)(hb:Ph.Aq w.heap.size w w'):lx w1 w' t Wb τ ps ls mh lP:=by have hF:Fb w.heap.size (λ_=>False) w w':=.Sb hb;obtain⟨a1,a2,a3,a4,a5⟩:=h.keep hF (λ_ h=>h.elim);exact⟨a1,h.low,a2,h.tW,a3,h.trs,a4,h.tls,λi p hp=>(h.iG i p hp).fr hF (λ_ h=>h.elim),a5⟩
def lx.below{ps ls mh lP}(h:lx w1 w t Wb τ ps ls mh lP)(hb:Below w.heap.size w w'):lx w1 w' t Wb τ ps ls mh lP:=h.axk (.of hb)
def lx.afW{ps ls mh lP}(h:lx w1 w t Wb τ ps ls mh lP){i p p'}(hp:ps[i]? =some p)(hr:p'.r=p.r)(hq:p'.q=p.q) (hF:Fb w.heap.size S w w') (hS:∀k,S k->k<w.heap.size->4+6*i<=τ k/\τ k<10+6*i) (pK:∀b,b<w.heap.size->τ' b=τ b) (hP:su w' t τ' i p'):lx w1 w' t Wb τ' (ps.set i p') ls mh lP:=by obtain⟨a1,a2,a3,a4,a5⟩:=h.keep hF (λk h1 h2=>by have:=hS k h1 h2;omega);refine⟨a1,λb hb=>(pK b (ay hb h.rT.size)).trans (h.low b hb),a2,(pK _ h.ru.lt).trans h.tW,by rw[aY,xO ps i p p' hp hr hq];exact a3,λg hg=>(pK _ (h.rs.lt g hg).2).trans (h.trs g hg),a4,λg hg=>(pK _ (h.lso.lt g hg).2).trans (h.tls g hg),λk p2 hk=>?_,λk v hv=>⟨(a5 k v hv).1,λg hg=>⟨((a5 k v hv).2 g hg).1,(pK g ((h.lists k v hv).2 g hg).1).trans ((a5 k v hv).2 g hg).2⟩⟩⟩;by_cases qG:i=k;subst qG;rw[cG (aB.1 hp).1]at hk;obtain rfl:=aA hk;exact hP;rw[de qG]at hk;exact((h.iG k p2 hk).Cu (τ':=τ') pK).fr hF (λb hs hb=>by have:=hS b hs hb;have:=pK b hb;omega)
def lx.list{ps ls mh lP lv sj n}(h:lx w1 w t Wb τ ps ls mh lP)(hn:n<=2000)(hF:Fb w.heap.size (λk=>k=Wb∨lP.ownBlock=some k) w w')(hW:Row w' Wb (wc t mh sj)) (hl:w'.ownsRow w.heap.size 9 1 lv n (wt (List.replicate n (Lw.mk ls.length)))) (hs:w'.ownsRow w1.heap.size 28 1 sj (ls.length+1) (ls++[lv])) (hls:sj.ownBlock=lP.ownBlock∨∃g,sj.ownBlock=some g/\w.heap.size<=g) (iZ:∀g,lv.ownBlock=some g->sj.ownBlock≠some g):lx w1 w' t Wb (λb=>if b<w.heap.size then τ b else if sj.ownBlock=some b then 2 else 3) ps (ls++[lv]) mh sj:=by
 have Ll:∀k,(k=Wb∨lP.ownBlock=some k)->τ k=0∨τ k=2:=λk hk=>by rcases hk with rfl|hk;exact .inl h.tW;exact .inr (h.tls k hk)
 have uq:∀k,(k=Wb∨lP.ownBlock=some k)->w1.heap.size<=k:=λk hk=>by exact t093
 have pK:∀b,b<w.heap.size->(if b<w.heap.size then τ b else if sj.ownBlock=some b then 2 else 3)=τ b:=λb hb=>if_pos hb;refine⟨h.rT.trans (hF.rT h.rT.size uq),λb hb=>(pK b (ay hb h.rT.size)).trans (h.low b hb),hW,(pK _ h.ru.lt).trans h.tW,hF.own h.rs (λg hg=>⟨(h.rs.lt g hg).2,λhs=>by have:=h.trs g hg;rcases Ll _ hs with h2|h2<;>omega⟩),
  λg hg=>(pK _ (h.rs.lt g hg).2).trans (h.trs g hg),by rw[ai];exact hs,λg hg=>?_,λi p hp=>?_,λk v hv=>?_⟩
 rcases hls with h1|⟨g',h1,h2⟩;rw[h1]at hg;exact(pK _ (h.lso.lt g hg).2).trans (h.tls g hg);rw[h1]at hg;cases hg;show(if g<w.heap.size then τ g else if sj.ownBlock=some g then 2 else 3)=2;rw[if_neg ω,if_pos h1];exact((h.iG i p hp).Cu (τ':=λb=>if b<w.heap.size then τ b else if sj.ownBlock=some b then 2 else 3) pK).fr hF (λk hs hk=>by have:=(pK k hk);rcases Ll k hs with h2|h2<;>rw[this,h2]<;>omega);by_cases hk:k<ls.length;rw[aP hk]at hv;obtain⟨h1,h2⟩:=h.lists k v hv;exact⟨BF h1 hF (λg hg hs=>by have:=(h2 g hg).2;rcases Ll _ hs with h2|h2<;>omega),λg hg=>⟨ay (h2 g hg).1 hF.size,(pK _ (h2 g hg).1).trans (h2 g hg).2⟩⟩;have hke:k=ls.length:=by have:=(aB.1 hv).1;rw[ai]at this;simp at this;omega
 subst hke;rw[aK ν,bh]at hv;obtain rfl:lv=v:=aJd;obtain⟨a,c,rfl⟩:=jB hl;refine⟨⟨n,a,c,hn,rfl,oV hl (by rw[bD])⟩,λg hg=>⟨(hl.lt g hg).2,?_⟩⟩;have h1:=(hl.lt g hg).1;show(if g<w.heap.size then τ g else if sj.ownBlock=some g then 2 else 3)=3;rw[if_neg ω,if_neg (iZ g hg)]
def lx.more{ps ls mh EY lP}(h:lx w1 w t Wb τ ps ls mh lP) r m q(hF:Fb w.heap.size (λk=>k=Wb∨mh.ownBlock=some k) w w')(hW:Row w' Wb (wc t EY lP))(jb:kn w' r (xf m))(OR:Mp.Map w' m []) (Zc:Row w' q (Rp.pY t (.slice none 0 0) [.string (str []),.slice none 0 0,.slice none 0 0])) (hrs:w'.ownsRow w1.heap.size 122 2 EY (ps.length+1) (j3 ps++[.pointer (some ⟨r,0,none⟩),.pointer (some ⟨q,0,none⟩)])) (auQ:EY.ownBlock=mh.ownBlock∨∃g,EY.ownBlock=some g/\w.heap.size<=g) (h1:w.heap.size<=r) (h2:w.heap.size<=m) (h3:w.heap.size<=q) (h4:r≠m) (h5:r≠q) (h6:m≠q) (h7:∀g,EY.ownBlock=some g->g≠r/\g≠m/\g≠q):lx w1 w' t Wb (λb=>if b<w.heap.size then τ b else if b=r then 4+6*ps.length else if b=m then 5+6*ps.length else if b=q then 6+6*ps.length else 1) (ps++[⟨r,m,q,[],.slice none 0 0,Cp.idle⟩]) ls EY lP:=by
 have Ll:∀k,(k=Wb∨mh.ownBlock=some k)->τ k=0∨τ k=1:=λk hk=>by rcases hk with rfl|hk;exact .inl h.tW;exact .inr (h.trs k hk)
 have uq:∀k,(k=Wb∨mh.ownBlock=some k)->w1.heap.size<=k:=λk hk=>by exact t093
 obtain⟨τ',ht⟩:∃τ',(λb=>if b<w.heap.size then τ b else if b=r then 4+6*ps.length else if b=m then 5+6*ps.length else if b=q then 6+6*ps.length else 1)=τ':=⟨_,rfl⟩;have pK:∀b,b<w.heap.size->τ' b=τ b:=λb hb=>by rw[<-ht];exact if_pos hb
 have hr:τ' r=4+6*ps.length:=by rw[<-ht];show(if r<w.heap.size then τ r else _)=_;rw[if_neg ω,if_pos rfl]
 have hm:τ' m=5+6*ps.length:=by rw[<-ht];show(if m<w.heap.size then τ m else _)=_;rw[if_neg ω,if_neg ω,if_pos rfl]
 have hq:τ' q=6+6*ps.length:=by rw[<-ht];show(if q<w.heap.size then τ q else _)=_;rw[if_neg ω,if_neg ω,if_neg ω,if_pos rfl]
 have hg1:∀g,EY.ownBlock=some g->w.heap.size<=g->τ' g=1:=λg hg hgw=>by obtain⟨a1,a2,a3⟩:=h7 g hg;rw[<-ht];show(if g<w.heap.size then τ g else _)=_;rw[if_neg ω,if_neg a1,if_neg a2,if_neg a3]
 rw[ht];refine⟨h.rT.trans (hF.rT h.rT.size uq),λb hb=>(pK b (ay hb h.rT.size)).trans (h.low b hb),hW,(pK _ h.ru.lt).trans h.tW,by rw[ai,F9];exact hrs,λg hg=>?_,
  hF.own h.lso (λg hg=>⟨(h.lso.lt g hg).2,λhs=>by have:=h.tls g hg;rcases Ll _ hs with h2|h2<;>omega⟩),λg hg=>(pK _ (h.lso.lt g hg).2).trans (h.tls g hg),λj p2 hj=>?_,
  λk v hv=>⟨BF (h.lists k v hv).1 hF (λg hg hs=>by have:=((h.lists k v hv).2 g hg).2;rcases Ll _ hs with h2|h2<;>omega),λg hg=>⟨ay ((h.lists k v hv).2 g hg).1 hF.size,(pK _ ((h.lists k v hv).2 g hg).1).trans ((h.lists k v hv).2 g hg).2⟩⟩⟩
 rcases auQ with h8|⟨g',h8,h9⟩;rw[h8]at hg;exact(pK _ (h.rs.lt g hg).2).trans (h.trs g hg);have:g=g':=aA (hg.symm.trans h8);subst this;exact hg1 g hg h9;by_cases IJ:j<ps.length;rw[aP IJ]at hj;exact((h.iG j p2 hj).Cu pK).fr hF (λk hs hk=>by have:=(pK k hk);rcases Ll k hs with h2|h2<;>rw[this,h2]<;>omega);have hje:j=ps.length:=by have:=(aB.1 hj).1;rw[ai]at this;simp at this;omega
 subst hje;rw[aK ν,bh]at hj;obtain rfl:(⟨r,m,q,[],.slice none 0 0,Cp.idle⟩:PR)=p2:=aJe;exact⟨.inl ⟨rfl,jb⟩,OR,⟨_,_,Zc,fc _ _ _ _,fc _ _ _ _,aHT,aHT⟩,fc _ _ _ _,(λx hx=>by cases hx),hr,hm,hq,aHT⟩
theorem lx.re{ps:List PR}{ls:List Value}{mh lP:Value}(h:lx w1 w t Wb τ ps ls mh lP)(Hx:Nat->Question->Nat)(n:Nat):lx w1 (w.re Hx n) t Wb τ ps ls mh lP where
 rT:=⟨h.rT.os,h.rT.output,h.rT.size,h.rT.block⟩;low:=h.low;ru:=h.ru;tW:=h.tW;rs:=h.rs;trs:=h.trs;lso:=h.lso;tls:=h.tls;iG:=λi p hp=>by have h:=h.iG i p hp;exact⟨h.st,h.map.block rfl,h.ref,h.own,h.full,h.tr,h.tm,h.tq,h.tg⟩
 lists:=h.lists
end Lw
end
def t021{p:Prop}(h:p:=by
 go_wp2_with fail;refine⟨S1.o,?_⟩;refine gI.one 13 _ κ rfl rfl ?_
 try go_frame
 go_wp2_with fail;refine⟨S2.o,?_⟩;exact Eg):p:=h
section
open iz
open Go.RowKit
open Lw
def acs:(prog.info? 122).map (λi=>(i.zero,i.size,i.bytes))=some (some (.agg #[.pointer none,.pointer none]),2,16):=κ
def Di(w:World) o{k}(h:k<w.heap.size):(w.alloc o).heap[k]? =w.heap[k]?:=((Below.refl w.heap.size w).alloc ν o).block k h
def Sj w:Calls prog 16 #[] w λe w'=>∃r m,e=.returned (.pointer (some ⟨r,0,none⟩))/\kn w' r (xf m)/\Mp.Map w' m []/\w.heap.size<=r/\w.heap.size<=m/\r≠m/\Below w.heap.size w w':=by
 have hmm:=@run_makeMap prog;have hM:=Mp.Map.new w;have hB:=(Below.refl w.heap.size w).alloc ν (.map #[] 0);go_enter func16,ntmps16;go_wp2_with fail;have hz:(w.alloc (.map #[] 0)).heap.size=w.heap.size+1:=ζ
 have hR:kn ((w.alloc (.map #[] 0)).alloc (.cells (xf w.heap.size).toArray 44)) (w.heap.size+1) (xf w.heap.size):=by rw[<-hz];have:(w.alloc (.map #[] 0)).heap.size=w.heap.size+1:=hz;generalize w.alloc (.map #[] 0)=u;unfold kn World.alloc;simp
 go_ret;exact⟨w.heap.size+1,w.heap.size,rfl,hR,hM.alloc _,by omega,by omega,by omega,hB.alloc (by rw[hz];omega) _⟩
def wh(w1:World)(t Wb:Nat)(ps:List PR)(ls:List Value)(v:Value)(w':World):Prop:=v=.bool true/\∃τ' ps' ls' EY sj,lx w1 w' t Wb τ' ps' ls' EY sj/\ps'.length<=ps.length+1/\ls'.length<=ls.length+1
def Kf(w1:World)(t Wb:Nat)(ps:List PR)(ls:List Value)(e:Ending)(w':World):Prop:=match e with
 |.returned v=>wh w1 t Wb ps ls v w'
 |_=>False
def Eg{p:Prop}(h:p:=by
 refine gI.one 14 _ κ rfl rfl ?_;try go_frame
 refine fY _ rfl _ _ 63 rfl w1.heap.size 122 i0 (.agg #[.pointer none,.pointer none]) 2 16 underlying63 HI.o mJ mC kS rfl ψ _ _ _ rfl RS6.o ⟨q+1,0,none⟩ 1 1 [.pointer (some ⟨r,0,none⟩),.pointer (some ⟨q,0,none⟩)] rfl rfl HNW.o (by intro u hu;simp at hu;rcases hu with rfl|rfl<;>rfl) ι ω (by have:=U2.o.rT.size;have:=HF6.o.size;omega) ?_;intro v7 w7 OO ac2 _ apG;have H7:=η OO;have G7:=η ac2;have O7:=η apG;clear OO ac2 apG;obtain⟨va,vc,rfl⟩:=jB H7.o;have F7:=η (show Fr w2.heap.size (λk=>k=Wb∨(Value.slice ra ps.length rc).ownBlock=some k) w2 w7 from(Fr.gL HF6.o).grown G7.o (by have:=HF6.o.size;omega) (λg hg=>.inl (.inr hg)));have W7:=η (show Row w7 Wb (wc t (.slice ra ps.length rc) lP)from by obtain⟨T,hT⟩:=U2.o.ru.below HF6.o U2.o.ru.lt;exact⟨T,by rw[G7.o.block Wb (by have:=hWq.o;omega) (λh=>(NE.o Wb h.symm).1 rfl)];exact hT⟩);have S7:=η (show gI.cls (λu:World=>u.cell? ⟨Wb,0,none⟩=some (.pointer (some ⟨t,0,none⟩))) w7 from gI.gF (W7.o.cell 0));have hc7:w7.cell? ⟨Wb,1,none⟩=some (.slice ra ps.length rc):=W7.o.cell 1;have hf7:=W7.o.free 1;have hOB:=η (show∀g,(Value.slice va (ps.length+1) vc).ownBlock=some g->g≠Wb/\(g<w2.heap.size∨g=q+2)from λg hg=>by rcases O7.o with h|h;have:=NE.o g (h▸hg);exact⟨this.1,.inl this.2⟩;rw[h,hq6]at hg;cases hg;exact⟨by have:=hWq.o;omega,.inr rfl⟩);have UU:=η (U2.o.more r m q (F7.o.setCell (a:=⟨Wb,1,none⟩) (.inl (.inl rfl)) (.slice va (ps.length+1) vc)).b (W7.o.set 1 (.slice va (ps.length+1) vc))
  (show kn _ r (xf m)from(HR6.o.same (G7.o.block r ω (λh=>by have:=(NE.o r h.symm).2;omega))).other (show Wb≠r from by omega) _)
  (show Mp.Map _ m []from HM6.o.block (by rw[ft _ _ _ _ (by show m≠Wb;omega)];exact G7.o.block m ω (λh=>by have:=(NE.o m h.symm).2;omega)))
  (show Row _ q (Rp.pY t (.slice none 0 0) [.string (str []),.slice none 0 0,.slice none 0 0])from(show Row w7 q _ from by obtain⟨T,hT⟩:=Qe.o;exact⟨T,by rw[G7.o.block q ω (λh=>by have:=(NE.o q h.symm).2;omega)];exact hT⟩).other (show Wb≠q from by omega) _)
  (gu H7.o (a:=⟨Wb,1,none⟩) (λh=>(hOB.o Wb h).1 rfl) _)
  (O7.o.imp id λh=>⟨_,h,by omega⟩) Qh Ay ω hrm ω ω (λg hg=>by rcases(hOB.o g hg).2 with h|h<;>omega))
 clear O7;refine⟨S7.o,?_⟩;refine gI.one 15 _ κ rfl rfl ?_;try go_frame
 go_wp2_with fail;refine⟨S7.o,?_⟩;refine gI.one 16 _ κ rfl rfl ?_
 try go_frame
 go_wp2_with fail;refine⟨S7.o,?_⟩;have S8:=η (show gI.cls (λu:World=>u.cell? ⟨Wb,0,none⟩=some (.pointer (some ⟨t,0,none⟩))) (w7.setCell ⟨Wb,1,none⟩ (.slice va (ps.length+1) vc))from gI.gF ((W7.o.set 1 (.slice va (ps.length+1) vc)).cell 0))
 refine gI.one 17 _ κ rfl rfl ?_;try go_frame
 go_wp2_with fail;refine⟨S8.o,?_⟩;refine fg κ ?_ 0
 clear h5 h6 S0 S1 S2 S7 S8 hc7 hf7 qZ aqm avV Lr;go_wp2_with fail;go_ret;exact⟨rfl,_,_,_,_,_,UU.o,by simp,by omega⟩):p:=h
def aa4 w1 w t Wb τ ps ls mh lP(h:lx w1 w t Wb τ ps ls mh lP) a s(hn:ps.length<=2097152):Calls prog 28 #[.pointer (some ⟨Wb,0,none⟩),.agg #[.int .i64 1,.int .i64 a,.string (str s)]] w (Kf w1 t Wb ps ls):=by
 have H:=η h;have hWl:=h.ru.lt;clear h;go_enter func28,ntmps28;go_wp2_with fail;have Ms:Below w.heap.size w (w.alloc (.cells #[.int .i64 1,.int .i64 a,.string (str s)] 59)):=(Below.refl _ _).alloc ν _;have B0:=η Ms;have agT:w.heap.size+1=(w.alloc (.cells #[.int .i64 1,.int .i64 a,.string (str s)] 59)).heap.size:=ζ
 clear Ms;generalize w.alloc (.cells #[.int .i64 1,.int .i64 a,.string (str s)] 59)=w2 at B0 agT|-;refine(Sj w2).mono ?_;rintro e w3⟨r,m,rfl,jb,OR,Qh,Ay,hrm,mK⟩;have U2:=η (H.o.below B0.o);have U3:=η (U2.o.below (mK.mono ν));have B23:=η mK;have B3:=η (B0.o.trans (mK.mono ω));have RR:=η jb;have MM:=η OR;have rn:=mK.size;have aB0:=jb.lt;have aCj:=OR.lt;clear jb OR mK H;obtain⟨i0,kV,mJ,mC,kS⟩:=fy acs;have HI:=η kV;clear kV;go_upto_region 6 with fail;obtain⟨ra,rc,rfl⟩:=jB U3.o.rs;have pV:w3.cell? ⟨Wb,0,none⟩=some (.pointer (some ⟨t,0,none⟩)):=U3.o.ru.cell 0;haveI iZ:Nonempty (gI.Of (λu:World=>u.cell? ⟨Wb,0,none⟩=some (.pointer (some ⟨t,0,none⟩)))):=⟨⟨w3,pV⟩⟩;have Av:∀u:gI.Of (λu:World=>u.cell? ⟨Wb,0,none⟩=some (.pointer (some ⟨t,0,none⟩))),u.w.cell? ⟨Wb,0,none⟩=some (.pointer (some ⟨t,0,none⟩)):=λu=>u.h;refine gI.jl [0,1,2,3,5,6,7,8,9,10] 8 mixed κ rfl rfl θ ξ rfl (λu:World=>u.cell? ⟨Wb,0,none⟩=some (.pointer (some ⟨t,0,none⟩))) pV ?_;show wpQuiet _ _ _ _ [_,_,_,_,_,_,_,_,_,_] _;repeat(go_big_quiet_step (fail))
 refine fe ?_;have qZ:w3.drew.cell? ⟨Wb,1,none⟩=some (.slice ra ps.length rc):=U3.o.ru.cell 1;have S0:=η (show gI.cls (λu:World=>u.cell? ⟨Wb,0,none⟩=some (.pointer (some ⟨t,0,none⟩))) w3.drew from gI.gF pV);have aDa:Wb<w3.heap.size:=U3.o.ru.lt;have Lr:w3.drew.cell? ⟨Wb,0,none⟩=some (.pointer (some ⟨t,0,none⟩)):=pV;have Ar:=η (show w3.drew.heap.size=w3.heap.size from rfl);have UD:=η (show lx w1 w3.drew t Wb τ ps ls _ lP from U3.o.below (Below.refl _ _).drew);have RD:=η (show kn w3.drew r (xf m)from RR.o);have MD:=η (MM.o.block (w':=w3.drew) rfl);have BD:=η (B3.o.drew);have BD2:=η (show Below w2.heap.size w3 w3.drew from(Below.refl _ _).drew);clear pV iZ Av RR MM U3 B3;generalize w3.drew=w4 at qZ S0 Lr Ar UD RD MD BD BD2|-;obtain⟨q,hq4⟩:∃q,w4.heap.size=q:=⟨_,rfl⟩;obtain⟨w5,h5⟩:∃w5,w4.alloc (.cells #[.pointer (some ⟨t,0,none⟩),.slice none 0 0,.string (str []),.slice none 0 0,.slice none 0 0] 120)=w5:=⟨_,rfl⟩;obtain⟨w6,h6⟩:∃w6,w5.alloc (.cells #[.pointer (some ⟨r,0,none⟩),.pointer (some ⟨q,0,none⟩)] 122)=w6:=⟨_,rfl⟩;have hq5:w5.heap.size=q+1:=by rw[<-h5,World.size_alloc,hq4]
 have hq3:w3.heap.size=q:=by rw[<-Ar.o,hq4]
 have hWq:=η (show Wb<q from by have:=Ar.o;omega);have aqm:w5.cell? ⟨Wb,1,none⟩=some (.slice ra ps.length rc):=by rw[<-h5,<-qZ];exact fB _ _ _ aI3
 have avV:w6.cell? ⟨Wb,1,none⟩=some (.slice ra ps.length rc):=by rw[<-h6,<-aqm];exact fB _ _ _ (by have:=hWq.o;show Wb<_;omega)
 have S1:=η (show gI.cls (λu:World=>u.cell? ⟨Wb,0,none⟩=some (.pointer (some ⟨t,0,none⟩))) w5 from gI.gF (by rw[<-h5,<-Lr];exact fB _ _ _ aI3));have S2:=η (show gI.cls (λu:World=>u.cell? ⟨Wb,0,none⟩=some (.pointer (some ⟨t,0,none⟩))) w6 from gI.gF (by rw[<-h6,<-Lr];refine(fB _ _ _ (by have:=hWq.o;show Wb<_;omega)).trans ?_;rw[<-h5];exact fB _ _ _ aI3));have RS6:=η (show w6.ownsRow w1.heap.size 122 2 (.slice ra ps.length rc) ps.length (j3 ps)from by rw[<-h6,<-h5];exact(UD.o.rs.alloc _).alloc _);have HNW:=η (show∀j u,[Value.pointer (some ⟨r,0,none⟩),.pointer (some ⟨q,0,none⟩)][j]? =some u->w6.cell? ((⟨q+1,0,none⟩:Addr).add j)=some u from by rw[<-h6,<-hq5];exact cell_two_new _ _ _ _);have HF6:=η (show Below w2.heap.size w2 w6 from by rw[<-h6,<-h5];exact(((B23.o.trans (show Below w2.heap.size w3 w4 from BD2.o)).alloc (by have:=Ar.o;omega) _).alloc (by rw[World.size_alloc];have:=Ar.o;omega) _));have HR6:=η (show kn w6 r (xf m)from by rw[<-h6,<-h5];exact(RD.o.alloc _).alloc _);have HM6:=η (show Mp.Map w6 m []from by refine MD.o.block ?_;rw[<-h6,<-h5];exact((Di _ _ (by rw[World.size_alloc];have:=Ar.o;omega)).trans (Di _ _ (by have:=Ar.o;omega))));have Qe:=η (show Row w6 q (Rp.pY t (.slice none 0 0) [.string (str []),.slice none 0 0,.slice none 0 0])from by rw[<-h6,<-h5,<-hq4];exact(Row.new _ _ _).alloc _);have hq6:w6.heap.size=q+2:=by rw[<-h6,World.size_alloc,hq5]
 have NE:=η (show∀g,(Value.slice ra ps.length rc).ownBlock=some g->g≠Wb/\g<w2.heap.size from λg hg=>⟨λe=>by subst e;have h1:=U2.o.trs _ hg;have h2:=U2.o.tW;omega,(U2.o.rs.lt g hg).2⟩);refine gI.two 4 11 _ _ κ rfl rfl rfl rfl ?_ ?_
 ·try go_frame
  go_wp2_with fail;refine⟨S0.o,?_⟩;refine gI.one 11 _ κ rfl rfl ?_
  try go_frame
  go_wp2_with fail;refine⟨S1.o,?_⟩;refine gI.one 12 _ κ rfl rfl ?_
  try go_frame
  exact t021
 try go_frame
 go_wp2_with fail;refine⟨S1.o,?_⟩;refine gI.two 4 12 _ _ κ rfl rfl rfl rfl ?_ ?_
 ·try go_frame
  go_wp2_with fail;refine⟨S1.o,?_⟩;refine gI.one 12 _ κ rfl rfl ?_
  try go_frame
  exact t021
 try go_frame
 go_wp2_with fail;refine⟨S1.o,?_⟩;refine gI.two 4 13 _ _ κ rfl rfl rfl rfl ?_ ?_
 ·try go_frame
  exact t021
 try go_frame
 go_wp2_with fail;refine⟨S2.o,?_⟩;refine gI.one 4 _ κ rfl rfl ?_
 try go_frame
 go_wp2_with fail;refine⟨S2.o,?_⟩;exact Eg
def XY w1 w t Wb τ ls mh lP(h:lx w1 w t Wb τ [] ls mh lP) kd(DM:¬kd=1) a s:Calls prog 28 #[.pointer (some ⟨Wb,0,none⟩),.agg #[.int .i64 kd,.int .i64 a,.string (str s)]] w (Kf w1 t Wb [] ls):=by have H:=η h;obtain⟨ra,rc,rfl⟩:=jB h.rs;clear h;go_enter func28,ntmps28;go_upto_region 1 with fail;have Ms:Below w.heap.size w (w.alloc (.cells #[.int .i64 kd,.int .i64 a,.string (str s)] 59)):=(Below.refl _ _).alloc ν _;have U2:=η (H.o.below Ms);have ho0:Row (w.alloc (.cells #[.int .i64 kd,.int .i64 a,.string (str s)] 59)) w.heap.size [.int .i64 kd,.int .i64 a,.string (str s)]:=Row.new _ _ _;have o0:=ho0.cell 0;rw[show [Value.int .i64 kd,.int .i64 a,.string (str s)][0]? =some (.int .i64 kd)from rfl]at o0;clear Ms ho0 H;obtain⟨K,hK⟩:∃K,w.heap.size=K:=⟨_,rfl⟩;rw[hK]at o0|-;clear hK;generalize w.alloc (.cells #[.int .i64 kd,.int .i64 a,.string (str s)] 59)=w2 at U2 o0|-;go_upto_region 8 with fail;have hcw:w2.cell? ⟨Wb,1,none⟩=some (.slice ra 0 rc):=U2.o.ru.cell 1;go_wp2_with fail;go_ret;exact⟨rfl,_,_,_,_,_,U2.o,by simp,by omega⟩
end
def t018{p:Prop}(h:p:=by
 go_wp2_with fail;refine⟨S1.o,?_⟩;refine gI.one 13 _ κ rfl rfl ?_
 try go_frame
 go_wp2_with fail;refine⟨S1.o,?_⟩;exact sh_tail):p:=h
section
open iz Go.Conc
open Go.RowKit
open Lw
open Ph (cb cl cr ci co gH ib ix jz nt jf)
open Tp (iT iy jk iw iQ)
def akF:(prog.info? 122).map (·.size)=some 2:=κ
def RY{w:World}{B n e v xs}(h:w.ownsRow B e 2 v n xs)(h0:0<n):∃g cap,v=.slice (some ⟨g,0,none⟩) n cap/\g<w.heap.size/\∀j u,xs[j]? =some u->w.cell? ⟨g,j,none⟩=some u:=by rcases h.2 with⟨_,h'⟩|⟨g,cap,cur,rfl,hb,hg,hnc,_,_,ht⟩;omega;refine⟨g,cap,rfl,(ae.1 hg).1,λj u hj=>?_⟩;have hl:=h.1;have IJ:j<xs.length:=(aB.1 hj).1;rw[<-hj,<-ht,aM ω];simp[World.cell?,hg]
noncomputable def SM:Code:=cb Tryz.f28
noncomputable def ST:Code:=cr (cr (cr (cr SM)))
def hS0:SM=.seq (cl SM) (cr SM):=rfl
def Zm:cr SM=.seq (cl (cr SM)) (cr (cr SM)):=rfl
def awi:cl (cr SM)=.seq (cl (cl (cr SM))) (cr (cl (cr SM))):=rfl
def Tv:cr (cr SM)=.seq (cl (cr (cr SM))) (cr (cr (cr SM))):=rfl
def awh:cl (cr (cr SM))=.seq (cl (cl (cr (cr SM)))) (cr (cl (cr (cr SM)))):=rfl
def hS3:cr (cr (cr SM))=.seq (cl (cr (cr (cr SM)))) ST:=rfl
noncomputable def sf:Frame:={(default:Frame)with fn:=28,kind:=.normal}
def ahF p q:Frame.enter prog 28 #[p,q] .normal=sf.at ⟨List.toArray (p::q::undef::undef::undef::undef::undef::undef::undef::undef::undef::undef::undef::undef::undef::undef::undef::undef::undef::undef::undef::undef::undef::undef::undef::undef::undef::undef::undef::undef::undef::undef::undef::undef::undef::undef::undef::undef::undef::undef::undef::undef::undef::undef::undef::undef::undef::undef::undef::undef::undef::undef::undef::undef::undef::undef::undef::undef::undef::undef::undef::undef::undef::undef::undef::undef::undef::undef::undef::undef::undef::undef::undef::undef::undef::undef::undef::undef::undef::undef::undef::undef::undef::undef::undef::undef::undef::undef::undef::undef::undef::undef::undef::undef::undef::undef::undef::undef::undef::undef::undef::undef::undef::undef::undef::undef::undef::undef::undef::undef::undef::undef::undef::undef::undef::undef::undef::undef::undef::undef::undef::undef::undef::undef::undef::undef::undef::undef::undef::undef::undef::undef::undef::undef::undef::undef::undef::undef::undef::undef::undef::undef::undef::undef::undef::undef::undef::undef::undef::undef::undef::undef::undef::undef::undef::undef::undef::undef::undef::undef::undef::undef::undef::[]),[]⟩ [.code SM]:=by unfold Frame.enter;rw[func28];kernel_rfl
def alV:prog.funcs[28]? =some Tryz.f28:=func28
def sh_tail{p:Prop}(h:p:=by
 refine gI.one 15 _ κ rfl rfl ?_;try go_frame
 refine gJ (o:=⟨none,_,_,_,_,_⟩) rfl _ _ _ rfl (K+1) [.pointer none,.pointer none] [.pointer (some ⟨p.r,0,none⟩),.pointer (some ⟨p.q,0,none⟩)] rfl rfl N5.o akF rfl rfl ?_;have bz:Below K w (w5.setRow (K+1) #[.pointer (some ⟨p.r,0,none⟩),.pointer (some ⟨p.q,0,none⟩)]):=below_setRow B5.o ω _;have pz:Row (w5.setRow (K+1) #[.pointer (some ⟨p.r,0,none⟩),.pointer (some ⟨p.q,0,none⟩)]) (K+1) [.pointer (some ⟨p.r,0,none⟩),.pointer (some ⟨p.q,0,none⟩)]:=N5.o.setRow [.pointer (some ⟨p.r,0,none⟩),.pointer (some ⟨p.q,0,none⟩)];have oz:Row (w5.setRow (K+1) #[.pointer (some ⟨p.r,0,none⟩),.pointer (some ⟨p.q,0,none⟩)]) K [.int .i64 kd,.int .i64 a,.string (str s)]:=O5.o.gX ω _;have UZ:=η (H.o.below (by rw[HK.o];exact bz));generalize w5.setRow (K+1) #[.pointer (some ⟨p.r,0,none⟩),.pointer (some ⟨p.q,0,none⟩)]=wz at bz pz oz UZ|-;refine⟨gI.gF ⟨UZ.o.ru.cell 1,oz.cell 1⟩,?_⟩;refine fg κ ?_ 0;show jk _ _ _ _ _;exact KK.o i p K wz _ _ _ _ _ _ _ _ _ _ _ _ _ _ _ _ _ _ _ _ _ _ _ _ _ _ _ _ _ _ _ _ _ _ _ _ _ _ _ _ _ _ _ _ _ _ _ _ _ _ _ _ _ _ _ _ _ _ _ _ _ _ _ _ _ _ _ _ _ _ _ _ _ _ _ _ _ _ _ _ _ _ _ _ _ _ _ _ _ _ _ _ _ _ _ _ _ _ _ _ _ _ _ _ _ _ _ _ _ _ _ _ _ _ _ _ _ _ _ _ _ _ _ _ _ _ _ _ _ _ _ _ _ _ _ _ _ _ _ _ _ _ _ _ _ _ _ _ _ _ _ _ _ _ _ _ _ _ _ _ HPI.o HK.o.symm (by rw[HK.o];exact bz) pz oz UZ.o):p:=h
def AP{Stop Wg cs} w1 w t Wb τ ps ls mh lP(h:lx w1 w t Wb τ ps ls mh lP) kd a s(DM:¬kd=1)(hn:ps.length<=2097152)(xy:0<ps.length) (ha: -9223372036854775808<=a/\a<9223372036854775808) (KK:∀(i:Nat)(p)(K)(wz)(x1 x2 x4 x5 x7 x8 x9 nz mR nd od mP m9 m4 n7 rm tI rU qw pN qa xD ym yl yj yh yg yf ye xZ xe xd x35 x36 x37 x38 x39 x40 x41 x42 x43 x44 x45 x46 x47 x48 x49 x50 x51 x52 x53 x54 x55 x56 x57 x58 x59 x60 x61 x62 x63 x64 x65 x66 x67 x68 x69 x70 x71 x72 x73 x74 x75 x76 x77 x78 x79 x80 x81 x82 x83 x84 x85 x86 x87 x88 x89 x90 x91 x92 x93 x94 x95 x96 x97 x98 x99 XG XF XE XD XC XB XA Xz Xy Xx Xv Xu Xt Xs Xr Xq Xp Xo Xn Xm Xl Xk Xj Xi Xh Xg Xe Xd Xc Xb Xa W9 W8 W6 WZ WY WV WU WQ WO WN WM WL WK WJ WI WH WG WE WD WC WB Wz Wy Wx Ww Wv Wu Wt afI afH afG afF),ps[i]? =some p->K=w.heap.size->Below w.heap.size w wz->Row wz (K+1) [.pointer (some ⟨p.r,0,none⟩),.pointer (some ⟨p.q,0,none⟩)]->Row wz K [.int .i64 kd,.int .i64 a,.string (str s)]->lx w1 wz t Wb τ ps ls mh lP->jk prog Stop (sf.at ⟨List.toArray (.pointer (some ⟨Wb,0,none⟩)::x1::x2::.pointer (some ⟨K,0,none⟩)::x4::x5::.pointer (some ⟨K+1,0,none⟩)::x7::x8::x9::nz::mR::nd::od::mP::m9::m4::n7::rm::tI::rU::qw::pN::qa::xD::ym::yl::yj::yh::yg::yf::ye::xZ::xe::xd::x35::x36::x37::x38::x39::x40::x41::x42::x43::x44::x45::x46::x47::x48::x49::x50::x51::x52::x53::x54::x55::x56::x57::x58::x59::x60::x61::x62::x63::x64::x65::x66::x67::x68::x69::x70::x71::x72::x73::x74::x75::x76::x77::x78::x79::x80::x81::x82::x83::x84::x85::x86::x87::x88::x89::x90::x91::x92::x93::x94::x95::x96::x97::x98::x99::XG::XF::XE::XD::XC::XB::XA::Xz::Xy::Xx::Xv::Xu::Xt::Xs::Xr::Xq::Xp::Xo::Xn::Xm::Xl::Xk::Xj::Xi::Xh::Xg::Xe::Xd::Xc::Xb::Xa::W9::W8::W6::WZ::WY::WV::WU::WQ::WO::WN::WM::WL::WK::WJ::WI::WH::WG::WE::WD::WC::WB::Wz::Wy::Wx::Ww::Wv::Wu::Wt::afI::afH::afG::afF::[]),[]⟩ [.code ST]) (Wg::cs) wz):jk prog Stop (Frame.enter prog 28 #[.pointer (some ⟨Wb,0,none⟩),.agg #[.int .i64 kd,.int .i64 a,.string (str s)]] .normal) (Wg::cs) w:=by
 rw[ahF];have KK:=η KK;have H:=η h;have hWl:=h.ru.lt;obtain⟨ra,rc,rfl⟩:=jB h.rs;obtain⟨i,hi,hil⟩:∃i:Nat,Ao.pick a ps.length=i/\i<ps.length:=by have:=Ao.agl a ps.length ω;exact⟨(Ao.pick a ps.length).toNat,by omega,by omega⟩
 obtain⟨p,hp⟩:∃p,ps[i]? =some p:=⟨_,ag hil⟩;obtain⟨g,cap,IF,Ia,hcg⟩:=RY h.rs ω;cases IF;obtain⟨e0,e1⟩:=xP ps i p hp;have c0:=hcg _ _ e0;have c1:=hcg _ _ e1;have HPI:=η hp;have T1:=η (λw=>Oi a ps.length w ω ω ha);rw[hi]at T1;clear h hcg e0 e1 ha hi hp;refine gH hS0 (ib (c':=.region _ _ _) rfl ?_);go_wp2_with fail;show jk _ _ _ _ _;obtain⟨K,hK⟩:∃K,w.heap.size=K:=⟨_,rfl⟩;rw[hK];have Ms:Below K w (w.alloc (.cells #[.int .i64 kd,.int .i64 a,.string (str s)] 59)):=by rw[<-hK];exact(Below.refl _ _).alloc ν _
 have ho0:Row (w.alloc (.cells #[.int .i64 kd,.int .i64 a,.string (str s)] 59)) K [.int .i64 kd,.int .i64 a,.string (str s)]:=by rw[<-hK];exact Row.new _ _ _
 have agT:(w.alloc (.cells #[.int .i64 kd,.int .i64 a,.string (str s)] 59)).heap.size=K+1:=by rw[World.size_alloc,hK]
 rw[hK]at hWl Ia;have B0:=η Ms;have O0:=η ho0;have U2:=η (H.o.below (by rw[hK];exact Ms));have d0:=(fb (w:=w) (Ms.block g Ia)).trans c0;have d1:=(fb (w:=w) (Ms.block g Ia)).trans c1;have o0:=ho0.cell 0;have o1:=ho0.cell 1;rw[show [Value.int .i64 kd,.int .i64 a,.string (str s)][0]? =some (.int .i64 kd)from rfl]at o0;rw[show [Value.int .i64 kd,.int .i64 a,.string (str s)][1]? =some (.int .i64 a)from rfl]at o1;clear c0 c1 Ms ho0;have HK:=η hK;clear hK;generalize w.alloc (.cells #[.int .i64 kd,.int .i64 a,.string (str s)] 59)=w2 at B0 O0 agT U2 d0 d1 o0 o1|-;refine gH Zm (gH awi (ib (c':=.region _ _ _) rfl ?_));go_wp2_with fail;show jk _ _ _ _ _;refine ix (t:=false) rfl (by first|rfl|(show Value.bool _=_;simp[DM])) (jz rfl ?_);have hcw:w2.cell? ⟨Wb,1,none⟩=some (.slice (some ⟨g,0,none⟩) ps.length rc):=U2.o.ru.cell 1;have p0:¬(ps.length:Int)=0:=ω;refine gH Tv (gH awh (ib (c':=.region _ _ _) rfl ?_));go_wp2_with fail;show jk _ _ _ _ _;refine ix (t:=false) rfl (by first|rfl|(show Value.bool _=_;simp;intro e;rw[e]at xy;simp at xy)) (jz rfl ?_);refine gH hS3 (ib (c':=.region _ _ _) rfl ?_);haveI iZ:Nonempty (gI.Of (λu:World=>u.cell? ⟨Wb,1,none⟩=some (.slice (some ⟨g,0,none⟩) ps.length rc)/\u.cell? ⟨K,1,none⟩=some (.int .i64 a))):=⟨⟨w2,hcw,o1⟩⟩;have Av:∀u:gI.Of (λu:World=>u.cell? ⟨Wb,1,none⟩=some (.slice (some ⟨g,0,none⟩) ps.length rc)/\u.cell? ⟨K,1,none⟩=some (.int .i64 a)),u.w.cell? ⟨Wb,1,none⟩=some (.slice (some ⟨g,0,none⟩) ps.length rc):=λu=>u.h.1;have DK:∀u:gI.Of (λu:World=>u.cell? ⟨Wb,1,none⟩=some (.slice (some ⟨g,0,none⟩) ps.length rc)/\u.cell? ⟨K,1,none⟩=some (.int .i64 a)),u.w.cell? ⟨K,1,none⟩=some (.int .i64 a):=λu=>u.h.2;refine gI.jl [0,1,2,3,4,5,6,7,8,9,10] 5 mixed κ rfl rfl aGj ξ rfl (λu:World=>u.cell? ⟨Wb,1,none⟩=some (.slice (some ⟨g,0,none⟩) ps.length rc)/\u.cell? ⟨K,1,none⟩=some (.int .i64 a)) ⟨hcw,o1⟩ ?_;show wpQuiet _ _ _ _ [_,_,_,_,_,_,_,_,_,_,_] _;repeat(go_big_quiet_step (fail))
 refine fe ?_;have S0:=η (show gI.cls (λu:World=>u.cell? ⟨Wb,1,none⟩=some (.slice (some ⟨g,0,none⟩) ps.length rc)/\u.cell? ⟨K,1,none⟩=some (.int .i64 a)) w2.drew from gI.gF ⟨hcw,o1⟩);have Lr:w2.drew.cell? ⟨Wb,1,none⟩=some (.slice (some ⟨g,0,none⟩) ps.length rc):=hcw;have q1:w2.drew.cell? ⟨K,1,none⟩=some (.int .i64 a):=o1;have q0:w2.drew.cell? ⟨g,i*2,none⟩=some (.pointer (some ⟨p.r,0,none⟩)):=d0;have q2:w2.drew.cell? ⟨g,i*2+1,none⟩=some (.pointer (some ⟨p.q,0,none⟩)):=d1;have Ar:w2.drew.heap.size=K+1:=agT;have UD:=η (U2.o.below (Below.refl _ _).drew);have BD:=η (B0.o.drew);have OD:=η (show Row w2.drew K _ from O0.o);clear hcw iZ Av DK d0 d1 o0 o1 B0 O0 U2;generalize w2.drew=w4 at Lr S0 q0 q1 q2 Ar UD BD OD|-;obtain⟨w5,h5⟩:∃w5,w4.alloc (.cells #[.pointer none,.pointer none] 122)=w5:=⟨_,rfl⟩;have hq5:w5.heap.size=K+2:=by rw[<-h5,World.size_alloc,Ar]
 have r0:w5.cell? ⟨g,i*2,none⟩=some (.pointer (some ⟨p.r,0,none⟩)):=by rw[<-h5,<-q0];exact fB _ _ _ (by rw[Ar];show g<_;omega)
 have r1:w5.cell? ⟨g,i*2+1,none⟩=some (.pointer (some ⟨p.q,0,none⟩)):=by rw[<-h5,<-q2];exact fB _ _ _ (by rw[Ar];show g<_;omega)
 have r2:w5.cell? ⟨Wb,1,none⟩=some (.slice (some ⟨g,0,none⟩) ps.length rc):=by rw[<-h5,<-Lr];exact fB _ _ _ (by rw[Ar];show Wb<_;omega)
 have r3:w5.cell? ⟨K,1,none⟩=some (.int .i64 a):=by rw[<-h5,<-q1];exact fB _ _ _ (by rw[Ar];show K<_;omega)
 have S1:=η (show gI.cls (λu:World=>u.cell? ⟨Wb,1,none⟩=some (.slice (some ⟨g,0,none⟩) ps.length rc)/\u.cell? ⟨K,1,none⟩=some (.int .i64 a)) w5 from gI.gF ⟨r2,r3⟩);have N5:=η (show Row w5 (K+1) [.pointer none,.pointer none]from by rw[<-h5,<-Ar];exact Row.new _ _ _);have B5:=η (show Below K w w5 from by rw[<-h5];exact BD.o.alloc ω _);have O5:=η (show Row w5 K _ from by rw[<-h5];exact OD.o.alloc _);clear q1 Lr UD BD OD r2 r3;have pr1:(i:Int)< (ps.length:Int):=ω;refine gI.two 11 14 _ _ κ rfl rfl rfl rfl ?_ ?_
 ·try go_frame
  go_wp2_with fail;refine(T1.o _).mono ?_;rintro e wx⟨rfl,hwx⟩;subst wx;go_wp2_with fail;refine⟨S0.o,?_⟩;refine gI.two 12 14 _ _ κ rfl rfl rfl rfl ?_ ?_
  ·try go_frame
   go_wp2_with fail;refine⟨S0.o,?_⟩;refine gI.two 13 14 _ _ κ rfl rfl rfl rfl ?_ ?_
   ·try go_frame
    go_wp2_with fail;refine⟨S0.o,?_⟩;refine gI.one 14 _ κ rfl rfl ?_
    try go_frame
    go_wp2_with fail;refine⟨S1.o,?_⟩;exact sh_tail
   try go_frame
   exact t018
  try go_frame
  go_wp2_with fail;refine⟨S1.o,?_⟩;refine gI.one 12 _ κ rfl rfl ?_
  try go_frame
  exact t018
 try go_frame
 go_wp2_with fail;refine⟨S1.o,?_⟩;refine gI.one 11 _ κ rfl rfl ?_
 try go_frame
 go_wp2_with fail;refine(T1.o _).mono ?_;rintro e wx⟨rfl,hwx⟩;subst wx;go_wp2_with fail;refine⟨S1.o,?_⟩;refine gI.one 12 _ κ rfl rfl ?_
 try go_frame
 exact t018
end
def t04{p:Prop}(h:p:=by
 rw[hE,hQ']at CA CB;rw[hQ']at HFU;clear hE hQ';have TY:=η (HT1.o.rT UY.o.rT HT1.o.lt);refine gI.one 6 _ κ rfl rfl ?_;try go_frame
 have T2:=η (CA.o wy TY.o HR.o HY.o.map HY.o.st.lt);go_wp2_with fail;refine T2.o.mono ?_;clear T2;rintro e wa⟨rfl,Te,hba⟩;have FA:Fr wy.heap.size (λk=>k=p.m) wy wa:=Fr.lG (S:=λk=>k=p.m) hba (.inl rfl);have PA:=η (FA.row PY.o ID ω);have OA:=η (FA.row OY.o hzo ω);have QA:=η (FA.row RQ.o RQ.o.lt (λh=>hN.2.2.1 h.symm));have NA:=η (FA.own HY.o.own (λg hg=>⟨(HY.o.own.lt g hg).2,(hN.2.2.2 g hg).1⟩));have TBA:=η (aeA.o.rT (UY.o.rT.trans (FA.b.rT UY.o.rT.size (λk hk=>by have:=(UY.o.F8 HPI.o).2.1;have Tg:k=p.m:=hk;omega))));have MA:=η Te;have BA:=η hba;clear Te hba FA;go_wp2_with fail;refine⟨gI.gF ⟨PA.o.cell 0,PA.o.cell 1,OA.o.cell 2⟩,?_⟩;refine gI.one 11 _ κ rfl rfl ?_;try go_frame
 have T3:=η (CB.o wa TBA.o QA.o NA.o);go_wp2_with fail;refine T3.o.mono ?_;clear T3;rintro e wb⟨rfl,VK⟩;obtain⟨τ',p',hU⟩:=UY.o.aaQ HPI.o HFU.o MA.o BA.o RO1.o RO2.o RT1.o RT2.o VK;have UU:=η hU;obtain⟨pv',_,hbb,_⟩:=VK;have FB:Fr wa.heap.size (λk=>k=p.q) wa wb:=Fr.lG (S:=λk=>k=p.q) hbb (.inl rfl);have PB:=η (FB.row PA.o PA.o.lt ω);have OB:=η (FB.row OA.o OA.o.lt ω);clear hU hbb FB;go_wp2_with fail;refine⟨gI.gF ⟨PB.o.cell 0,PB.o.cell 1,OB.o.cell 2⟩,?_⟩;refine gI.one 12 _ κ rfl rfl ?_;try go_frame
 go_wp2_with fail;refine⟨gI.gF ⟨PB.o.cell 0,PB.o.cell 1,OB.o.cell 2⟩,?_⟩;refine gI.one 13 _ κ rfl rfl ?_
 try go_frame
 go_wp2_with fail;refine⟨gI.gF ⟨PB.o.cell 0,PB.o.cell 1,OB.o.cell 2⟩,?_⟩;refine fg κ ?_ 0
 go_wp2_with fail;go_ret;exact⟨by first|rfl|simp,_,_,_,_,_,UU.o,by simp,by omega⟩):p:=h
section
open iz Go.Conc
open Go.RowKit
open Lw
open Ph (cb cl cr ci co nt)
open Tp (iT iy jk iw iQ kQ iH iW)
def Lw.su.ne{w t i τ p}(h:su w t τ i p):p.r≠p.m/\p.r≠p.q/\p.m≠p.q/\∀g,p.pv.ownBlock=some g->g≠p.m/\g≠p.q/\g≠p.r:=by have h1:=h.tr;have h2:=h.tm;have h3:=h.tq;refine⟨λe=>?_,λe=>?_,λe=>?_,λg hg=>?_⟩;rw[e]at h1;omega;rw[e]at h1;omega;rw[e]at h2;omega;have h4:=h.tg g hg;refine⟨λe=>?_,λe=>?_,λe=>?_⟩<;>(rw[e]at h4;omega)
def wO{w:World}{B B' n z e v xs}(h:w.ownsRow B e z v n xs)(hb:B'<=B):w.ownsRow B' e z v n xs:=⟨h.1,h.2.imp id λ⟨g,cap,cur,h0,h1,h2⟩=>⟨g,cap,cur,h0,ak hb h1,h2⟩⟩
def Lw.lx.F8{w1 wz t Wb τ ps ls mh lP}(h:lx w1 wz t Wb τ ps ls mh lP){i:Nat}{p}(hp:ps[i]? =some p):w1.heap.size<=p.r/\w1.heap.size<=p.m/\w1.heap.size<=p.q:=by have oL:=h.iG i p hp;have h1:=oL.tr;have h2:=oL.tm;have h3:=oL.tq;refine⟨Nat.not_lt.1 λhl=>?_,Nat.not_lt.1 λhl=>?_,Nat.not_lt.1 λhl=>?_⟩<;>(have:=h.low _ hl;omega)
def Lw.lx.aaQ{w1 wz wa wb:World}{t Wb:Nat}{τ:Nat->Nat}{ps:List PR}{ls:List Value}{mh lP:Value}(h:lx w1 wz t Wb τ ps ls mh lP){i:Nat}{p:PR}(hp:ps[i]? =some p){P':List Mp.B}(xS:∀x∈P',x≠ []) (hm:Mp.Map wa p.m P') (ha:iL wz.heap.size p.m wz wa) {tv mv:Value} (o1:wz.ownsRow (p.q+1) 9 1 tv p.s.jX.length (wt p.s.jX)) (o2:wz.ownsRow (p.q+1) 3 1 mv p.s.missing.length (yo p.s.missing)) (t1:∀g,tv.ownBlock=some g->τ g=9+6*i) (t2:∀g,mv.ownBlock=some g->τ g=9+6*i) (hb:Uk wa wb p.q t p.pv [.string (str p.s.header),tv,mv] p.P P'):∃τ' p',lx w1 wb t Wb τ' (ps.set i p') ls mh lP:=by obtain⟨pv',h1,h2,h3⟩:=hb;have oL:=h.iG i p hp;obtain⟨n1,n2,n3,n4⟩:=oL.ne;have F1:Fr wz.heap.size (λk=>k=p.m∨k=p.q) wz wa:=(Fr.lG (S:=λk=>k=p.m∨k=p.q) ha (.inl (.inl rfl)));have F2:Fr wz.heap.size (λk=>k=p.m∨k=p.q) wz wb:=F1.trans ((Fr.lG (S:=λk=>k=p.m∨k=p.q) h2 (.inl (.inr rfl))).mono ha.size (λk _ h=>h));obtain⟨τ',pK,auh⟩:∃τ':Nat->Nat,(∀b,b<wz.heap.size->τ' b=τ b)/\∀b,wz.heap.size<=b->τ' b=7+6*i:=⟨λb=>if b<wz.heap.size then τ b else 7+6*i,λb hb=>if_pos hb,λb hb=>if_neg ω⟩;refine⟨τ',{p with P:=P',pv:=pv'},h.afW hp rfl rfl F2.b (λk hk _=>?_) pK ⟨?_,hm.block (h2.block p.m hm.lt n3),⟨tv,mv,h1,?_,?_,?_,?_⟩,?_,xS,(pK _ oL.st.lt).trans oL.tr,(pK _ oL.map.lt).trans oL.tm,(pK _ oL.ref.lt).trans oL.tq,?_⟩⟩;have:=oL.tm;have:=oL.tq;rcases hk with rfl|rfl<;>omega;refine(oL.st.Cu pK).fr F2.b (λhs=>?_) (λk hs hk=>?_);rcases hs with hs|hs;exact n1 hs;exact n2 hs;have:=oL.tm;have:=oL.tq;have:=pK k hk;rcases hs with rfl|rfl<;>omega;exact F2.own o1 (λg hg=>⟨(o1.lt g hg).2,λhs=>by have:=t1 g hg;have:=oL.tm;have:=oL.tq;rcases hs with rfl|rfl<;>omega⟩);exact F2.own o2 (λg hg=>⟨(o2.lt g hg).2,λhs=>by have:=t2 g hg;have:=oL.tm;have:=oL.tq;rcases hs with rfl|rfl<;>omega⟩);exact λg hg=>(pK g (o1.lt g hg).2).trans (t1 g hg);exact λg hg=>(pK g (o2.lt g hg).2).trans (t2 g hg);rcases h3 with⟨rfl,rfl⟩|h3;exact F2.own oL.own (λg hg=>⟨(oL.own.lt g hg).2,λhs=>by obtain⟨a1,a2,_⟩:=n4 g hg;rcases hs with hs|hs<;>contradiction⟩);exact wO h3 (by have:=oL.ref.lt;have:=ha.size;show p.q+1<=_;omega);rcases h3 with⟨rfl,rfl⟩|h3;exact λg hg=>(pK g (oL.own.lt g hg).2).trans (oL.tg g hg);exact λg hg=>auh g (by have:=(h3.lt g hg).1;have:=ha.size;omega)
def Mp.drop_eq(P:List Mp.B)(id:List UInt8)(nU:Pl.Up Mk.gC P):Mp.GZ P id=(Pl.at' Mk.gC id P).2/\Mp.Py P id=Pl.del Mk.gC id P:=by
 unfold Mp.GZ Mp.Py;by_cases h:id.length=32;simp[h];have h2:(Pl.at' Mk.gC id P).2=false:=by cases hh:(Pl.at' Mk.gC id P).2;rfl;obtain⟨t,ht,e⟩:=(Pl.at_mem Mk.gC id P nU).1 hh;exact absurd (e▸Mk.mS t) h
 unfold Pl.del;simp[h,h2]
def Mp.ZV{P:List Mp.B}(s:List UInt8)(h:∀x∈P,x≠ []):∀x∈Mp.P9 P (Wr.j2 s),x≠ []:=by
 cases hx:Wr.j2 s with
 |bad n=>exact h|ok t r=>
 intro x hm;have ht:t≠ []:=by
  obtain⟨r2,qX⟩:∃r2,Wr.tx s=.ok t r2:=by
   have wV:(Wr.tx s).bind (λa r=>if r=[]then .ok a r else .bad 5)=.ok t r:=hx;cases hb:Wr.tx s with
   |bad e=>rw[hb]at wV;cases wV
   |ok u q=>rw[hb]at wV;have h2:(if q=[]then(.ok u q:Wr.R (List UInt8))else .bad 5)=.ok t r:=wV;split at h2;cases h2;exact⟨_,rfl⟩;cases h2
  exact(Wr.QC qX).1
 unfold Mp.P9 at hm;dsimp only at hm;split at hm;exact h x hm;split at hm;exact h x hm;unfold Pl.ins at hm;simp only[bx,cn]at hm;rcases hm with(hm|rfl)|hm;exact h x (eu hm);exact ht;exact h x (List.mem_of_mem_drop hm)
def Pl.adK{P:List Mp.B}(s:List UInt8)(h:∀x∈P,x≠ []):∀x∈Pl.del Mk.gC s P,x≠ []:=by intro x hm;unfold Pl.del at hm;split at hm;simp only[bx]at hm;rcases hm with hm|hm;exact h x (eu hm);exact h x (List.mem_of_mem_drop hm);exact h x hm
def aa5 w1 w t Wb τ ps ls mh lP(h:lx w1 w t Wb τ ps ls mh lP)(hT:km w1)(xT:TB w1 t) a s(hn:ps.length<=2097152)(xy:0<ps.length) (ha: -9223372036854775808<=a/\a<9223372036854775808) (hs:s.length<=9223372036854775807):kQ prog 28 #[.pointer (some ⟨Wb,0,none⟩),.agg #[.int .i64 2,.int .i64 a,.string (str s)]] w (wh w1 t Wb ps ls):=λWg cs Stop KF=>by
 refine iH iy (iW λHx n0=>?_);have h0:=h.re Hx n0;clear h;generalize w.re Hx n0=w0 at h0|-;refine AP w1 w0 t Wb τ ps ls mh lP h0 2 a s ω hn xy ha ?_;intro i p K wz x1 x2 x4 x5 x7 x8 x9 nz mR nd od mP m9 m4 n7 rm tI rU qw pN qa xD ym yl yj yh yg yf ye xZ xe xd x35 x36 x37 x38 x39 x40 x41 x42 x43 x44 x45 x46 x47 x48 x49 x50 x51 x52 x53 x54 x55 x56 x57 x58 x59 x60 x61 x62 x63 x64 x65 x66 x67 x68 x69 x70 x71 x72 x73 x74 x75 x76 x77 x78 x79 x80 x81 x82 x83 x84 x85 x86 x87 x88 x89 x90 x91 x92 x93 x94 x95 x96 x97 x98 x99 XG XF XE XD XC XB XA Xz Xy Xx Xv Xu Xt Xs Xr Xq Xp Xo Xn Xm Xl Xk Xj Xi Xh Xg Xe Xd Xc Xb Xa W9 W8 W6 WZ WY WV WU WQ WO WN WM WL WK WJ WI WH WG WE WD WC WB Wz Wy Wx Ww Wv Wu Wt afI afH afG afF hp hK hb pz oz uz;refine nt alV rfl rfl ?_ (λv w' hv=>iw (KF v w' hv));clear KF;have HT1:=η hT;have aeA:=η xT;have HPI:=η hp;have PZ:=η pz;have OZ:=η oz;have UZ:=η uz;have HP:=η (uz.iG i p hp);have ID:=pz.lt;have hzo:=oz.lt;have z0:wz.cell? ⟨K,0,none⟩=some (.int .i64 2):=oz.cell 0;have Zn:=h0.iG i p hp;have Qh:=Zn.st.lt;have Ay:=Zn.map.lt;have uZ:=Zn.ref.lt;have hWl:=h0.ru.lt;rw[<-hK]at Qh Ay uZ hWl;clear hT xT hp pz oz uz hb h0 hK Zn;generalize hQ:bodyPost prog Tryz.f28 _=Q;simp only[ST,SM,Ph.cb,Tryz.f28,cV,Ph.cr];subst hQ;go_upto_region 13 with fail;haveI iZ:Nonempty (gI.Of (λu:World=>u.cell? ⟨K+1,0,none⟩=some (.pointer (some ⟨p.r,0,none⟩))/\u.cell? ⟨K+1,1,none⟩=some (.pointer (some ⟨p.q,0,none⟩))/\u.cell? ⟨K,2,none⟩=some (.string (str s)))):=⟨⟨wz,PZ.o.cell 0,PZ.o.cell 1,OZ.o.cell 2⟩⟩;have Av:∀u:gI.Of (λu:World=>u.cell? ⟨K+1,0,none⟩=some (.pointer (some ⟨p.r,0,none⟩))/\u.cell? ⟨K+1,1,none⟩=some (.pointer (some ⟨p.q,0,none⟩))/\u.cell? ⟨K,2,none⟩=some (.string (str s))),u.w.cell? ⟨K+1,0,none⟩=some (.pointer (some ⟨p.r,0,none⟩)):=λu=>u.h.1;have DK:∀u:gI.Of (λu:World=>u.cell? ⟨K+1,0,none⟩=some (.pointer (some ⟨p.r,0,none⟩))/\u.cell? ⟨K+1,1,none⟩=some (.pointer (some ⟨p.q,0,none⟩))/\u.cell? ⟨K,2,none⟩=some (.string (str s))),u.w.cell? ⟨K+1,1,none⟩=some (.pointer (some ⟨p.q,0,none⟩)):=λu=>u.h.2.1;have pZ:∀u:gI.Of (λu:World=>u.cell? ⟨K+1,0,none⟩=some (.pointer (some ⟨p.r,0,none⟩))/\u.cell? ⟨K+1,1,none⟩=some (.pointer (some ⟨p.q,0,none⟩))/\u.cell? ⟨K,2,none⟩=some (.string (str s))),u.w.cell? ⟨K,2,none⟩=some (.string (str s)):=λu=>u.h.2.2;refine gI.jl [0,1,2,3,4,5,7,8,9,10] 4 mixed κ rfl rfl θ ξ rfl (λu:World=>u.cell? ⟨K+1,0,none⟩=some (.pointer (some ⟨p.r,0,none⟩))/\u.cell? ⟨K+1,1,none⟩=some (.pointer (some ⟨p.q,0,none⟩))/\u.cell? ⟨K,2,none⟩=some (.string (str s))) ⟨PZ.o.cell 0,PZ.o.cell 1,OZ.o.cell 2⟩ ?_;show wpQuiet _ _ _ _ [_,_,_,_,_,_,_,_,_,_] _;repeat(go_big_quiet_step (fail))
 refine fe ?_;clear Av DK pZ iZ z0;have PY:=η (show Row wz.drew (K+1) _ from PZ.o);have OY:=η (show Row wz.drew K _ from OZ.o);have UY:=η (UZ.o.below (Below.refl _ _).drew);have HY:=η (UY.o.iG i p HPI.o);have ID:K+1<wz.drew.heap.size:=ID;have hzo:K<wz.drew.heap.size:=hzo;clear PZ OZ UZ;generalize wz.drew=wy at PY OY UY HY ID hzo|-;have hN:=HP.o.ne;obtain⟨tv,mv,rq,ro1,ro2,rt1,rt2⟩:=HY.o.ref;have RQ:=η rq;have RO1:=η ro1;have RO2:=η ro2;have RT1:=η rt1;have RT2:=η rt2;clear rq ro1 ro2 rt1 rt2;have HR:Hid (wy.cell? ⟨p.r,0,none⟩=some (.map (some p.m))):=η HY.o.st.cell;obtain⟨E,hE⟩:∃E,Mp.Cj p.P (Wr.j2 s)=E:=⟨_,rfl⟩;obtain⟨Q',hQ'⟩:∃Q',Mp.P9 p.P (Wr.j2 s)=Q':=⟨_,rfl⟩;have CA:=η (λu hT hr hM hw=>ZU s p.r p.m p.P u hT hs hr hM hw HP.o.ne.1);have CB:=η (λu hT hq ho=>RH p.q t (p.q+1) p.pv [.string (str p.s.header),tv,mv] p.P s u hT hq ho HP.o.map.short HP.o.map.le hs);have HFU:=η (Mp.ZV s HP.o.full);exact t04
def step_drop w1 w t Wb τ ps ls mh lP(h:lx w1 w t Wb τ ps ls mh lP)(hT:km w1)(xT:TB w1 t) a s(hn:ps.length<=2097152)(xy:0<ps.length) (ha: -9223372036854775808<=a/\a<9223372036854775808) (hs:s.length<=9223372036854775807):kQ prog 28 #[.pointer (some ⟨Wb,0,none⟩),.agg #[.int .i64 3,.int .i64 a,.string (str s)]] w (wh w1 t Wb ps ls):=λWg cs Stop KF=>by
 refine iH iy (iW λHx n0=>?_);have h0:=h.re Hx n0;clear h;generalize w.re Hx n0=w0 at h0|-;refine AP w1 w0 t Wb τ ps ls mh lP h0 3 a s ω hn xy ha ?_;intro i p K wz x1 x2 x4 x5 x7 x8 x9 nz mR nd od mP m9 m4 n7 rm tI rU qw pN qa xD ym yl yj yh yg yf ye xZ xe xd x35 x36 x37 x38 x39 x40 x41 x42 x43 x44 x45 x46 x47 x48 x49 x50 x51 x52 x53 x54 x55 x56 x57 x58 x59 x60 x61 x62 x63 x64 x65 x66 x67 x68 x69 x70 x71 x72 x73 x74 x75 x76 x77 x78 x79 x80 x81 x82 x83 x84 x85 x86 x87 x88 x89 x90 x91 x92 x93 x94 x95 x96 x97 x98 x99 XG XF XE XD XC XB XA Xz Xy Xx Xv Xu Xt Xs Xr Xq Xp Xo Xn Xm Xl Xk Xj Xi Xh Xg Xe Xd Xc Xb Xa W9 W8 W6 WZ WY WV WU WQ WO WN WM WL WK WJ WI WH WG WE WD WC WB Wz Wy Wx Ww Wv Wu Wt afI afH afG afF hp hK hb pz oz uz;refine nt alV rfl rfl ?_ (λv w' hv=>iw (KF v w' hv));clear KF;have HT1:=η hT;have aeA:=η xT;have HPI:=η hp;have PZ:=η pz;have OZ:=η oz;have UZ:=η uz;have HP:=η (uz.iG i p hp);have ID:=pz.lt;have hzo:=oz.lt;have z0:wz.cell? ⟨K,0,none⟩=some (.int .i64 3):=oz.cell 0;have Zn:=h0.iG i p hp;have Qh:=Zn.st.lt;have Ay:=Zn.map.lt;have uZ:=Zn.ref.lt;have hWl:=h0.ru.lt;rw[<-hK]at Qh Ay uZ hWl;clear hT xT hp pz oz uz hb h0 hK Zn;generalize hQ:bodyPost prog Tryz.f28 _=Q;simp only[ST,SM,Ph.cb,Tryz.f28,cV,Ph.cr];subst hQ;go_upto_region 15 with fail;haveI iZ:Nonempty (gI.Of (λu:World=>u.cell? ⟨K+1,0,none⟩=some (.pointer (some ⟨p.r,0,none⟩))/\u.cell? ⟨K+1,1,none⟩=some (.pointer (some ⟨p.q,0,none⟩))/\u.cell? ⟨K,2,none⟩=some (.string (str s)))):=⟨⟨wz,PZ.o.cell 0,PZ.o.cell 1,OZ.o.cell 2⟩⟩;have Av:∀u:gI.Of (λu:World=>u.cell? ⟨K+1,0,none⟩=some (.pointer (some ⟨p.r,0,none⟩))/\u.cell? ⟨K+1,1,none⟩=some (.pointer (some ⟨p.q,0,none⟩))/\u.cell? ⟨K,2,none⟩=some (.string (str s))),u.w.cell? ⟨K+1,0,none⟩=some (.pointer (some ⟨p.r,0,none⟩)):=λu=>u.h.1;have DK:∀u:gI.Of (λu:World=>u.cell? ⟨K+1,0,none⟩=some (.pointer (some ⟨p.r,0,none⟩))/\u.cell? ⟨K+1,1,none⟩=some (.pointer (some ⟨p.q,0,none⟩))/\u.cell? ⟨K,2,none⟩=some (.string (str s))),u.w.cell? ⟨K+1,1,none⟩=some (.pointer (some ⟨p.q,0,none⟩)):=λu=>u.h.2.1;have pZ:∀u:gI.Of (λu:World=>u.cell? ⟨K+1,0,none⟩=some (.pointer (some ⟨p.r,0,none⟩))/\u.cell? ⟨K+1,1,none⟩=some (.pointer (some ⟨p.q,0,none⟩))/\u.cell? ⟨K,2,none⟩=some (.string (str s))),u.w.cell? ⟨K,2,none⟩=some (.string (str s)):=λu=>u.h.2.2;refine gI.jl [0,1,2,3,4,5,7,8,9,10] 4 mixed κ rfl rfl θ ξ rfl (λu:World=>u.cell? ⟨K+1,0,none⟩=some (.pointer (some ⟨p.r,0,none⟩))/\u.cell? ⟨K+1,1,none⟩=some (.pointer (some ⟨p.q,0,none⟩))/\u.cell? ⟨K,2,none⟩=some (.string (str s))) ⟨PZ.o.cell 0,PZ.o.cell 1,OZ.o.cell 2⟩ ?_;show wpQuiet _ _ _ _ [_,_,_,_,_,_,_,_,_,_] _;repeat(go_big_quiet_step (fail))
 refine fe ?_;clear Av DK pZ iZ z0;have PY:=η (show Row wz.drew (K+1) _ from PZ.o);have OY:=η (show Row wz.drew K _ from OZ.o);have UY:=η (UZ.o.below (Below.refl _ _).drew);have HY:=η (UY.o.iG i p HPI.o);have ID:K+1<wz.drew.heap.size:=ID;have hzo:K<wz.drew.heap.size:=hzo;clear PZ OZ UZ;generalize wz.drew=wy at PY OY UY HY ID hzo|-;have hN:=HP.o.ne;obtain⟨tv,mv,rq,ro1,ro2,rt1,rt2⟩:=HY.o.ref;have RQ:=η rq;have RO1:=η ro1;have RO2:=η ro2;have RT1:=η rt1;have RT2:=η rt2;clear rq ro1 ro2 rt1 rt2;have HR:Hid (wy.cell? ⟨p.r,0,none⟩=some (.map (some p.m))):=η HY.o.st.cell;obtain⟨E,hE⟩:∃E,(Pl.at' Mk.gC s p.P).2=E:=⟨_,rfl⟩;obtain⟨Q',hQ'⟩:∃Q',Pl.del Mk.gC s p.P=Q':=⟨_,rfl⟩;have CA:=η (λ(u:World) (_:km u) hr hM hw=>TI s p.r p.m p.P u hs hr hM hw HP.o.ne.1);have CB:=η (λu hT hq ho=>NC p.q t (p.q+1) p.pv [.string (str p.s.header),tv,mv] p.P s u hT hq ho HP.o.map.short HP.o.map.le);rw[(Mp.drop_eq p.P s HP.o.map.up).1,(Mp.drop_eq p.P s HP.o.map.up).2]at CA;have HFU:=η (Pl.adK s HP.o.full);exact t04
end
section
open iz Go.Conc
open Go.RowKit
open Lw
open Ph (cb cl cr ci co nt)
open Tp (iT iy jk iw iQ kQ iH iW)
def aoh w1 w t Wb τ ps ls mh lP(h:lx w1 w t Wb τ ps ls mh lP)(hT:km w1)(xT:TB w1 t) a s(hn:ps.length<=2097152)(xy:0<ps.length)(hln:ls.length<=4194304) (ha: -9223372036854775808<=a/\a<9223372036854775808):kQ prog 28 #[.pointer (some ⟨Wb,0,none⟩),.agg #[.int .i64 4,.int .i64 a,.string (str s)]] w (wh w1 t Wb ps ls):=λWg cs Stop KF=>by
 refine iH iy (iW λHx n0=>?_);have h0:=h.re Hx n0;clear h;generalize w.re Hx n0=w0 at h0|-;refine AP w1 w0 t Wb τ ps ls mh lP h0 4 a s ω hn xy ha ?_;intro i p K wz x1 x2 x4 x5 x7 x8 x9 nz mR nd od mP m9 m4 n7 rm tI rU qw pN qa xD ym yl yj yh yg yf ye xZ xe xd x35 x36 x37 x38 x39 x40 x41 x42 x43 x44 x45 x46 x47 x48 x49 x50 x51 x52 x53 x54 x55 x56 x57 x58 x59 x60 x61 x62 x63 x64 x65 x66 x67 x68 x69 x70 x71 x72 x73 x74 x75 x76 x77 x78 x79 x80 x81 x82 x83 x84 x85 x86 x87 x88 x89 x90 x91 x92 x93 x94 x95 x96 x97 x98 x99 XG XF XE XD XC XB XA Xz Xy Xx Xv Xu Xt Xs Xr Xq Xp Xo Xn Xm Xl Xk Xj Xi Xh Xg Xe Xd Xc Xb Xa W9 W8 W6 WZ WY WV WU WQ WO WN WM WL WK WJ WI WH WG WE WD WC WB Wz Wy Wx Ww Wv Wu Wt afI afH afG afF hp hK hb pz oz uz;refine nt alV rfl rfl ?_ (λv w' hv=>iw (KF v w' hv));clear KF;have HT1:=η hT;have aeA:=η xT;have HPI:=η hp;have PZ:=η pz;have OZ:=η oz;have UZ:=η uz;have HP:=η (uz.iG i p hp);have ID:=pz.lt;have hzo:=oz.lt;have z0:wz.cell? ⟨K,0,none⟩=some (.int .i64 4):=oz.cell 0;have Zn:=h0.iG i p hp;have Qh:=Zn.st.lt;have Ay:=Zn.map.lt;have uZ:=Zn.ref.lt;have hWl:=h0.ru.lt;rw[<-hK]at Qh Ay uZ hWl;clear hT xT hp pz oz uz hb h0 hK Zn;generalize hQ:bodyPost prog Tryz.f28 _=Q;simp only[ST,SM,Ph.cb,Tryz.f28,cV,Ph.cr];subst hQ;have z1:wz.cell? ⟨K+1,0,none⟩=some (.pointer (some ⟨p.r,0,none⟩)):=PZ.o.cell 0;have HY:=η (UZ.o.iG i p HPI.o);obtain⟨tv,mv,rq,_,_,_,_⟩:=HY.o.ref;have RQ:=η rq;clear rq;have T2:=η (anb p.r p.m p.P wz HY.o.st.cell HY.o.map);go_wp2_with fail;refine T2.o.mono ?_;clear T2 z0 z1;rintro e wa⟨v,rfl,hva,hba⟩;have BA:=η (UZ.o.rT.trans (.of (hba.mono UZ.o.rT.size)));have PA:=η (PZ.o.below hba ID);have z2:wa.cell? ⟨K+1,1,none⟩=some (.pointer (some ⟨p.q,0,none⟩)):=PA.o.cell 1;have T3:=η (ajY p.q t (p.q+1) p.pv [.string (str p.s.header),tv,mv] p.P wa (aeA.o.rT BA.o) (RQ.o.below hba RQ.o.lt) (gM HY.o.own hba ν) HY.o.map.short HY.o.map.le);have VA:=η hva;have DA:=η hba;clear hva hba;go_wp2_with fail;refine T3.o.mono ?_;clear T3 z2;rintro e wb⟨v2,rfl,hvb,hbb⟩;have VB:=η (gM VA.o hbb ν);have DB:=η (DA.o.trans (hbb.mono DA.o.size));have T4:=η (ajR v v2 (p.P.map Mk.gC) wb (oV VB.o (by rw[bk])) (oV hvb (by rw[bk])) (by rw[bk];have:=HP.o.map.le;omega));clear hvb hbb;go_wp2_with fail;refine T4.o.mono ?_;clear T4;rintro e wc'⟨rfl,hbc⟩;have VC:=η (gM VB.o hbc ν);have DC:=η (DB.o.trans (hbc.mono DB.o.size));clear hbc;have hle:=HP.o.map.le;have hzc:=DC.o.size;have NV:=η (show∀g,v.ownBlock=some g->wz.heap.size<=g from λg hg=>(VC.o.lt g hg).1);have NL:=η (show∀g,lP.ownBlock=some g->g<wz.heap.size/\g≠Wb from λg hg=>⟨(UZ.o.lso.lt g hg).2,λe=>by have h1:=UZ.o.tls g hg;have h2:=UZ.o.tW;rw[e]at h1;omega⟩);have T5:=η (akv Wb t wz.heap.size w1.heap.size _ lP v (p.P.map Mk.gC) ls wc' (UZ.o.ru.below DC.o UZ.o.ru.lt) (by rw[bk];exact VC.o) (gM UZ.o.lso DC.o ν) (λg hg=>by have:=NV.o g hg;omega) (λg hg=>(NL.o g hg).2) (λg hg he=>by have:=NV.o g hg;have:=(NL.o g he).1;omega) (by rw[bk];omega) hln hzc (by have:=UZ.o.rT.size;omega));go_wp2_with fail;refine T5.o.mono ?_;clear T5;rintro e wd⟨rfl,lv',sj,hW,hlv,hls,Ze,ho2,apL,hF⟩;have UU:=η (UZ.o.list (n:=(p.P.map Mk.gC).length+2) (by rw[bk];omega) ((Fr.gL DC.o).trans (hF.mono hzc (λk hk hs=>by rcases hs with h|h|h;exact .inl h;(have:=NV.o k h;omega);exact .inr h))).b hW hlv hls (ho2.imp id λ⟨g,h1,h2⟩=>⟨g,h1,by omega⟩) apL)
 clear hW hlv hls Ze ho2 apL hF;go_wp2_with fail;go_ret;exact⟨rfl,_,_,_,_,_,UU.o,by omega,by simp⟩
def ajO w1 w t Wb τ ps ls mh lP(h:lx w1 w t Wb τ ps ls mh lP)(hT:km w1)(xT:TB w1 t) kd(DM:¬kd=1)(BN:¬kd=2)(II:¬kd=3)(hk4:¬kd=4)(hk5:¬kd=5)(hk6:¬kd=6) a s(hn:ps.length<=2097152)(xy:0<ps.length) (ha: -9223372036854775808<=a/\a<9223372036854775808):kQ prog 28 #[.pointer (some ⟨Wb,0,none⟩),.agg #[.int .i64 kd,.int .i64 a,.string (str s)]] w (wh w1 t Wb ps ls):=λWg cs Stop KF=>by refine iH iy (iW λHx n0=>?_);have h0:=h.re Hx n0;clear h;generalize w.re Hx n0=w0 at h0|-;refine AP w1 w0 t Wb τ ps ls mh lP h0 kd a s ω hn xy ha ?_;intro i p K wz x1 x2 x4 x5 x7 x8 x9 nz mR nd od mP m9 m4 n7 rm tI rU qw pN qa xD ym yl yj yh yg yf ye xZ xe xd x35 x36 x37 x38 x39 x40 x41 x42 x43 x44 x45 x46 x47 x48 x49 x50 x51 x52 x53 x54 x55 x56 x57 x58 x59 x60 x61 x62 x63 x64 x65 x66 x67 x68 x69 x70 x71 x72 x73 x74 x75 x76 x77 x78 x79 x80 x81 x82 x83 x84 x85 x86 x87 x88 x89 x90 x91 x92 x93 x94 x95 x96 x97 x98 x99 XG XF XE XD XC XB XA Xz Xy Xx Xv Xu Xt Xs Xr Xq Xp Xo Xn Xm Xl Xk Xj Xi Xh Xg Xe Xd Xc Xb Xa W9 W8 W6 WZ WY WV WU WQ WO WN WM WL WK WJ WI WH WG WE WD WC WB Wz Wy Wx Ww Wv Wu Wt afI afH afG afF hp hK hb pz oz uz;refine nt alV rfl rfl ?_ (λv w' hv=>iw (KF v w' hv));clear KF;have HT1:=η hT;have aeA:=η xT;have HPI:=η hp;have PZ:=η pz;have OZ:=η oz;have UZ:=η uz;have HP:=η (uz.iG i p hp);have ID:=pz.lt;have hzo:=oz.lt;have z0:wz.cell? ⟨K,0,none⟩=some (.int .i64 kd):=oz.cell 0;have Zn:=h0.iG i p hp;have Qh:=Zn.st.lt;have Ay:=Zn.map.lt;have uZ:=Zn.ref.lt;have hWl:=h0.ru.lt;rw[<-hK]at Qh Ay uZ hWl;clear hT xT hp pz oz uz hb h0 hK Zn;generalize hQ:bodyPost prog Tryz.f28 _=Q;simp only[ST,SM,Ph.cb,Tryz.f28,cV,Ph.cr];subst hQ;go_wp2_with fail;go_ret;exact⟨rfl,_,_,_,_,_,UZ.o,by omega,by omega⟩
end
section
open iz Go.Conc
open Go.RowKit
open Lw
def adA:∃f0 f1,(prog.fieldsOf 49).toList=[f0,f1]/\f0.name≠ "_" /\f1.name≠ "_" /\f0.offset=0/\f1.offset=1/\(∃k,prog.underlying f0.type=some (.int k))/\prog.underlying f1.type=some .string:=by refine⟨_,_,rfl,?_,?_,rfl,rfl,⟨_,rfl⟩,rfl⟩<;>decide
def al3 k s w:(binOp .eql 49 (.agg (an k s).toArray) (.agg (an k s).toArray)).run prog w=.ok (.bool true) w:=by
 have ht:prog.underlying 49=some (.struct (prog.fieldsOf 49)):=κ;have hh:prog.stoodInHeld 49=false:=κ;rw[run_eql_struct,run_equalIn_agg w 9999 49 _ _ ht hh];obtain⟨f0,f1,hf,n0,n1,o0,o1,⟨kk,u0⟩,u1⟩:=adA;rw[hf];have p0:(part f0.type (an k s).toArray f0.offset).run prog w=.ok (.int .i64 (k:Int)) w:=by rw[o0];unfold part;simp[isAgg,fO u0,an]
 have p1:(part f1.type (an k s).toArray f1.offset).run prog w=.ok (.string (str s)) w:=by rw[o1];unfold part;simp[isAgg,fO u1,an]
 have q0:=run_equalIn_int (P:=prog) w 9998 f0.type .i64 kk (k:Int) (k:Int) u0;have q1:=run_equalIn_string (P:=prog) w 9998 f1.type (str s) (str s) u1;simp only[Op.eqFields,n0,n1,ne_eq,not_false_eq_true,if_true,fh,p0,p1,q0,q1,fi,beq_self_eq_true,aQ,Bool.false_eq_true,if_false,fj]
def ahC{ops rest o a w Q}(pn:o.guard=none) x y t(ho:o.op=.binOp .eql 49 x y t) k s (hx:a.eval x=.agg (an k s).toArray) (hy:a.eval y=.agg (an k s).toArray) (h:wpList prog ops Q rest (a.put o.dst (.bool true)) w):wpList prog ops Q (o::rest) a w:=by
 refine gr pn λ_ hK=>?_;unfold Oper.wp;have h1:=al3 k s w;have h2:=run_eqGuard_agg (P:=prog) w .eql 49 x y (an k s).toArray (an k s).toArray κ;have hv:(execOp a.eval o).run prog w=.ok (.value (.bool true)) w:=by unfold execOp;simp only[ho,hx,hy,fh,h1,h2,fi,fj]
 rw[hv];exact hK _ _ h
def Lw.lx.ajM{w1 wz wa wb t Wb τ ps ls mh lP}(h:lx w1 wz t Wb τ ps ls mh lP){i p}(hp:ps[i]? =some p){s' SA SB} (FA:Fb wz.heap.size SA wz wa) (FB:Fb wa.heap.size SB wa wb) (hSA:∀k,SA k->k<wz.heap.size->τ k=4+6*i∨τ k=8+6*i) (Az:∀k,SB k->k<wz.heap.size->τ k=6+6*i∨τ k=9+6*i) (aqI:∀k,SB k->k<wa.heap.size->k<wz.heap.size) (ig:Ck wa p.r p.m wz.heap.size s') {tv mv} (hq:Row wb p.q (Rp.pY t p.pv [.string (str s'.header),tv,mv])) (Ze:wb.ownsRow wa.heap.size 9 1 tv s'.jX.length (wt s'.jX)) (ho2:wb.ownsRow wa.heap.size 3 1 mv s'.missing.length (yo s'.missing)):∃τ' p',lx w1 wb t Wb τ' (ps.set i p') ls mh lP:=by
 have oL:=h.iG i p hp;have e1:=oL.tr;have e2:=oL.tm;have e3:=oL.tq;have Ox:=FA.size;have F:Fb wz.heap.size (λk=>SA k∨SB k) wz wb:=(FA.mono ν (λk _ h=>.inl h)).trans (FB.mono FA.size (λk _ h=>.inr h));have hS:∀k,SA k∨SB k->k<wz.heap.size->τ k=4+6*i∨τ k=8+6*i∨τ k=6+6*i∨τ k=9+6*i:=λk hs hk=>by rcases hs with hs|hs;have:=hSA k hs hk;omega;have:=Az k hs hk;omega
 obtain⟨τ',pK,aoS,aoR⟩:∃τ':Nat->Nat,(∀b,b<wz.heap.size->τ' b=τ b)/\(∀b,wz.heap.size<=b->b<wa.heap.size->τ' b=8+6*i)/\∀b,wa.heap.size<=b->τ' b=9+6*i:=⟨λb=>if b<wz.heap.size then τ b else if b<wa.heap.size then 8+6*i else 9+6*i,λb hb=>if_pos hb,λb h1 h2=>by show(if b<wz.heap.size then τ b else if b<wa.heap.size then 8+6*i else 9+6*i)=_;rw[if_neg ω,if_pos h2],λb h1=>by show(if b<wz.heap.size then τ b else if b<wa.heap.size then 8+6*i else 9+6*i)=_;rw[if_neg ω,if_neg ω]⟩;have hrB:¬SB p.r:=λhs=>by have:=Az _ hs oL.st.lt;omega
 have IF:p.r<wa.heap.size:=by have:=oL.st.lt;omega
 refine⟨τ',{p with s:=s'},h.afW hp rfl rfl F aGw pK ⟨?_,oL.map.block (F.block _ oL.map.lt (λhs=>by have:=hS _ hs oL.map.lt;omega)),⟨tv,mv,hq,wO Ze ?_,wO ho2 ?_,?_,?_⟩,?_,oL.full,(pK _ oL.st.lt).trans e1,(pK _ oL.map.lt).trans e2,(pK _ oL.ref.lt).trans e3,?_⟩⟩;rcases ig with⟨hi,hR⟩|⟨hW,T,mw,hR,hZ,hCT,hO⟩;exact .inl ⟨hi,hR.same (FB.block _ IF hrB)⟩;have hTa:=hZ.lt;refine .inr ⟨hW,T,mw,hR.same (FB.block _ IF hrB),hZ.of_block (FB.block T hTa (λhs=>by have:=aqI T hs hTa;omega)),by have:=oL.st.lt;show p.r<T;omega,wO (FB.own hO (λg hg=>⟨(hO.lt g hg).2,λhs=>by have h1:=aqI g hs (hO.lt g hg).2;have h2:=(hO.lt g hg).1;omega⟩)) (by have:=oL.st.lt;show p.r+1<=_;omega),aoS T hCT hTa,λg hg=>aoS g (hO.lt g hg).1 (hO.lt g hg).2⟩;have:=oL.ref.lt;show p.q+1<=_;omega;have:=oL.ref.lt;show p.q+1<=_;omega;exact λg hg=>aoR g (Ze.lt g hg).1;exact λg hg=>aoR g (ho2.lt g hg).1;exact F.own oL.own (λg hg=>⟨(oL.own.lt g hg).2,λhs=>by have:=hS _ hs (oL.own.lt g hg).2;have:=oL.tg g hg;omega⟩);exact λg hg=>(pK g (oL.own.lt g hg).2).trans (oL.tg g hg)
end
section
open iz Go.Conc
open Go.RowKit
open Lw
open Ph (cb cl cr ci co nt)
open Tp (iT iy jk iw iQ kQ iH iW)
def ajN w1 w t Wb τ ps ls mh lP(h:lx w1 w t Wb τ ps ls mh lP)(hT:km w1)(xT:TB w1 t) a s(hn:ps.length<=2097152)(xy:0<ps.length) (ha: -9223372036854775808<=a/\a<9223372036854775808) (hs:s.length<=9223372036854775807):kQ prog 28 #[.pointer (some ⟨Wb,0,none⟩),.agg #[.int .i64 6,.int .i64 a,.string (str s)]] w (wh w1 t Wb ps ls):=λWg cs Stop KF=>by
 refine iH iy (iW λHx n0=>?_);have h0:=h.re Hx n0;clear h;generalize w.re Hx n0=w0 at h0|-;refine AP w1 w0 t Wb τ ps ls mh lP h0 6 a s ω hn xy ha ?_;intro i p K wz x1 x2 x4 x5 x7 x8 x9 nz mR nd od mP m9 m4 n7 rm tI rU qw pN qa xD ym yl yj yh yg yf ye xZ xe xd x35 x36 x37 x38 x39 x40 x41 x42 x43 x44 x45 x46 x47 x48 x49 x50 x51 x52 x53 x54 x55 x56 x57 x58 x59 x60 x61 x62 x63 x64 x65 x66 x67 x68 x69 x70 x71 x72 x73 x74 x75 x76 x77 x78 x79 x80 x81 x82 x83 x84 x85 x86 x87 x88 x89 x90 x91 x92 x93 x94 x95 x96 x97 x98 x99 XG XF XE XD XC XB XA Xz Xy Xx Xv Xu Xt Xs Xr Xq Xp Xo Xn Xm Xl Xk Xj Xi Xh Xg Xe Xd Xc Xb Xa W9 W8 W6 WZ WY WV WU WQ WO WN WM WL WK WJ WI WH WG WE WD WC WB Wz Wy Wx Ww Wv Wu Wt afI afH afG afF hp hK hb pz oz uz;refine nt alV rfl rfl ?_ (λv w' hv=>iw (KF v w' hv));clear KF;have HPI:=η hp;have PZ:=η pz;have OZ:=η oz;have UZ:=η uz;have oL:=uz.iG i p hp;have HP:=η oL;have ID:=pz.lt;have hzo:=oz.lt;have Zn:=h0.iG i p hp;have Qh:=Zn.st.lt;have Ay:=Zn.map.lt;have uZ:=Zn.ref.lt;have hWl:=h0.ru.lt;rw[<-hK]at Qh Ay uZ hWl;obtain⟨aBh,aBg,aub⟩:=uz.F8 hp;obtain⟨nrm,nrq,nmq,nbk⟩:=oL.ne;have yM:=hT.lt;obtain⟨tv,mv,rq,ro1,ro2,rt1,rt2⟩:=oL.ref;obtain⟨T,mw,hST,hTr,hTt,hTK⟩:∃T mw,((p.s=Cp.idle/\kn wz p.r (xf p.m))∨(Cp.IZ p.s/\kn wz p.r (n8 p.m p.s.header (.slice (some ⟨T,0,none⟩) p.s.jX.length p.s.jX.length) mw)/\Tz.At wz T p.s.jX/\wz.ownsRow (p.r+1) 3 1 mw p.s.missing.length (yo p.s.missing)))/\p.r+1<=T/\(T<wz.heap.size->τ T=8+6*i)/\(T<K∨wz.heap.size<=T):=by rcases Zn.st with⟨e,h⟩|⟨hW,T,mw,h1,h2,h3,h4,h5,h6⟩;exact⟨wz.heap.size,.slice none 0 0,.inl ⟨e,h.same (hb.block _ h.lt)⟩,by omega,(λhh=>absurd hh (Nat.lt_irrefl _)),.inr ν⟩;exact⟨T,mw,.inr ⟨hW,h1.same (hb.block _ h1.lt),h2.below hb h2.lt,gM h4 hb ν⟩,h3,(λ_=>h5),.inl (by rw[hK];exact h2.lt)⟩
 have hhs:p.s=Cp.idle∨Cp.IZ p.s:=hST.imp (λh=>h.1) (λh=>h.1);have TA:=η (aiy s p.s p.r p.m (p.r+1) T mw wz (hT.rT uz.rT yM) hs ω (bC _) hTr hST);have HTt:=η hTt;have HHS:=η hhs;have RQ:=η rq;have RO1:=η ro1;have RO2:=η ro2;have RT1:=η rt1;have RT2:=η rt2;have HT1:=η hT;have aeA:=η xT;have TR:=λw5 hTs hC hR hO hM=>ajX s p.s t p.q (p.q+1) p.pv tv mv w5 hTs hC hs (bC _) hhs hR hO hM;obtain⟨rp,hrp⟩:∃rp,Cp.nT p.s s=rp:=⟨_,rfl⟩;rw[hrp]at TA;simp only[hrp]at TR;obtain⟨⟨k1,bs⟩,er,s'⟩:=rp;dsimp only at TA TR;have TRH:=η TR;have z0:wz.cell? ⟨K,0,none⟩=some (.int .i64 6):=oz.cell 0;have z2:wz.cell? ⟨K,2,none⟩=some (.string (str s)):=oz.cell 2;have z1:wz.cell? ⟨K+1,0,none⟩=some (.pointer (some ⟨p.r,0,none⟩)):=pz.cell 0;have aFh:=η (show p.s=Cp.idle->kn wz p.r (xf p.m)from λe=>by rcases hST with⟨_,h⟩|⟨hW,_⟩;exact h;exact absurd (by rw[e];rfl) hW.some);clear hT xT hp pz oz uz hb h0 hK Zn oL rq ro1 ro2 rt1 rt2 hST hTt hhs TR hrp;generalize hQ:bodyPost prog Tryz.f28 _=Q;simp only[ST,SM,Ph.cb,Tryz.f28,cV,Ph.cr];subst hQ;go_wp2_with fail;refine TA.o.mono ?_;clear TA z0 z1 z2;rintro e wa⟨rfl,IF⟩;have FA:Fb wz.heap.size (λk=>k=p.r∨k=T) wz wa:=by rcases IF with⟨_,_,h⟩|⟨_,_,_,h⟩;exact Fb.Sb (.of h);exact⟨h.os,h.output,h.size,h.block⟩
 have HRA:=η IF;have HFA:=η FA;have hzA:=FA.size;have hrT:∀k,k<wz.heap.size->τ k≠4+6*i->τ k≠8+6*i->¬(k=p.r∨k=T):=λk hk h1 h2 hs=>by rcases hs with rfl|rfl;exact h1 HP.o.tr;exact h2 (HTt.o hk)
 have d1:=Row.new wa (an 0 []) 49;have b1:=below_setRow ((Below.refl wa.heap.size wa).alloc ν (.cells (an 0 []).toArray 49)) ν (an k1 bs).toArray;have X1:=η (d1.setRow (an k1 bs));have B1:=η b1;rw[show(an 0 []).toArray=#[Value.int .i64 0,.string (str [])]from rfl]at d1 b1 X1 B1;clear IF FA b1;go_upto_region 27 with(with_reducible refine gJ (o:=⟨none,_,_,_,_,_⟩) rfl _ _ _ rfl wa.heap.size (an 0 []) (an k1 bs) rfl rfl d1 (gY.trans rfl) rfl rfl ?_);clear d1;generalize World.setRow _ _ _=w5 at X1 B1|-;obtain⟨Y1,hY1⟩:∃Y1,wa.heap.size=Y1:=⟨_,rfl⟩;rw[hY1]at X1|-;have SQ:=B1.o.size;have FW:Fb wz.heap.size (λk=>k=p.r∨k=T) wz w5:=HFA.o.trans (Fb.Sb (.of (B1.o.mono hzA)));have P5:=η (FW.row PZ.o ID (λhs=>by rcases hs with e|e<;>omega));have O5:=η (FW.row OZ.o hzo (λhs=>by rcases hs with e|e<;>omega));have Q5:=η (FW.row RQ.o ω (hrT _ ω (by have:=HP.o.tq;omega) (by have:=HP.o.tq;omega)));have U1:=η (FW.own RO1.o (λg hg=>⟨(RO1.o.lt g hg).2,hrT _ (RO1.o.lt g hg).2 (by have:=RT1.o g hg;omega) (by have:=RT1.o g hg;omega)⟩));have U2:=η (FW.own RO2.o (λg hg=>⟨(RO2.o.lt g hg).2,hrT _ (RO2.o.lt g hg).2 (by have:=RT2.o g hg;omega) (by have:=RT2.o g hg;omega)⟩));have hTs:TBs w5 t p.q (p.q+1):=TBs.of aeA.o (ak UZ.o.rT.size FW.size) (λk hk=>(FW.block k (ay hk UZ.o.rT.size) (λhs=>by rcases hs with e|e<;>omega)).trans (UZ.o.rT.block k hk)) ω aub;have T3:=η (TRH.o w5 hTs (by have:=FW.size;omega) Q5.o U1.o U2.o);have HFW:=η FW;have z1:w5.cell? ⟨K+1,1,none⟩=some (.pointer (some ⟨p.q,0,none⟩)):=P5.o.cell 1;have z2:w5.cell? ⟨K,2,none⟩=some (.string (str s)):=O5.o.cell 2;have hYl:=X1.o.lt;have hYz:wz.heap.size<=Y1:=ω;clear hTs TRH U1 U2 FW;go_wp2_with fail;refine T3.o.mono ?_;clear T3 z1 z2;rintro e wb⟨rfl,VK⟩;have FB:Fb w5.heap.size (λk=>k=p.q∨tv.ownBlock=some k) w5 wb:=by rcases VK with⟨_,_,h⟩|⟨_,_,_,h⟩;exact Fb.Sb (.of h);exact⟨h.os,h.output,h.size,h.block⟩
 have HRB:=η VK;have hzB:=FB.size;have X2:=η (FB.row X1.o hYl (λhs=>by rcases hs with e|e;omega;(have:=(RO1.o.lt _ e).2;omega)));have d2:=Row.new wb (an 0 []) 49;have b2:=below_setRow ((Below.refl wb.heap.size wb).alloc ν (.cells (an 0 []).toArray 49)) ν (an k1 bs).toArray;have X3:=η (X2.o.below b2 ω);have X4:=η (d2.setRow (an k1 bs));have B2:=η b2;have HFB:=η FB;rw[show(an 0 []).toArray=#[Value.int .i64 0,.string (str [])]from rfl]at d2 b2 X3 X4 B2;clear VK FB b2 X1 X2;go_upto_region 28 with(with_reducible refine gJ (o:=⟨none,_,_,_,_,_⟩) rfl _ _ _ rfl wb.heap.size (an 0 []) (an k1 bs) rfl rfl d2 (gY.trans rfl) rfl rfl ?_);clear d2;generalize World.setRow _ _ _=w7 at X3 X4 B2|-;obtain⟨Y2,hY2⟩:∃Y2,wb.heap.size=Y2:=⟨_,rfl⟩;rw[hY2]at X4|-;have r1:=X3.o;have r2:=X4.o;go_wp2_with (first|(with_reducible refine l0 (o:=⟨some 155,_,_,_,_,_⟩) rfl _ _ rfl Y1 (an k1 bs) rfl r1 _ underlying49 (gY.trans rfl) _ rfl ?_)|(with_reducible refine l0 (o:=⟨some 156,_,_,_,_,_⟩) rfl _ _ rfl Y2 (an k1 bs) rfl r2 _ underlying49 (gY.trans rfl) _ rfl ?_)|(with_reducible refine ahC (o:=⟨some 157,_,_,_,_,_⟩) rfl _ _ _ rfl k1 bs rfl rfl ?_));go_ret;have FW:=HFW.o;have FB:=HFB.o;by_cases her:er=0;obtain⟨_,rfl,hRa,_⟩:=HRA.o.resolve_left (λh=>h.1 her);obtain⟨_,_,hRb,_⟩:=HRB.o.resolve_left (λh=>h.1 her);have IF:p.r<wa.heap.size:=hRa.lt;obtain⟨τ',p',UU⟩:=UZ.o.ajM HPI.o (s':=Cp.idle) FW (FB.trans (Fb.Sb (.of (B2.o.mono hzB))))
  (λk hs hk=>by
   rcases hs with rfl|rfl
   ·exact .inl HP.o.tr
   ·exact .inr (HTt.o hk))
  (λk hs hk=>by
   rcases hs with rfl|e
   ·exact .inl HP.o.tq
   ·exact .inr (RT1.o k e))
  (λk hs hk=>by
   rcases hs with rfl|e
   ·omega
   ·exact(RO1.o.lt k e).2)
  (.inl ⟨rfl,hRa.same (B1.o.block _ IF)⟩) (show Row w7 p.q (Rp.pY t p.pv [.string (str Cp.idle.header),.slice none 0 0,.slice none 0 0])from(show Row wb p.q _ from hRb).below B2.o ω) (fc _ _ _ _) (fc _ _ _ _)
 exact⟨by first|rfl|simp,τ',_,ls,_,_,UU,by simp,by omega⟩;obtain⟨_,_,hBa⟩:=HRA.o.resolve_right (λh=>her h.1);obtain⟨_,_,hBb⟩:=HRB.o.resolve_right (λh=>her h.1);exact⟨by first|rfl|simp,τ,ps,ls,_,_,UZ.o.below (((hBa.trans (B1.o.mono hzA)).trans (hBb.mono ω)).trans (B2.o.mono ω)),by omega,by omega⟩
end
