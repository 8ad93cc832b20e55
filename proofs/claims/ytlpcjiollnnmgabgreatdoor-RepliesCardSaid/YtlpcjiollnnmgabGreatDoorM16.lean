import Derived.Test.YtlpcjiollnnmgabGreatDoorM00
import Derived.Test.YtlpcjiollnnmgabGreatDoorM08
import Derived.Deep.AppendLies
set_option maxRecDepth 100000
set_option maxHeartbeats 8000000
set_option linter.all false
namespace Go.Proofs.YtlpcjiollnnmgabGreatDoor
open Go.Proofs.Tryz
def t061{p:Prop}(h:p:=by clear hB hBz;go_wp2_with fail;go_ret;exact⟨by rw[C1.o];simp,rfl⟩):p:=h
def t016{p:Prop}(h:p:=by
 clear hB hBz;go_wp2_with fail;go_round
 ·exact⟨j,by omega,by go_num,C1.o⟩
 simp[intOf]):p:=h
section
open Go.RowKit iz
def wi(l:List Nat):List Value:=l.map λ(n:Nat)=>Value.int .i64 (n:Int)
def I5 l:(wi l).length=l.length:=by simp[wi]
def EE l i(h:i<l.length):(wi l)[i]? =some (.int .i64 (iI.dg l i:Nat)):=by unfold wi iI.dg;rw[aE,ab,ag h];rfl
def aax l(i n:Nat):(wi l).set i (.int .i64 (n:Int))=wi (l.set i n):=by unfold wi;rw[dD]
def Row.num{w b l}(h:Row w b (wi l)) i(hi:i<l.length):w.cell? ⟨b,i,none⟩=some (.int .i64 (iI.dg l i:Nat)):=by rw[h.cell,EE l i hi]
def IC(w:World)(b:Nat)(l:List Nat):Prop:=∀j,j<l.length->w.cell? ⟨b,j,none⟩=some (.int .i64 (iI.dg l j:Nat))
def Row.ic{w b l}(h:Row w b (wi l)):IC w b l:=λj hj=>h.num j hj
def IC.below{B b l w w'}(h:IC w b l)(hb:Below B w w')(hB:b<B):IC w' b l:=λj hj=>by rw[<-h j hj];exact fb (w:=w) (hb.block b hB)
def Tryz.Ow:(prog.info? 3).map (λi=>(i.zero,i.size,i.bytes))=some (some (.int .i64 0),1,8):=κ
def sX{w:World}{B e v n xs}(h:w.ownsRow B e 1 v n xs)(hn:0<n):∃g cap,v=.slice (some ⟨g,0,none⟩) n cap/\B<=g/\g<w.heap.size/\(∀j,j<n->w.cell? ⟨g,j,none⟩=xs[j]?)/\(∀j,w.frozen? ⟨g,j,none⟩=false):=by obtain⟨hl,⟨_,h0⟩|⟨g,cap,cur,rfl,hb,hg,_,_,_,ht⟩⟩:=h;omega;refine⟨g,cap,rfl,hb,(ae.1 hg).1,λj hj=>?_,λj=>by simp[World.frozen?,hg]⟩;rw[<-ht,bS,aM hj];simp[World.cell?,hg]
def Vd{w B e g n xs}(h:w.ownsRow B e 1 (.slice (some ⟨g,0,none⟩) n n) n xs):Row w g xs:=by obtain⟨hl,⟨h0,_⟩|⟨g',cap,cur,he,_,hg,_,_,hc,ht⟩⟩:=h;cases h0;cases he;refine⟨e,?_⟩;rw[hg,<-ht,au (by rw[Array.length_toList];omega),ew]
def YV n:(madeCells (Value.int .i64 0).cells (n*1)).toList=wi (List.replicate n 0):=by
 unfold madeCells wi;have h:∀x:Nat,(Value.int IntKind.i64 0).cells[x % (Value.int IntKind.i64 0).cells.size]! =Value.int .i64 0:=λx=>by show(#[Value.int .i64 0])[x % 1]! =_;rw[Nat.mod_one];rfl
 simp only[h];rw[Array.toList_map,Array.toList_range,bS,List.map_const',List.length_range];simp
def MH ba ca bb cb la lb w(ha:IC w ba la)(hb:IC w bb lb)(hba:ba<w.heap.size)(hbb:bb<w.heap.size) (hla:∀k,iI.dg la k<65536) (hlb:∀k,iI.dg lb k<65536) (hna:la.length<=100) (hnb:lb.length<=100):Calls prog 97 #[.slice (some ⟨ba,0,none⟩) la.length ca,.slice (some ⟨bb,0,none⟩) lb.length cb] w λe w'=>∃g,e=.returned (.slice (some ⟨g,0,none⟩) (la.length+lb.length) (la.length+lb.length))/\Row w' g (wi (iI.times la lb))/\w.heap.size<=g/\Below w.heap.size w w':=by
 obtain⟨i0,kV,mJ,mC,kS⟩:=fy Tryz.Ow;have HA:=η ha;have HB:=η hb;clear ha hb;have e16:((la.length:Int)+(lb.length:Int))=((la.length+lb.length:Nat):Int):=ω;have e17:i0.bytes*(la.length+lb.length)<=281474976710656:=by rw[kS];omega
 have e18:la.length+lb.length<=maxLen:=ι;have E16:=η e16;clear e16;go_enter func97,ntmps97;go_wp2_with (at_make;refine wpList_make_full _ (o:=⟨some 17,_,_,_,_,_⟩) rfl _ _ _ rfl w.heap.size 3 i0 (.int .i64 0) 1 fC kV mJ mC .i64 .i64 _ _ (la.length+lb.length) rfl rfl E16.o E16.o e17 e18 ν ?_;intro w1 zV IK)
 have hR:=Vd zV;rw[YV]at hR;have hB:Below w.heap.size w w1:=(Below.refl _ _).grown IK ν aFP;clear zV IK e17 e18;have A1:=η hR;have A2:=η hB;clear hR hB;go_loopw [20] (λv wr=>∃(i:Nat)(out:List Nat),i<=la.length/\v=.int .i64 i/\Row wr w.heap.size (wi out)/\iI.times la lb=iI.outer lb (la.drop i) i out/\iI.mN out (la.length+lb.length) (i+lb.length)/\Below w.heap.size w wr) (λv _=>la.length-(intOf v).toNat);exact⟨0,_,by omega,rfl,A1.o,rfl,iI.Ey _ _,A2.o⟩;obtain⟨i,out,hi,rfl,hR,hT,hO,hB⟩:=hrel;by_cases gV:i<la.length
 ·have cx:=(HA.o.below hB hba) i gV;rw[iI.qq la i gV,iI.outer]at hT;have hx:=hla i;obtain⟨x,IE⟩:∃x,x=iI.dg la i:=⟨_,rfl⟩;rw[<-IE]at cx hT hx;have p0:(0:Int)<=(x:Int):=by omega
  have p1:(x:Int)<65536:=ω;have B1:=η hR;have B2:=η hT;have B3:=η hO;have B4:=η hB;clear IE hR hT hO hB hx;obtain⟨wo,rfl⟩:∃wo:World,wo=wr:=⟨_,rfl⟩;go_wp2_with fail;go_loopw [8,27] (λcv v wr=>∃(j:Nat)(o2:List Nat)(c:Nat),j<=lb.length/\v=.int .i64 j/\cv=.int .i64 c/\c<65536/\Row wr w.heap.size (wi o2)/\iI.inner x i lb 0 out 0=iI.inner x i (lb.drop j) j o2 c/\iI.mN o2 (la.length+lb.length) (i+lb.length)/\Below w.heap.size w wr) (λ_ v _=>lb.length-(intOf v).toNat);exact⟨0,out,0,by omega,rfl,rfl,by omega,B1.o,rfl,B3.o,B4.o⟩;obtain⟨j,o2,c,hj,rfl,rfl,hc,hR,hN,hO,hB⟩:=hrel;by_cases hlj:j<lb.length
  ·have cy:=(HB.o.below hB hbb) j hlj;rw[iI.qq lb j hlj,iI.inner]at hN;have hy:=hlb j;obtain⟨y,hye⟩:∃y,y=iI.dg lb j:=⟨_,rfl⟩;rw[<-hye]at cy hN hy;have co:=hR.num (i+j) (by rw[hO.len];omega);have zo:=hR.free (i+j);have ho:=hO.lt (i+j);obtain⟨u,hue⟩:∃u,u=iI.dg o2 (i+j):=⟨_,rfl⟩;rw[<-hue]at co hN ho;have Mm:=iI.mul_lt (show x<65536 by omega) hy;have q1:(0:Int)<=(x:Int)*(y:Int):=by rw[<-ei];omega
   have q2:(x:Int)*(y:Int)<=4294836225:=by rw[<-ei];omega
   have q3:(u:Int)<65536:=ω;have q4:(c:Int)<65536:=ω;have q5:(y:Int)<65536:=ω;have q6:(i:Int)+(j:Int)< ((la.length+lb.length:Nat):Int):=ω;have e1:(((u+x*y+c) % 65536:Nat):Int)=((u:Int)+(x:Int)*(y:Int)+(c:Int)) % 65536:=ω;have e2:(((u+x*y+c) / 65536:Nat):Int)=((u:Int)+(x:Int)*(y:Int)+(c:Int)) / 65536:=ω;have C1:=η (hR.set (i+j) (.int .i64 (((u+x*y+c) % 65536:Nat):Int)));have C2:=η hN;have C3:=η (hO.set (i:=i+j) (v:=(u+x*y+c) % 65536) ω ω);have C4:=η (hB.setCell (p:=⟨w.heap.size,i+j,none⟩) ν (.int .i64 (((u+x*y+c) % 65536:Nat):Int)));have C5:=η e1;have C6:=η e2;have hcb:(u+x*y+c) / 65536<65536:=ω;clear hye hue hR hN hO hB e1 e2 hy ho hc;go_wp2_with fail;rw[C5.o]at C1 C4;refine⟨⟨j+1,_,_,by omega,by go_num,by rw[C6.o],hcb,?_,C2.o,C3.o,C4.o⟩,by simp[intOf];omega⟩;have:=C1.o;rw[<-C5.o,aax]at this;rw[<-C5.o];exact this
  obtain rfl:j=lb.length:=by omega
  rw[bj ν,iI.inner]at hN;have hT:=B2.o;rw[hN]at hT;have co:=hR.num (i+lb.length) (by rw[hO.len];omega);have zo:=hR.free (i+lb.length);have ho:=hO.zero (i+lb.length) ν;rw[ho]at co;simp only[ho,aC]at hT;have q1:(0:Int)<=(i:Int)+(lb.length:Int):=ω;have q2:(i:Int)+(lb.length:Int)< ((la.length+lb.length:Nat):Int):=ω;have q4:(c:Int)<65536:=ω;have C1:=η (hR.set (i+lb.length) (.int .i64 (c:Int)));have C2:=η hT;have C3:=η ((hO.mono (show i+lb.length<=i+1+lb.length by omega)).set (i:=i+lb.length) (v:=c) ω hc);have C4:=η (hB.setCell (p:=⟨w.heap.size,i+lb.length,none⟩) ν (.int .i64 (c:Int)));clear hR hN hT hO hB ho hc;go_wp2_with fail;refine⟨⟨i+1,_,by omega,by go_num,?_,C2.o,C3.o,C4.o⟩,by simp[intOf];omega⟩;have:=C1.o;rw[aax]at this;exact this
 obtain rfl:i=la.length:=by omega
 rw[bj ν,iI.outer]at hT;have C1:=η hR;have C2:=η hT;have C4:=η hB;clear hR hT hO hB;go_wp2_with fail;go_ret;exact⟨w.heap.size,rfl,by rw[C2.o];exact C1.o,ν,C4.o⟩
def Qb ba ca bb cb la lb w(ha:IC w ba la)(hb:IC w bb lb)(hna:la.length<=100)(hnb:lb.length<=100):Calls prog 98 #[.slice (some ⟨ba,0,none⟩) la.length ca,.slice (some ⟨bb,0,none⟩) lb.length cb] w λe w'=>e=.returned (.bool (iI.above la lb))/\w=w':=by
 have HA:=η ha;have HB:=η hb;clear ha hb;have arf:la.length<lb.length->Hid (iI.above la lb=iI.uC la lb lb.length):=λh=>η (by unfold iI.above;rw[Nat.max_eq_right ω]);have are:¬la.length<lb.length->Hid (iI.above la lb=iI.uC la lb la.length):=λh=>η (by unfold iI.above;rw[Nat.max_eq_left ω]);by_cases hle:la.length<lb.length;all_goals first|(have hAB:=arf hle)|(have hAB:=are hle)
 all_goals
  clear arf are;go_enter func98,ntmps98
  go_wp2_with fail;have HL:=η hle;clear hle;go_loop [5] (λv=>∃k:Nat,k<=100/\v=.int .i64 ((k:Int) - 1)/\iI.above la lb=iI.uC la lb k) (λv=>((intOf v)+1).toNat)
  case atStart=>exact⟨_,by assumption,by have:=HL.o;first|rfl|(congr 1;omega),hAB.o⟩
  case round=>
   clear hAB;obtain⟨k,hk,rfl,hT⟩:=hrel;by_cases h0:k=0
   ·subst h0;have B1:=η hT;clear hT;rw[show((0:Nat):Int) - 1= -1 from rfl];go_wp2_with fail;go_ret;exact⟨by rw[B1.o];rfl,rfl⟩
   ·obtain⟨j,rfl⟩:∃j,k=j+1:=⟨k-1,by omega⟩
    rw[show((j+1:Nat):Int) - 1=(j:Int)by omega]
    rw[iI.uC]at hT;have hA:=HA.o j;have hB:=HB.o j;have hAz:la.length<=j->iI.dg la j=0:=λh=>iI.TM _ _ h
    have hBz:lb.length<=j->iI.dg lb j=0:=λh=>iI.TM _ _ h
    generalize iI.dg la j=x at hT hA hAz;generalize iI.dg lb j=y at hT hB hBz;have B1:=η hT;clear hT;by_cases Mm:x=y
    ·have hT:iI.above la lb=iI.uC la lb j:=by rw[B1.o,if_pos Mm]
     subst Mm;have C1:=η hT;clear hT B1;by_cases hja:j<la.length
     ·have ca1:=hA hja;clear hA hAz;by_cases hjb:j<lb.length
      ·have cb1:=hB hjb;exact t016
      ·obtain rfl:=hBz ω
       exact t016
     ·obtain rfl:=hAz ω
      clear hA hAz;by_cases hjb:j<lb.length
      ·have cb1:=hB hjb;exact t016
      ·exact t016
    ·have hT:iI.above la lb=decide (y<x):=by rw[B1.o,if_neg Mm]
     have iZ:((x:Int) !=(y:Int))=true:=by rw[bne_iff_ne];omega
     have C1:=η hT;clear hT B1;by_cases hja:j<la.length
     ·have ca1:=hA hja;clear hA hAz;by_cases hjb:j<lb.length
      ·have cb1:=hB hjb;exact t061
      ·obtain rfl:=hBz ω
       exact t061
     ·obtain rfl:=hAz ω
      clear hA hAz;by_cases hjb:j<lb.length
      ·have cb1:=hB hjb;exact t061
      ·obtain rfl:=hBz ω
       exact absurd rfl Mm
end
section
open Go.RowKit iz
def IC.lt{w b l}(h:IC w b l)(hl:0<l.length):b<w.heap.size:=fP (h 0 hl)
def Pz(x:Nat) X(hX:X=(x:Int)):[Value.int .i64 (X % 65536),.int .i64 (X/65536 % 65536),.int .i64 (X/65536/65536)]=wi (iI.J9 x):=by subst hX;simp[wi,iI.J9]
def Zt(p pw:Nat):wi (List.replicate (2*pw) 0)++[Value.int .i64 (p:Int)]=wi (iI.goal p pw):=by simp[wi,iI.goal]
def Ng(p pw:Nat)(hp:p<65536)(h2:2<=pw)(h3:pw<=3) w (DL:∀w,(Instr.makeSlice 25 (.int .i64 (2*(pw:Int))) (.int .i64 (2*(pw:Int)+1))).run prog w=.ok (.slice (some ⟨w.heap.size,0,none⟩) (2*pw) (2*pw+1)) (w.alloc (.cells (wi (List.replicate (2*pw+1) 0)).toArray 3))):Calls prog 54 #[.int .i64 (p:Int),.int .i64 (pw:Int)] w λe w'=>e=.returned (.int .i64 (iI.root p pw:Nat))/\Below w.heap.size w w':=by
 obtain⟨i0,kV,mJ,mC,kS⟩:=fy Tryz.Ow;have apO:=DL w;clear DL;have iB:(w.alloc (.cells (wi (List.replicate (2*pw+1) 0)).toArray 3)).ownsRow w.heap.size 3 1 (.slice (some ⟨w.heap.size,0,none⟩) (2*pw) (2*pw+1)) (2*pw) (wi (List.replicate (2*pw) 0)):=
  ⟨by rw[I5];simp,.inr ⟨w.heap.size,2*pw+1,_,rfl,ν,heap_alloc_new w _,by omega,by unfold maxLen;omega,by rw[az,I5];simp,by simp[wi,List.map_replicate]⟩⟩
 have Ie:Below w.heap.size w (w.alloc (.cells (wi (List.replicate (2*pw+1) 0)).toArray 3)):=(Below.refl _ _).alloc ν _;have Gx:(w.alloc (.cells (wi (List.replicate (2*pw+1) 0)).toArray 3)).heap.size=w.heap.size+1:=ζ;generalize w.alloc _=w1 at iB apO Ie Gx;have vO:=iB.alloc (.cells #[.int .i64 (p:Int)] 3);have pW:=Ie.alloc ω (.cells #[.int .i64 (p:Int)] 3);have zU:(w1.alloc (.cells #[.int .i64 (p:Int)] 3)).heap.size=w.heap.size+2:=by simp[Gx]
 have pM:(w1.alloc (.cells #[.int .i64 (p:Int)] 3)).cell? ⟨w1.heap.size,0,none⟩=some (.int .i64 (p:Int)):=(Row.new w1 [.int .i64 (p:Int)] _).cell 0;rw[Gx]at pM;have HO:=η vO;have HC:=η pM;have HB:=η pW;have HS:=η zU;clear iB vO Ie pW zU pM;go_enter func54,ntmps54;go_wp2_with (at_builtin;refine wpList_append_fits _ rfl _ _ 25 rfl w.heap.size 3 i0 1 fC kV mC w.heap.size (2*pw) (2*pw+1) _ rfl HO.o ⟨w.heap.size+1,0,none⟩ 1 1 [.int .i64 (p:Int)] rfl rfl (λj u hu=>by cases j with|zero=>simp at hu;rw[<-hu];exact HC.o|succ j=>simp at hu) aHO ν ?_;intro w3 iM jF)
 have DT:=Vd iM;rw[Zt]at DT;have Da:Below w.heap.size w w3:=HB.o.trans (((Below.refl w.heap.size (w1.alloc (.cells #[.int .i64 (p:Int)] 3))).grown jF (by rw[HS.o];omega) (λk hk=>by cases hk;exact ν)));have rn:w.heap.size<w3.heap.size:=DT.lt;have Ia:(iI.goal p pw).length=2*pw+1:=by simp[iI.goal]
 have hI3:=DT.ic;clear iM jF apO HO HC HB HS DT;have A1:=η hI3;have A2:=η Da;have HGL:=η Ia;have HR:Hid (iI.root p pw=iI.bits (iI.goal p pw) pw 37 0 % 4294967296):=η rfl;have hgt:=iI.VZ p pw hp;have HGT:=η hgt;clear hI3 Da Ia hgt;generalize iI.goal p pw=yR at A1 HGL HR HGT;have h36:(2:Nat)^37=137438953472:=ψ;have H36:=η h36;clear h36;go_loopw [6,7] (λrv bv wr=>∃(n r:Nat),n<=37/\rv=.int .i64 r/\bv=.int .i64 ((2^n/2:Nat):Int)/\r+2^n<=137438953472/\iI.bits yR pw 37 0=iI.bits yR pw n r/\IC wr w.heap.size yR/\Below w.heap.size w wr/\w.heap.size<wr.heap.size) (λ_ bv _=>(intOf bv).toNat);exact⟨37,0,by omega,rfl,rfl,by decide,rfl,A1.o,A2.o,rn⟩;obtain⟨n,r,hn,rfl,rfl,hrn,hb,hI,hB,hz⟩:=hrel;by_cases h0:n=0
 ·subst h0;have B1:=η hb;have B2:=η hB;rw[show((2^0/2:Nat):Int)=0 from rfl];have VK:(r:Int)<137438953472:=by omega
  clear hb hI hB;go_wp2_with fail;go_ret;have e:((iI.root p pw:Nat):Int)=(r:Int) % 4294967296:=by rw[HR.o,B1.o,iI.bits];omega
  rw[e];exact⟨rfl,B2.o⟩
 obtain⟨m,rfl⟩:∃m,n=m+1:=⟨n-1,by omega⟩;have e1:(2^ (m+1) / 2:Nat)=2^m:=by rw[cF];omega
 rw[e1];replace hb:=hb.trans (show iI.bits yR pw (m+1) r=iI.bits yR pw m (if iI.above (iI.pow (iI.J9 (r+2^m)) (pw-1)) yR then r else r+2^m)from rfl);have e2:0<2^m:=Nat.pow_pos ψ;have auR:r+2*2^m<=137438953472:=by rw[cF]at hrn;omega
 have zX:∀r',r'+2^m<=137438953472->iI.bits yR pw 37 0=iI.bits yR pw m r'->∃(n r:Nat),n<=37/\Value.int .i64 (r':Int)=.int .i64 r/\Value.int .i64 ((2^m/2:Nat):Int)=.int .i64 ((2^n/2:Nat):Int)/\r+2^n<=137438953472/\iI.bits yR pw 37 0=iI.bits yR pw n r:=λr' h1 h2=>⟨m,r',by omega,rfl,rfl,h1,h2⟩;have HN:=η zX;have B1:=η hb;have B2:=η hI;have B3:=η hB;clear hb hI hB hrn e1 zX;generalize 2^m=B at e2 auR B1 HN|-;have p0:(0:Int)< (B:Int):=ω;have p1:(r:Int)+2*(B:Int)<=137438953472:=ω;go_wp2_with fail;have hX:(r:Int)+(B:Int)=((r+B:Nat):Int):=ω
 have Mr:Row (wr.alloc (.cells (wi (iI.J9 (r+B))).toArray 3)) wr.heap.size (wi (iI.J9 (r+B))):=Row.new wr _ _;rw[<-Pz (r+B) _ hX]at Mr;have Tk:Row (wr.alloc (.cells #[.int .i64 (((r:Int)+(B:Int)) % 65536),.int .i64 (((r:Int)+(B:Int)) / 65536 % 65536),.int .i64 (((r:Int)+(B:Int)) / 65536/65536)] 3)) wr.heap.size (wi (iI.J9 (r+B))):=by rw[<-Pz (r+B) _ hX];exact Mr
 have VS:=B3.o.alloc ω (.cells #[.int .i64 (((r:Int)+(B:Int)) % 65536),.int .i64 (((r:Int)+(B:Int)) / 65536 % 65536),.int .i64 (((r:Int)+(B:Int)) / 65536/65536)] 3);have hd3:IC (wr.alloc (.cells #[.int .i64 (((r:Int)+(B:Int)) % 65536),.int .i64 (((r:Int)+(B:Int)) / 65536 % 65536),.int .i64 (((r:Int)+(B:Int)) / 65536/65536)] 3)) w.heap.size yR:=B2.o.below ((Below.refl _ _).alloc ν _) hz;have hd4:wr.heap.size< (wr.alloc (.cells #[.int .i64 (((r:Int)+(B:Int)) % 65536),.int .i64 (((r:Int)+(B:Int)) / 65536 % 65536),.int .i64 (((r:Int)+(B:Int)) / 65536/65536)] 3)).heap.size:=ζ;clear Mr;generalize wr.alloc _=w5 at Tk VS hd3 hd4|-;have alu:=iI.adI (r+B) ω;have hlen:(iI.J9 (r+B)).length=3:=rfl;have C1:=η Tk.ic;have C2:=η VS;have C3:=η hd3;have C4:=η alu;have C5:=η hlen;have VM:=iI.Fy (iI.J9 (r+B));rw[hlen]at VM;have C6:=η VM;have C7:=η (iI.Fx _ alu);clear Tk VS hd3 alu hlen VM hX;obtain⟨wq,rfl⟩:∃wq:World,wq=wr:=⟨_,rfl⟩;go_loopw [10,11] (λnv kv wr=>∃(k g:Nat),k+1<=pw/\kv=.int .i64 ((k+1:Nat):Int)/\nv=.slice (some ⟨g,0,none⟩) ((k+1)*3) ((k+1)*3)/\g<wr.heap.size/\IC wr g (iI.pow (iI.J9 (r+B)) k)/\IC wr wq.heap.size (iI.J9 (r+B))/\IC wr w.heap.size yR/\Below w.heap.size w wr/\wq.heap.size<wr.heap.size) (λ_ kv _=>pw-(intOf kv).toNat);exact⟨0,wq.heap.size,by omega,rfl,rfl,hd4,C1.o,C1.o,C3.o,C2.o,hd4⟩;obtain⟨k,g,hk,rfl,rfl,hg,hI1,hI2,hI3,hB,Ox⟩:=hrel;have D1:=η hI1;have D2:=η hI2;have D3:=η hI3;have D4:=η hB;clear hI1 hI2 hI3 hB;by_cases gV:k+1<pw
 ·go_wp2_with fail;have ht:=MH g ((k+1)*3) wq.heap.size 3 (iI.pow (iI.J9 (r+B)) k) (iI.J9 (r+B)) wr D1.o D2.o hg Ox (C7.o k) C4.o (by rw[C6.o];omega) (by rw[C5.o];decide)
  rw[C6.o,C5.o]at ht;refine ht.mono ?_;clear ht;rintro e w6⟨g',rfl,hR6,hg6,hB6⟩;have hz6:=hB6.size;have E1:=η hR6.ic;have avc:=hR6.lt;have E2:=η (D2.o.below hB6 ω);have E3:=η (D3.o.below hB6 ω);have E4:=η (D4.o.trans (hB6.mono ω));have hz7:wq.heap.size<w6.heap.size:=ω;clear hR6 hg6 hB6;rw[show(k+1)*3+3=(k+1+1)*3 by omega];go_wp2_with fail;go_roundw
  ·exact⟨k+1,g',by omega,by go_num,rfl,avc,E1.o,E2.o,E3.o,E4.o,hz7⟩
  simp[intOf];omega
 have hkp:pw-1=k:=by omega
 have sB:=B1.o;rw[hkp]at sB;clear hkp;have F1:=η sB;clear sB;go_wp2_with fail;have ht:=Qb g ((k+1)*3) w.heap.size (2*pw+1) (iI.pow (iI.J9 (r+B)) k) yR wr D1.o D3.o (by rw[C6.o];omega) (by rw[HGL.o];omega);rw[C6.o,HGL.o]at ht;refine ht.mono ?_;clear ht;rintro e w6⟨rfl,rfl⟩;cases VX:iI.above (iI.pow (iI.J9 (r+B)) k) yR with
 |false=>
 have kD:=F1.o;have hn:¬(iI.above (iI.pow (iI.J9 (r+B)) k) yR=true):=by rw[VX];exact Bool.false_ne_true
 rw[if_neg hn]at kD;clear hn;have F2:=η kD;clear kD VX;go_wp2_with fail;go_roundw
 ·obtain⟨n',r',h1,h2,h3,h4,h5⟩:=HN.o (r+B) ω F2.o;exact⟨n',r',h1,by rw[<-h2];go_num,by rw[<-h3];go_num,h4,h5,D3.o,D4.o,by omega⟩
 simp[intOf];omega|true=>
 have kD:=F1.o;rw[if_pos VX]at kD;have F2:=η kD;clear kD VX;go_wp2_with fail;go_roundw
 ·obtain⟨n',r',h1,h2,h3,h4,h5⟩:=HN.o r ω F2.o;exact⟨n',r',h1,by rw[<-h2],by rw[<-h3];go_num,h4,h5,D3.o,D4.o,by omega⟩
 simp[intOf];omega
def Ni(p:Nat)(hp:p<65536) w:Calls prog 54 #[.int .i64 (p:Int),.int .i64 2] w λe w'=>e=.returned (.int .i64 (iI.root p 2:Nat))/\Below w.heap.size w w':=Ng p 2 hp ψ ψ w (λ_=>by kernel_rfl)
def Nh(p:Nat)(hp:p<65536) w:Calls prog 54 #[.int .i64 (p:Int),.int .i64 3] w λe w'=>e=.returned (.int .i64 (iI.root p 3:Nat))/\Below w.heap.size w w':=Ng p 3 hp ψ ψ w (λ_=>by kernel_rfl)
end
def t077{p:Prop}(h:p:=by rw[hb]at HF;clear hb;go_wp2_with fail;exact⟨⟨j+1,by omega,by go_num,by rw[HF.o];simp⟩,by simp[intOf];omega⟩):p:=h
def t068{p:Prop}(h:p:=by exact((((tz.drew).trans (pW.mono (show T<=wr.heap.size by omega))).alloc ω o).trans (DO.mono ω)).setCell ν _):p:=h
section
open Go.RowKit iz
def Ve{w:World}{B e v n xs}(h:w.ownsRow B e 1 v n xs):∃a cap,v=.slice a n cap:=by exact t092
theorem EO:∀n,∀q∈iI.sI n,2<=q
 |0,q,h=>by simp[iI.sI]at h|n+1,q,h=>by unfold iI.sI iI.found at h;split at h;rw[bx]at h;rcases h with h|h;exact EO n q h;simp at h;omega;exact EO n q h
def TK l i(h:i<l.length):iI.dg l i∈l:=by unfold iI.dg;rw[ab,ag h];exact bq h
def TA l p j(h:j<l.length):iI.fresh (l.take (j+1)) p=(iI.fresh (l.take j) p&&p % iI.dg l j != 0):=by unfold iI.fresh;rw[ax h,List.all_append];unfold iI.dg;rw[ab,ag h];simp
def KS w:Calls prog 53 #[.int .i64 64] w λe w'=>∃v,e=.returned v/\w'.ownsRow w.heap.size 3 1 v 64 (wi iI.lj)/\Below w.heap.size w w':=by
 obtain⟨i0,kV,mJ,mC,kS⟩:=fy Tryz.Ow;have HS:=η iI.X9;have HA:=η iI.Ya;go_enter func53,ntmps53;go_wp2_with fail;go_loopw [3,4] (λv pv wr=>∃k:Nat,k<=310/\pv=.int .i64 ((k:Int)+2)/\wr.ownsRow w.heap.size 3 1 v (iI.sI k).length (wi (iI.sI k))/\Below w.heap.size w wr) (λ_ pv _=>312-(intOf pv).toNat)
 exact⟨0,by omega,rfl,fc _ _ _ _,Below.refl _ _⟩;obtain⟨k,hk,rfl,iB,hB⟩:=hrel;obtain⟨a,cap,hv⟩:=Ve iB;subst hv;have B1:=η iB;have B2:=η hB;clear iB hB;by_cases gV:k<310
 ·have hn:=HS.o k gV;have hge:=EO k;have HG:=η hge;have Gx:iI.sI (k+1)=iI.found (iI.sI k) (k+2):=rfl;have H1:=η Gx;clear hge Gx;generalize hS:iI.sI k=S at hn B1 HG H1|-;clear hS;have hn':(S.length:Int)<64:=by omega
  go_wp2_with fail;go_loop [5,16] (λb jv=>∃j:Nat,j<=S.length/\jv=.int .i64 j/\b=.bool (iI.fresh (S.take j) (k+2))) (λ_ jv=>S.length-(intOf jv).toNat)
  exact⟨0,by omega,rfl,rfl⟩;obtain⟨j,hj,rfl,rfl⟩:=hrel;by_cases hlj:j<S.length;obtain⟨g,Cc,he,hg1,Th,DO,hg4⟩:=sX B1.o ω;cases he;have cq:=DO j hlj;rw[EE S j hlj]at cq;have hq:=HG.o _ (TK S j hlj);have hf:=TA S (k+2) j hlj;generalize iI.dg S j=q at cq hq hf;have hq':(2:Int)<=(q:Int):=ω;have e1:(((k+2) % q != 0:Bool))=((((k:Int)+2) % (q:Int)) != 0):=by
   rw[cQ];simp only[bne_iff_ne];have:(((k+2) % q:Nat):Int)=((k:Int)+2) % (q:Int):=by rw[ef];rfl
   omega
  rw[e1]at hf;have HF:=η hf;clear hf e1 DO hg4 hq;cases hb:iI.fresh (S.take j) (k+2)with|false=>exact t077|true=>exact t077
  obtain rfl:j=S.length:=by omega
  rw[au ν];have hfd:iI.found S (k+2)=if iI.fresh S (k+2)=true then S++[k+2]else S:=rfl
  cases hb:iI.fresh S (k+2)with
  |false=>
  rw[hb,if_neg Bool.false_ne_true]at hfd;have H2:=η hfd;clear hfd hb;go_wp2_with fail;go_roundw
  ·exact⟨k+1,by omega,by go_num,by rw[H1.o,H2.o];exact B1.o,B2.o⟩
  simp[intOf];omega|true=>
  rw[hb,if_pos rfl]at hfd;have H2:=η hfd;clear hfd hb;have qZ:(wr.alloc (.cells #[.int .i64 ((k:Int)+2)] 3)).cell? ⟨wr.heap.size,0,none⟩=some (.int .i64 ((k:Int)+2)):=(Row.new wr [.int .i64 ((k:Int)+2)] _).cell 0;have m0:=B2.o.alloc B2.o.size (.cells #[.int .i64 ((k:Int)+2)] 3);have kD:w.heap.size<=(wr.alloc (.cells #[.int .i64 ((k:Int)+2)] 3)).heap.size:=m0.size;have C1:=η qZ;have C2:=η m0;have C3:=η (B1.o.alloc (.cells #[.int .i64 ((k:Int)+2)] 3));clear qZ m0;go_wp2_with (at_builtin;refine wpList_append_own _ rfl _ _ 25 rfl w.heap.size 3 i0 (.int .i64 0) 1 8 fC kV mJ mC kS rfl ψ _ _ _ rfl C3.o ⟨wr.heap.size,0,none⟩ 1 1 [.int .i64 ((k:Int)+2)] rfl rfl (λj u hu=>by cases j with|zero=>simp at hu;rw[<-hu];exact C1.o|succ j=>simp at hu) aHO ι ω kD ?_;intro v' w1 zV IK _);have Ie:Below w.heap.size w w1:=C2.o.trans ((Below.refl w.heap.size _).grown IK kD (λk hk=>(C3.o.lt k hk).1));have e:wi S++[Value.int .i64 ((k:Int)+2)]=wi (S++[k+2]):=by simp[wi]
  rw[e]at zV;have D1:=η zV;have D2:=η Ie;clear zV IK Ie e;go_wp2_with fail;go_roundw
  ·exact⟨k+1,by omega,by go_num,by rw[H1.o,H2.o,ai];exact D1.o,D2.o⟩
  simp[intOf];omega
 obtain rfl:k=310:=by omega
 rw[HA.o]at B1;have hl:(iI.sI 310).length=64:=by rw[HA.o];rfl
 rw[show(iI.sI 310).length=64 from hl];have Eo:iI.lj.length=64:=rfl;rw[Eo]at B1;clear hl Eo;go_wp2_with fail;go_ret;exact⟨_,rfl,B1.o,B2.o⟩
def wP{w w' B C e v n xs}(h:w.ownsRow B e 1 v n xs)(hb:Below C w w')(hC:w.heap.size<=C):w'.ownsRow B e 1 v n xs:=by exact t046
def ab5(f:Nat->Nat) l m(h:l.map f=m) i(hi:i<l.length):f (iI.dg l i)=iI.dg m i:=by subst h;unfold iI.dg;rw[ab,ab,aE,ag hi];rfl
def afY l n i(h:i<n):iI.dg (l.take n) i=iI.dg l i:=by unfold iI.dg;rw[ab,ab,aM h]
def axK i(h:i<64):iI.root (iI.dg iI.lj i) 3=iI.dg iI.K i:=ab5 (λp=>iI.root p 3) iI.lj iI.K iI.axL i h
def axM i(h:i<8):iI.root (iI.dg iI.lj i) 2=iI.dg iI.H i:=by have e:=ab5 (λp=>iI.root p 2) (iI.lj.take 8) iI.H iI.axN i h;rw[afY _ _ _ h]at e;exact e
def abi i(h:i<64) w:Calls prog 54 #[.int .i64 (iI.dg iI.lj i:Nat),.int .i64 3] w λe w'=>e=.returned (.int .i64 (iI.dg iI.K i:Nat))/\Below w.heap.size w w':=by have:=Nh (iI.dg iI.lj i) (iI.wI _ (TK _ _ h)) w;rwa[axK i h]at this
def abj i(h:i<8) w:Calls prog 54 #[.int .i64 (iI.dg iI.lj i:Nat),.int .i64 2] w λe w'=>e=.returned (.int .i64 (iI.dg iI.H i:Nat))/\Below w.heap.size w w':=by have:=Ni (iI.dg iI.lj i) (iI.wI _ (TK _ _ (by show i<64;omega))) w;rwa[axM i h]at this
def Ur l i(h:i<l.length):wi (l.take i)++[Value.int .i64 (iI.dg l i:Nat)]=wi (l.take (i+1)):=by
 have e:=ax h;have e2:iI.dg l i=l[i]:=by unfold iI.dg;rw[ab,ag h];rfl
 rw[e,e2];unfold wi;rw[cP];rfl
structure Tbl(w:World)(t hb hc kb kc:Nat):Prop where
 h:w.cell? ⟨t,0,none⟩=some (.slice (some ⟨hb,0,none⟩) 8 hc)
 k:w.cell? ⟨t,1,none⟩=some (.slice (some ⟨kb,0,none⟩) 64 kc)
 hl:IC w hb iI.H
 kl:IC w kb iI.K
def qk{w:World}{B e v n xs}(h:w.ownsRow B e 1 v n xs) a(ha:a.block<B) u:(w.setCell a u).ownsRow B e 1 v n xs:=by refine⟨h.1,?_⟩;rcases h.2 with h|⟨g,cap,cur,rfl,h1,h2,h3⟩;exact .inl h;exact .inr ⟨g,cap,cur,rfl,h1,by rw[ft _ _ _ _ ω];exact h2,h3⟩
structure TS(w wr:World)(T pb:Nat)(hv kv:Value)(nh nk:Nat):Prop where
 row:Row wr T [hv,kv]
 oh:wr.ownsRow (T+1) 3 1 hv nh (wi (iI.H.take nh))
 ok:wr.ownsRow (T+1) 3 1 kv nk (wi (iI.K.take nk))
 sep:∀k,hv.ownBlock=some k->kv.ownBlock≠some k
 prm:IC wr pb iI.lj
 n1:hv.ownBlock≠some pb
 n2:kv.ownBlock≠some pb
 rT:Below T w wr
 hp:pb<wr.heap.size
 hT:T<pb
def IC.grown{w w' b l r}(h:IC w b l)(hg:w.grownBy w' r)(hb:b<w.heap.size)(hr:r≠some b):IC w' b l:=λj hj=>by rw[<-h j hj];exact fb (w:=w) (hg.block b hb (aG hr))
def IC.other{w b l}(h:IC w b l) a(ha:a.block≠b) u:IC (w.setCell a u) b l:=λj hj=>by rw[<-h j hj];exact fb (w:=w) (ft _ _ _ _ (aG ha))
def Vc{v:Value}(r:Value)(hs:∀k,v.ownBlock=some k->r.ownBlock≠some k):v.ownBlock=none∨v.ownBlock≠r.ownBlock:=by cases hv:v.ownBlock with|none=>exact .inl rfl|some k=>exact .inr (λhe=>hs k hv he.symm)
def TS.axm{w wr w2 w3 T pb hv kv nh nk kk gg cap}(h:TS w wr T pb hv kv nh nk)(pW:Below wr.drew.heap.size wr.drew w2) o (hg:(w2.alloc o).grownBy w3 kv.ownBlock) (ho:w3.ownsRow (T+1) 3 1 (.slice (some ⟨gg,0,none⟩) (nk+1) cap) (nk+1) (wi (iI.K.take nk)++[.int .i64 (kk:Nat)])) (q8:kv.ownBlock=some gg∨gg=w2.heap.size+1) (hk:wi (iI.K.take nk)++[.int .i64 (kk:Nat)]=wi (iI.K.take (nk+1))):TS w (w3.setCell ⟨T,1,none⟩ (.slice (some ⟨gg,0,none⟩) (nk+1) cap)) T pb hv (.slice (some ⟨gg,0,none⟩) (nk+1) cap) nh (nk+1):=by
 obtain⟨jb,hoh,jo,agY,ak7,hn1,hn2,tz,hhp,hTp⟩:=h;have Tu:=jb.lt;have kS:=pW.size;have hzw:wr.heap.size<=w2.heap.size:=kS;have DO:=(Below.refl (T+1) (w2.alloc o)).grown hg χ (λk hk=>(jo.lt k hk).1);have rn:(w2.alloc o).heap.size<=w3.heap.size:=DO.size;rw[World.size_alloc]at rn;have hlo:=hoh.lt;rw[hk]at ho;refine⟨((((jb.drew).below pW Tu).alloc o).below DO (bC _)).set 1 _,?_,qk ho _ (bC _) _,?_,?_,hn1,?_,?_,?_,hTp⟩;exact qk (((wP hoh.drew pW ν).alloc o).kept hg (Vc kv agY)) _ (bC _) _;intro k hk he;have IN:gg=k:=by simpa[Value.ownBlock]using he
 subst IN;rcases q8 with h1|h1;exact agY _ hk h1;have:=(hlo _ hk).2;omega;exact(((ak7.below (w:=wr) (w':=w2) (B:=wr.heap.size) ((Below.refl _ wr).drew.trans pW) hhp).below (((Below.refl _ w2).alloc ν o)) ω).grown hg χ hn2).other _ (by show T≠pb;omega) _;intro he;have IN:gg=pb:=by simpa[Value.ownBlock]using he
 subst IN;rcases q8 with h1|h1;exact hn2 h1;omega;exact t068;simp[World.setCell];omega
def TS.axn{w wr w2 w3 T pb hv kv nh nk kk gg cap}(h:TS w wr T pb hv kv nh nk)(pW:Below wr.drew.heap.size wr.drew w2) o (hg:(w2.alloc o).grownBy w3 hv.ownBlock) (ho:w3.ownsRow (T+1) 3 1 (.slice (some ⟨gg,0,none⟩) (nh+1) cap) (nh+1) (wi (iI.H.take nh)++[.int .i64 (kk:Nat)])) (q8:hv.ownBlock=some gg∨gg=w2.heap.size+1) (hk:wi (iI.H.take nh)++[.int .i64 (kk:Nat)]=wi (iI.H.take (nh+1))):TS w (w3.setCell ⟨T,0,none⟩ (.slice (some ⟨gg,0,none⟩) (nh+1) cap)) T pb (.slice (some ⟨gg,0,none⟩) (nh+1) cap) kv (nh+1) nk:=by
 obtain⟨jb,hoh,jo,agY,ak7,hn1,hn2,tz,hhp,hTp⟩:=h;have Tu:=jb.lt;have kS:=pW.size;have hzw:wr.heap.size<=w2.heap.size:=kS;have DO:=(Below.refl (T+1) (w2.alloc o)).grown hg χ (λk hk=>(hoh.lt k hk).1);have rn:(w2.alloc o).heap.size<=w3.heap.size:=DO.size;rw[World.size_alloc]at rn;have hlo:=jo.lt;rw[hk]at ho;have aiK:∀k,kv.ownBlock=some k->hv.ownBlock≠some k:=λk h1 h2=>agY k h2 h1;refine⟨((((jb.drew).below pW Tu).alloc o).below DO (bC _)).set 0 _,qk ho _ (bC _) _,?_,?_,?_,?_,hn2,?_,?_,hTp⟩;exact qk (((wP jo.drew pW ν).alloc o).kept hg (Vc hv aiK)) _ (bC _) _;intro k he hk;have IN:gg=k:=by simpa[Value.ownBlock]using he
 subst IN;rcases q8 with h1|h1;exact aiK _ hk h1;have:=(hlo _ hk).2;omega;exact(((ak7.below (w:=wr) (w':=w2) (B:=wr.heap.size) ((Below.refl _ wr).drew.trans pW) hhp).below (((Below.refl _ w2).alloc ν o)) ω).grown hg χ hn1).other _ (by show T≠pb;omega) _;intro he;have IN:gg=pb:=by simpa[Value.ownBlock]using he
 subst IN;rcases q8 with h1|h1;exact hn1 h1;omega;exact t068;simp[World.setCell];omega
def DH w:Calls prog 27 #[] w λe w'=>∃t hb hc kb kc,e=.returned (.pointer (some ⟨t,0,none⟩))/\Tbl w' t hb hc kb kc/\w.heap.size<=t/\w.heap.size<=hb/\w.heap.size<=kb/\Below w.heap.size w w':=by
 obtain⟨i0,kV,mJ,mC,kS⟩:=fy Tryz.Ow;go_enter func27,ntmps27;go_wp2_with fail;refine(KS _).mono ?_;rintro e w1⟨v,rfl,iB,hB⟩;obtain⟨pb,pc,rfl,Mq,Qj,hp3,hp4⟩:=sX iB ψ
 have hT:=(Row.new w [.slice none 0 0,.slice none 0 0] 116);have Qr:=(Below.refl w.heap.size w).alloc ν (.cells #[.slice none 0 0,.slice none 0 0] 116);have Aw:(w.alloc (.cells #[.slice none 0 0,.slice none 0 0] 116)).heap.size=w.heap.size+1:=ζ;have hT1:Row w1 w.heap.size [.slice none 0 0,.slice none 0 0]:=hT.below hB ζ;rw[Aw]at Mq;have Ie:Below w.heap.size w w1:=Qr.trans (hB.mono (by rw[Aw];omega));have hP:IC w1 pb iI.lj:=λj hj=>by rw[hp3 j hj];exact EE _ _ hj
 have DS:TS w w1 w.heap.size pb (.slice none 0 0) (.slice none 0 0) 0 0:=⟨hT1,fc _ _ _ _,fc _ _ _ _,by simp[Value.ownBlock],hP,by simp[Value.ownBlock],by simp[Value.ownBlock],Ie,Qj,by omega⟩;have A1:=η DS;clear hT Qr iB hp3 hp4 hB hT1 Ie hP Aw Mq DS;go_wp2_with fail;go_loopw [8] (λv wr=>∃(i:Nat)(hv kv:Value),i<=64/\v=.int .i64 i/\TS w wr w.heap.size pb hv kv (min i 8) i) (λv _=>64-(intOf v).toNat);exact⟨0,_,_,by omega,rfl,A1.o⟩;obtain⟨i,hv,kv,hi,rfl,DS⟩:=hrel;have Mo:=DS.row.cell 1;have hf1:=DS.row.free 1;by_cases gV:i<64
 ·have cp:=DS.prm i gV;have c3:=abi i gV;have c2:=abj i;have hkt:=Ur iI.K i gV;have hht:=Ur iI.H i;generalize iI.dg iI.lj i=p at cp c3 c2;generalize OW:iI.dg iI.K i=kk at c3 hkt;generalize hhe:iI.dg iI.H i=hh at c2 hht;have hO:=DS.ok;obtain⟨KT,hKT⟩:∃KT,KT=wi (iI.K.take i):=⟨_,rfl⟩;rw[<-hKT]at hO;have HKT:=η hKT;have HO:=η hO;have B5:=η hkt;have B6:=η hht;have B7:=η DS;have B8:=η c3;have B9:=η c2;have hzs:=DS.rT.size;have Tu:=DS.row.lt;clear DS hkt hht c2 c3 OW hhe hO hKT;have q1:wr.drew.cell? ⟨w.heap.size,1,none⟩=some kv:=Mo;have q2:wr.drew.frozen? ⟨w.heap.size,1,none⟩=false:=hf1;clear Mo hf1;go_upto_region 5 with fail;go_cut [] (λwc=>∃kv',TS w wc w.heap.size pb hv kv' (min i 8) (i+1))
  case first=>
   go_region_law
    (first
     |(go_simp;go_at_call 54;refine(B8.o _).mono ?_;rintro e w2 ⟨rfl,pW⟩;have p1:=(pW.cell (p:=⟨w.heap.size,1,none⟩) Tu).trans q1;have p2:=(pW.frozen (p:=⟨w.heap.size,1,none⟩) Tu).trans q2;have Pg:w.heap.size<w2.heap.size:=ay Tu pW.size;have p3:=(fB (o:=.cells #[.int .i64 (kk:Nat)] 3) (w:=w2) (a:=⟨w.heap.size,1,none⟩) Pg).trans p1;have p4:=(World.frozen?_alloc_past (w:=w2) (.cells #[.int .i64 (kk:Nat)] 3) w.heap.size 1 Pg).trans p2)
     |(refine step_append_lies _ aFU _ _ _ aFU (w.heap.size+1) 3 i0 _ 1 8 fC kV mJ mC kS rfl ψ kv i KT aFU ((wP HO.o.drew pW ν).alloc _) ⟨w2.heap.size,0,none⟩ 1 1 [.int .i64 (kk:Nat)] aFU aFU (World.news_of_block (cs:=#[.int .i64 (kk:Nat)]) (t:=3) (fr:=(0,0)) (heap_alloc_new w2 _)) aHO ω ι ω (by have:=pW.size;simp at this|-;omega) (w2.heap.size+1) ζ ?_;intro gg cap w3 iM GC alG Tf;have DO:=(Below.refl (w.heap.size+1) (w2.alloc (.cells #[.int .i64 (kk:Nat)] 3))).grown GC χ (λk hk=>(HO.o.lt k hk).1);have p5:=(DO.cell (p:=⟨w.heap.size,1,none⟩) (bC _)).trans p3;have p6:=(DO.frozen (p:=⟨w.heap.size,1,none⟩) (bC _)).trans p4))
   all_goals
    go_wp2_with fail;go_meet
    case rel=>exact⟨_,B7.o.axm pW _ GC (by rw[<-HKT.o];exact iM) alG B5.o⟩
  case rest=>
  clear q1 q2 B5 B7 B8 HO HKT;obtain⟨kv',DS⟩:=hcut;by_cases h8:i<8
  ·have Mo:=DS.row.cell 0;have hf1:=DS.row.free 0;have hO:=DS.oh;have Tc:min i 8=i:=by omega
   have OQ:min (i+1) 8=i+1:=ω;rw[Tc]at hO DS;obtain⟨HT,hHT⟩:∃HT,HT=wi (iI.H.take i):=⟨_,rfl⟩;rw[<-hHT]at hO;have HKT:=η hHT;have HO:=η hO;have B7:=η DS;have B5:=η (B6.o h8);have B8:=η (B9.o h8);have hzs:=DS.rT.size;have Tu:=DS.row.lt;have hM:=η OQ;clear DS hO hHT B6 B9 Tc OQ;have q1:wc.drew.cell? ⟨w.heap.size,0,none⟩=some hv:=Mo;have q2:wc.drew.frozen? ⟨w.heap.size,0,none⟩=false:=hf1;clear Mo hf1;go_wp2_with fail;go_region_law
    (first
     |(go_simp;go_at_call 54;refine(B8.o _).mono ?_;rintro e w2 ⟨rfl,pW⟩;have p1:=(pW.cell (p:=⟨w.heap.size,0,none⟩) Tu).trans q1;have p2:=(pW.frozen (p:=⟨w.heap.size,0,none⟩) Tu).trans q2;have Pg:w.heap.size<w2.heap.size:=ay Tu pW.size;have p3:=(fB (o:=.cells #[.int .i64 (hh:Nat)] 3) (w:=w2) (a:=⟨w.heap.size,0,none⟩) Pg).trans p1;have p4:=(World.frozen?_alloc_past (w:=w2) (.cells #[.int .i64 (hh:Nat)] 3) w.heap.size 0 Pg).trans p2)
     |(refine step_append_lies _ aFU _ _ _ aFU (w.heap.size+1) 3 i0 _ 1 8 fC kV mJ mC kS rfl ψ hv i HT aFU ((wP HO.o.drew pW ν).alloc _) ⟨w2.heap.size,0,none⟩ 1 1 [.int .i64 (hh:Nat)] aFU aFU (World.news_of_block (cs:=#[.int .i64 (hh:Nat)]) (t:=3) (fr:=(0,0)) (heap_alloc_new w2 _)) aHO ω ι ω (by have:=pW.size;simp at this|-;omega) (w2.heap.size+1) ζ ?_;intro gg cap w3 iM GC alG Tf;have DO:=(Below.refl (w.heap.size+1) (w2.alloc (.cells #[.int .i64 (hh:Nat)] 3))).grown GC χ (λk hk=>(HO.o.lt k hk).1);have p5:=(DO.cell (p:=⟨w.heap.size,0,none⟩) (bC _)).trans p3;have p6:=(DO.frozen (p:=⟨w.heap.size,0,none⟩) (bC _)).trans p4))
   all_goals
    go_wp2_with fail;go_roundw
    case rel=>exact⟨i+1,_,kv',by omega,by go_num,by rw[hM.o];exact B7.o.axn pW _ GC (by rw[<-HKT.o];exact iM) alG B5.o⟩
    case measure=>simp[intOf];omega
  have Tc:min i 8=8:=by omega
  have OQ:min (i+1) 8=8:=ω;rw[Tc]at DS;have hM:=η OQ;have B7:=η DS;clear B6 B9 Tc OQ DS;go_wp2_with fail;go_roundw
  ·exact⟨i+1,hv,kv',by omega,by go_num,by rw[hM.o];exact B7.o⟩
  simp[intOf];omega
 obtain rfl:i=64:=by omega
 have aqF:TS w wr w.heap.size pb hv kv 8 64:=DS;have B7:=η aqF;clear DS aqF Mo hf1;rw[show((64:Nat):Int)=64 from rfl];go_wp2_with fail;go_ret;obtain⟨jb,hoh,jo,_,_,_,_,tz,_,_⟩:=B7.o;obtain⟨hb,hc,rfl,h1,h2,h3,h4⟩:=sX hoh ψ;obtain⟨kb,kc,rfl,k1,k2,k3,k4⟩:=sX jo ψ;refine⟨w.heap.size,hb,hc,kb,kc,rfl,⟨jb.cell 0,jb.cell 1,λj hj=>?_,λj hj=>?_⟩,ν,by omega,by omega,tz⟩;rw[h3 j hj];exact EE _ _ hj;rw[k3 j hj];exact EE _ _ hj
end
section
open iz
namespace gP
def ws(b:List UInt8)(i:Nat):List UInt32:=if i<=16 then first b i else sched b (i-16)
def wu b i:(ws b i).length=i:=by unfold ws;split;exact qo b i;rw[qc];omega
def aaw b i(h:i<16):ws b (i+1)=ws b i++[Mw b i]:=by unfold ws;rw[if_pos ω,if_pos ω];rfl
def afJ b i(h:16<=i):ws b (i+1)=ws b i++[next (ws b i)]:=by unfold ws;rw[if_neg ω];by_cases h2:i=16;subst h2;rfl;rw[if_neg ω,show i+1-16=(i-16)+1 by omega];rfl
def ajz b:ws b 64=sched b 48:=rfl
def agA b i:next (ws b i)=nw (ws b i) (i-16)+s0 (nw (ws b i) (i-15))+nw (ws b i) (i-7)+s1 (nw (ws b i) (i-2)):=by unfold next;rw[wu]
def aaZ a b c d:iz.kI ([a,b]++[c]++[d])=a+b+c+d:=by simp[iz.kI,UInt32.add_assoc]
def rv(s:H8)(k w:UInt32):List UInt32:=
 let x:=[s.h,S1 s.e]++[ch s.e s.f s.g]++[k]++[w]
 [iz.kI (x++[S0 s.a]++[maj s.a s.b s.c]),s.a,s.b,s.c,iz.kI (s.d::x),s.e,s.f,s.g]
def l8(s:H8):List UInt32:=[s.a,s.b,s.c,s.d,s.e,s.f,s.g,s.h]
def aon s k w:rv s k w=l8 (rnd s k w):=by unfold rv rnd l8;simp[iz.kI,UInt32.add_assoc]
def AT(x:UInt8) n(h:n<=24):(rJ x.toUInt32 n).toNat=x.toNat*2^n:=by
 unfold rJ;have h1:=x.toNat_lt;have h2:x.toNat*2^n<4294967296:=by have h3:(2:Nat)^n<=2^24:=bG ψ h;have:=Nat.mul_le_mul (show x.toNat<=255 by omega) h3;omega
 rw[UInt32.toNat_ofNat',eo,bp h2]
def K8 x y(h:y<256):x*256 ||| y=x*256+y:=by rw[br];exact(Nat.two_pow_add_eq_or_of_lt (i:=8) h x).symm
def XI(a b c d:UInt8):(rJ a.toUInt32 24 ||| rJ b.toUInt32 16 ||| rJ c.toUInt32 8 ||| d.toUInt32).toNat=a.toNat*16777216+b.toNat*65536+c.toNat*256+d.toNat:=by
 have ha:=a.toNat_lt;have hb:=b.toNat_lt;have hc:=c.toNat_lt;have hd:=d.toNat_lt;rw[dN,dN,dN,AT _ _ ψ,AT _ _ ψ,AT _ _ ψ,eo];have e1:a.toNat*2^24 ||| b.toNat*2^16=(a.toNat*256+b.toNat)*2^16:=by rw[show a.toNat*2^24=(a.toNat*256)*2^16 by omega,<-dm,<-dm,<-Nat.shiftLeft_or_distrib,dm];rw[K8 _ _ hb]
 have e2:(a.toNat*256+b.toNat)*2^16 ||| c.toNat*2^8=((a.toNat*256+b.toNat)*256+c.toNat)*2^8:=by rw[show(a.toNat*256+b.toNat)*2^16=((a.toNat*256+b.toNat)*256)*2^8 by omega,<-dm,<-dm,<-Nat.shiftLeft_or_distrib,dm];rw[K8 _ _ hc]
 rw[e1,e2];rw[show(2:Nat)^8=256 from by decide,K8 _ _ hd];clear e1 e2;generalize a.toNat=x at *;generalize b.toNat=y at *;generalize c.toNat=z at *;omega
def YR(l:List UInt8) n j(h:j<64):nth ((l.drop n).take 64) j=nth (l.drop n) j:=by unfold nth;rw[ab,ab,aM h]
end gP
end
def t053{p:Prop}(h:p:=by
 go_roundw
 ·((repeat(apply Exists.intro));(refine And.intro ?_ rfl);exact⟨i+1,by omega,by go_num,H1.o,H2.o⟩)
 simp[intOf];omega):p:=h
section
open Go.RowKit iz
def vi(l:List UInt32):List Value:=l.map λx=>Value.int .i64 (V x)
def XN l:(vi l).length=l.length:=by simp[vi]
def Qw l i(h:i<l.length):(vi l)[i]? =some (.int .i64 (V (gP.nw l i))):=by unfold vi gP.nw;rw[aE,ab,ag h];rfl
def aaz l:∀u∈vi l,u.oneCell'=true:=by exact t083
def VC(w:World)(b:Nat)(l:List UInt32):Prop:=∀j,j<l.length->w.cell? ⟨b,j,none⟩=some (.int .i64 (V (gP.nw l j)))
def VC.below{B b l w w'}(h:VC w b l)(hb:Below B w w')(hB:b<B):VC w' b l:=λj hj=>by rw[<-h j hj];exact fb (w:=w) (hb.block b hB)
def ah7:iI.H=(jS gP.begin).map UInt32.toNat:=aFK
def ah6:iI.K=gP.rounds.map UInt32.toNat:=aFK
def al5 l j(h:j<l.length):((iI.dg (l.map UInt32.toNat) j:Nat):Int)=V (gP.nw l j):=by unfold iI.dg gP.nw V;rw[ab,ab,aE,ag h];rfl
def IC.words{w b l m}(h:IC w b m)(hm:m=l.map UInt32.toNat):VC w b l:=λj hj=>by subst hm;rw[h j (by rw[bk];exact hj),al5 l j hj]
def VC.src{w b l}(h:VC w b l):∀j u,(vi l)[j]? =some u->w.cell? (Addr.add ⟨b,0,none⟩ j)=some u:=λj u hu=>by
 have hj:j<l.length:=by have:=(aB.1 hu).1;rwa[XN]at this
 rw[fJ,aC,h j hj,<-hu,Qw l j hj]
structure WS(w:World)(g:Nat)(l:List UInt32):Prop where
 vc:VC w g l
 fz:∀j,w.frozen? ⟨g,j,none⟩=false
theorem WS.below{B b l w w'}(h:WS w b l)(hb:Below B w w')(hB:b<B):WS w' b l:=⟨h.vc.below hb hB,λj=>by rw[World.frozen?_of_block (w:=w) (hb.block b hB)];exact h.fz j⟩
def WS.set{w b l}(h:WS w b l) i(hi:i<l.length) x:WS (w.setCell ⟨b,i,none⟩ (.int .i64 (V x))) b (l.set i x):=by refine⟨λj hj=>?_,λj=>by rw[World.frozen?_setCell];exact h.fz j⟩;rw[aY]at hj;by_cases e:j=i;subst e;rw[World.cell?_setCell_same w ⟨b,j,none⟩ _ (h.vc j hi)];unfold gP.nw;rw[ab,cG hi];rfl;rw[World.cell?_setCell_other w ⟨b,i,none⟩ ⟨b,j,none⟩ _ (by intro he;cases he;exact e rfl),h.vc j hj];unfold gP.nw;rw[ab,ab,de (aG e)]
def K7{w B n e v l}(h:w.ownsRow B e 1 v n (vi l))(hn:0<n)(hl:n=l.length):∃g cap,v=.slice (some ⟨g,0,none⟩) n cap/\B<=g/\g<w.heap.size/\WS w g l:=by obtain⟨g,cap,h1,h2,h3,h4,h5⟩:=sX h hn;exact⟨g,cap,h1,h2,h3,λj hj=>by rw[h4 j ω];exact Qw l j hj,h5⟩
def acg(n m:Nat)(hn:n<=35184372088832):((n:Int)*8/2^ (8*m) % 256)=Y (shr (UInt64.ofNat (8*n)) (8*m)).toUInt8:=by unfold Y shr;rw[ep,aT,aT];have h1:8*n % 2^64=8*n:=bp ω;have h2:8*n/2^ (8*m)<2^64:=dS (eh _ _) ω;rw[h1,bp h2];rw[show(n:Int)*8=((8*n:Nat):Int)by omega];rw[ef,Int.natCast_ediv,dx];rfl
def aea N m(hm:m<8):(gP.Kc N).take (7-m)++[(shr N (8*m)).toUInt8]=(gP.Kc N).take (8-m):=by
 have hl:7-m< (gP.Kc N).length:=by show _<8;omega
 have h:=ax hl;have e:(gP.Kc N)[7-m]=nth (gP.Kc N) (7-m):=by simp[nth,hl]
 rw[show 7-m+1=8-m by omega,e,gP.LN N _ ω,show 56-8*(7-m)=8*m by omega]at h;exact h.symm
def QI x(k:Nat)(h2:2<=k)(hk:k<=31) w:Calls prog 148 #[.int .i64 (V x),.int .i64 (k:Int)] w λe w'=>e=.returned (.int .i64 (V (ku x k)))/\∃n,w'=w.drewN n:=by
 have q1:(0:Int)<=(k:Int):=ω;have q2:(k:Int)<=32:=ω;have q3:(0:Int)<=32-(k:Int):=ω;have q4:32-(k:Int)<=30:=ω;go_enter func148,ntmps148;go_wp2;go_quiet (fail)
 go_wp2;go_ret;exact⟨rfl,_,rfl⟩
def pd x k n(h:(n=2/\k=2)∨(n=6/\k=6)∨(n=7/\k=7)∨(n=11/\k=11)∨(n=13/\k=13)∨(n=17/\k=17)∨(n=18/\k=18)∨(n=19/\k=19)∨(n=22/\k=22)∨(n=25/\k=25)) w:Calls prog 148 #[.int .i64 (V x),.int .i64 k] w λe w'=>e=.returned (.int .i64 (V (ku x n)))/\∃m,w'=w.drewN m:=by rcases h with⟨rfl,rfl⟩|⟨rfl,rfl⟩|⟨rfl,rfl⟩|⟨rfl,rfl⟩|⟨rfl,rfl⟩|⟨rfl,rfl⟩|⟨rfl,rfl⟩|⟨rfl,rfl⟩|⟨rfl,rfl⟩|⟨rfl,rfl⟩<;>exact QI x _ ψ ψ w
def BX(w:World) n m:(w.drewN n).drewN m=w.drewN (n+m):=by simp[World.drewN,aZ]
def EH{f args}{w:World}{n v}(h:Calls prog f args (w.drewN n) λe w'=>e=.returned v/\∃m,w'=(w.drewN n).drewN m):Calls prog f args (w.drewN n) λe tK=>e=.returned v/\∃m,tK=w.drewN m:=h.mono λ_ _ ⟨he,m,hm⟩=>⟨he,n+m,by rw[hm,BX]⟩
def y5{f args}{w:World}{a n v}(h:Calls prog f args (w.drewN (a+n)) λe w'=>e=.returned v/\∃m,w'=(w.drewN (a+n)).drewN m):Calls prog f args (w.drewN (a+n)) λe tK=>e=.returned v/\∃m,tK=w.drewN (a+m):=h.mono λ_ _ ⟨he,m,hm⟩=>⟨he,n+m,by rw[hm,BX,aZ]⟩
def YH{w:World}{B e v n xs}(h:w.ownsRow B e 1 v n xs) k:(w.drewN k).ownsRow B e 1 v n xs:=h
def XJ S i(hi:i<16):Y (nth S (4*i))*16777216+Y (nth S (4*i+1))*65536+Y (nth S (4*i+2))*256+Y (nth S (4*i+3))=V (gP.Mw (S.take 64) i):=by
 have e:∀j,j<64->nth (S.take 64) j=nth S j:=λj hj=>by have:=gP.YR S 0 j hj;simpa using this
 unfold V gP.Mw;rw[e _ ω,e _ ω,e _ ω,e _ ω,gP.XI];unfold Y;omega
def rvo(s:gP.H8)(k w:UInt32):List UInt32:=
 let x:=[s.h,gP.S1 s.e]++[s.e&&&s.f ||| ~~~s.e&&&s.g]++[k]++[w]
 [kI (x++[gP.S0 s.a]++[s.a&&&s.b ||| s.a&&&s.c ||| s.b&&&s.c]),s.a,s.b,s.c,kI (s.d::x),s.e,s.f,s.g]
def ajV s k w:rvo s k w=jS (gP.rnd s k w):=by unfold rvo;rw[gP.arq,gP.akx];exact gP.aon s k w
def Row.vc{w b l}(h:Row w b (vi l)):VC w b l:=λj hj=>by rw[h.cell,Qw l j hj]
def agj s t j(h:j<8):kI [gP.nw (jS s) j,gP.nw (jS t) j]=gP.nw (jS (gP.plus s t)) j:=by have hj:j=0∨j=1∨j=2∨j=3∨j=4∨j=5∨j=6∨j=7:=ω;simp only[kI,UInt32.add_zero];rcases hj with rfl|rfl|rfl|rfl|rfl|rfl|rfl|rfl<;>rfl
def Sa(l:List UInt32)(j:Nat):List UInt8:=((l.take j).map gP.be4).flatten
def JE l j(h:j<l.length):Sa l (j+1)=Sa l j++gP.be4 (gP.nw l j):=by unfold Sa;rw[gP.Vh l j h,cP,dr];simp
theorem N8 l:∀j,j<=l.length->(Sa l j).length=4*j
 |0,_=>rfl|j+1,h=>by rw[JE l j h,ai,N8 l j ω];show _+4=_;omega
def ZF{P}(w:World) src dst e a b c d(hs:P.underlying src=some (.slice e))(he:P.underlying e=some (.int .u8))(hd:P.underlying dst=some .string):(convert src dst (.slice (some ⟨w.heap.size,0,none⟩) 4 4)).run P (w.alloc (.cells #[.int .u8 (Y a),.int .u8 (Y b),.int .u8 (Y c),.int .u8 (Y d)] e))=.ok (.string (str [a,b,c,d])) (w.alloc (.cells #[.int .u8 (Y a),.int .u8 (Y b),.int .u8 (Y c),.int .u8 (Y d)] e)):=oZ _ src dst e _ 0 4 [a,b,c,d] hs he hd λj hj=>by have Qm:j=0∨j=1∨j=2∨j=3:=aGx;rw[aC,(Row.new w [.int .u8 (Y a),.int .u8 (Y b),.int .u8 (Y c),.int .u8 (Y d)] e).cell];rcases Qm with rfl|rfl|rfl|rfl<;>rfl
def Kq:Value->Nat
 |.string x=>x.size|_=>0
def Uu l x:vi l++[.int .i64 (V x)]=vi (l++[x]):=by simp[vi]
def Q2 t hb hc kb kc l w(hT:Tbl w t hb hc kb kc)(hht:hb<w.heap.size)(hkt:kb<w.heap.size)(hm:l.length<=35184372088832):Calls prog 125 #[.pointer (some ⟨t,0,none⟩),.string (str l)] w λe w'=>e=.returned (.string (str (gP.sum l)))/\Below w.heap.size w w':=by
 obtain⟨i0,kV,mJ,mC,kS⟩:=fy Tryz.Ow;have th:=hT.h;have tk:=hT.k;have hH:=hT.hl.words ah7;have hK:=hT.kl.words ah6;have Qg:=fP th;have HH:=η hH;have HK:=η hK;clear hT hH hK;go_enter func125,ntmps125;go_wp2_with fail;have ID:gP.lr l.length<64:=by unfold gP.lr;omega
 go_loopg [1] (gP.lr l.length) (λn sv wr=>∃j:Nat,j<=gP.lr l.length/\gP.lr l.length-j<=n/\sv=.string (str (l++[128]++List.replicate j 0))/\wr=w);exact⟨0,by omega,by omega,by simp,rfl⟩;obtain⟨j,hj,hjn,rfl,rfl⟩:=hrel;have hM:(l++[128]++List.replicate j (0:UInt8)).length=l.length+1+j:=aFJ;have Zg:(l.length+1+j) % 64=56↔j=gP.lr l.length:=by unfold gP.lr at hj|-;omega
 have hsn:l++[128]++List.replicate j (0:UInt8)++[0]=l++[128]++List.replicate (j+1) 0:=by rw[aL,dc]
 have HSN:=η hsn;clear hsn;by_cases hjz:j=gP.lr l.length
 ·have he:=Zg.2 hjz;go_wp2_with fail;have hP:l++[128]++List.replicate j (0:UInt8)=l++[128]++List.replicate (gP.lr l.length) 0:=by rw[hjz]
  rw[hP];have HP:Hid ((l++[128]++List.replicate (gP.lr l.length) (0:UInt8))++gP.Kc (UInt64.ofNat (8*l.length))=gP.pad l):=η rfl;have hPl:(l++[128]++List.replicate (gP.lr l.length) (0:UInt8)).length=l.length+1+gP.lr l.length:=aFJ;generalize l++[128]++List.replicate (gP.lr l.length) (0:UInt8)=P at HP hPl|-;clear hP hM Zg HSN;have hPm:P.length<=35184372088832+64:=ω;clear hPl;obtain⟨N,hN⟩:∃N,N=UInt64.ofNat (8*l.length):=⟨_,rfl⟩;rw[<-hN]at HP;have HN:=η hN;clear hN;obtain⟨wo,rfl⟩:∃wo:World,wo=wr:=⟨_,rfl⟩;go_loopw [1,6] (λsv kv wr=>∃k:Nat,k<=8/\kv=.int .i64 ((k:Int) - 1)/\sv=.string (str (P++(gP.Kc N).take (8-k)))/\Below wo.heap.size wo wr) (λ_ kv _=>((intOf kv)+1).toNat);exact⟨8,by omega,rfl,by simp,Below.refl _ _⟩;obtain⟨k,hk,rfl,rfl,hB⟩:=hrel;by_cases h0:k=0
  ·subst h0;have acS:P++(gP.Kc N).take (8-0)=gP.pad l:=by rw[<-HP.o,au (by show 8<=8;omega)]
   rw[acS];have hPL:=gP.RV l;have hPM:(gP.pad l).length<=35184372088832+72:=by rw[<-HP.o,ai];show _+8<=_;omega
   have HS:Hid (gP.sum l=gP.out (gP.blocks ((gP.pad l).length/64) gP.begin (gP.pad l))):=η rfl;clear acS HP;generalize gP.pad l=PD at hPL hPM HS|-;have B1:=η hB;have th2:wr.cell? ⟨t,0,none⟩=some (.slice (some ⟨hb,0,none⟩) 8 hc):=(hB.cell (p:=⟨t,0,none⟩) Qg).trans th;clear hB th;rw[show((0:Nat):Int) - 1= -1 from rfl];have hl8:(jS gP.begin).length=8:=rfl;have HV:=η (HH.o.below B1.o hht);go_wp2_with (at_builtin;refine wpList_append_own _ rfl _ _ 25 rfl wo.heap.size 3 i0 (.int .i64 0) 1 8 fC kV mJ mC kS rfl ψ _ 0 [] rfl (fc _ _ _ _) ⟨hb,0,none⟩ 8 hc (vi (jS gP.begin)) rfl rfl HV.o.src (aaz _) ι ω B1.o.size ?_;intro JO w1 zV IK _);obtain⟨gh,ch,rfl,hgh,DN,yT⟩:=K7 (l:=jS gP.begin) zV ω rfl;have m0:Below wo.heap.size wo w1:=B1.o.trans ((Below.refl wo.heap.size wr).grown IK B1.o.size aFP);have C1:=η yT;have C2:=η m0;clear zV IK yT m0 th2;have hnb:PD.length/64*64=PD.length:=ω;generalize hNB:PD.length/64=nb at HS hnb;clear hNB;obtain⟨w0,rfl⟩:∃w0:World,w0=wo:=⟨_,rfl⟩;go_loopw [1] (λsv wr=>∃n:Nat,n<=nb/\sv=.string (str (PD.drop (64*n)))/\WS wr gh (jS (gP.blocks n gP.begin PD))/\Below w0.heap.size w0 wr/\gh<wr.heap.size) (λsv _=>Kq sv);exact⟨0,by omega,by rw[eX,bB],C1.o,C2.o,DN⟩;clear C1 C2;obtain⟨n,hn,rfl,yT,hB,ap5⟩:=hrel;generalize ig:gP.blocks n gP.begin PD=st at yT;have HST:=η ig;clear ig;have D1:=η yT;have D2:=η hB;clear yT hB;by_cases hnn:n=nb
   ·have Lm:PD.drop (64*n)=[]:=bj ω;as_aux_lemma=>
    rw[Lm];clear Lm;have qm:gP.sum l=gP.out st:=by rw[HS.o,<-HST.o,hnn]
    have S1:=η qm;clear qm HST HS hnn;have hhl:(jS st).length=8:=rfl;have hO8:Sa (jS st) 8=gP.out st:=rfl;have S2:=η hO8;have S3:=η (JE (jS st));have S4:=η (N8 (jS st));clear hO8;go_wp2_with fail;obtain⟨wo2,rfl⟩:∃wo2:World,wo2=wr:=⟨_,rfl⟩;go_loopw [20,298] (λov jv wr=>∃j:Nat,j<=8/\jv=.int .i64 j/\ov=.string (str (Sa (jS st) j))/\VC wr gh (jS st)/\Below w0.heap.size w0 wr/\gh<wr.heap.size) (λ_ jv _=>8-(intOf jv).toNat);exact⟨0,by omega,rfl,rfl,D1.o.vc,D2.o,ap5⟩;clear D1 D2;obtain⟨j,hj,rfl,rfl,CV,ll,oX⟩:=hrel;by_cases hj8:j<8
    ·have y0:=CV j hj8;have hsn:=S3.o j hj8;have hln:=S4.o j hj;have T1:=η hsn;have T3:=η CV;have T4:=η ll;clear hsn CV ll;generalize Sa (jS st) j=O at hln T1|-;generalize gP.nw (jS st) j=x at y0 T1;have p0:(j:Int)<8:=by omega
     have hcv:=ZF (P:=prog) wr 35 9 5 (mA x 24).toUInt8 (mA x 16).toUInt8 (mA x 8).toUInt8 x.toUInt8 fq fu fp;have T5:=η ((Below.refl wr.heap.size wr).alloc ν (.cells #[.int .u8 (Y (mA x 24).toUInt8),.int .u8 (Y (mA x 16).toUInt8),.int .u8 (Y (mA x 8).toUInt8),.int .u8 (Y x.toUInt8)] 5));go_wp2_with fail;go_roundw
     ·exact⟨j+1,by omega,by go_num,by rw[T1.o];rfl,T3.o.below T5.o oX,T4.o.trans (T5.o.mono T4.o.size),by simp;omega⟩
     simp[intOf];omega
    obtain rfl:j=8:=by omega
    rw[S2.o,<-S1.o,show((8:Nat):Int)=8 from rfl];have T4:=η ll;clear CV ll;go_wp2_with fail;go_ret;exact⟨rfl,T4.o⟩
   have hlen:(PD.drop (64*n)).length=PD.length-64*n:=aD;have alg:64<=(PD.drop (64*n)).length:=by omega
   have hlm:(PD.drop (64*n)).length<=35184372088832+72:=ω;have Ax:(PD.drop (64*n)).drop 64=PD.drop (64*(n+1)):=by rw[dI];congr 1
   have Qo:gP.blocks (n+1) gP.begin PD=gP.block st ((PD.drop (64*n)).take 64):=by rw[gP.blocks,HST.o]
   have E1:=η Ax;have E2:=η Qo;have iZ:(PD.drop (64*n)).isEmpty=false:=by cases h:PD.drop (64*n)with|nil=>rw[h]at alg;simp at alg|cons=>rfl
   clear Ax Qo hlen HST;generalize PD.drop (64*n)=S at alg hlm E1 E2 iZ|-;go_wp2_with fail;obtain⟨wb,rfl⟩:∃wb:World,wb=wr:=⟨_,rfl⟩;go_loopw [8,9] (λwv iv wr=>∃i:Nat,i<=64/\iv=.int .i64 i/\wr.ownsRow wb.heap.size 3 1 wv i (vi (gP.ws (S.take 64) i))/\Below wb.heap.size wb wr) (λ_ iv _=>64-(intOf iv).toNat);exact⟨0,by omega,rfl,fc _ _ _ _,Below.refl _ _⟩;obtain⟨i,hi,rfl,iB,hB⟩:=hrel;obtain⟨wa,an9,hv⟩:=Ve iB;subst hv;have F1:=η iB;have F2:=η hB;clear iB hB;by_cases avn:i<64
   ·by_cases apZ:i<16
    ·as_aux_lemma=>
     have p0:(0:Int)<=4*(i:Int):=ω;have p1:4*(i:Int)+3< (S.length:Int):=ω;have n0:(4*(i:Int)).toNat=4*i:=ω;have n1:(4*(i:Int)+1).toNat=4*i+1:=ω;have n2:(4*(i:Int)+2).toNat=4*i+2:=ω;have n3:(4*(i:Int)+3).toNat=4*i+3:=ω;have b0:=Mf (nth S (4*i));have b1:=Mf (nth S (4*i+1));have b2:=Mf (nth S (4*i+2));have b3:=Mf (nth S (4*i+3));go_wp2_with fail;refine gI.MK 1 30 mixed ξ rfl rfl θ ?_;simp only[aW,bH,bg,bB,List.foldl,gI.rQ];change wpQuiet _ _ _ _ _ (Act.put _ (some 62) (Value.slice wa i an9));go_frame;repeat(go_big_quiet_step (fail))
     refine fe ?_;have G1:=F1.o.drew;have G2:=F2.o.drew;generalize wr.drew=w5 at G1 G2|-;go_wp2_with (at_builtin;refine wpList_append_own _ rfl _ _ 25 rfl wb.heap.size 3 i0 (.int .i64 0) 1 8 fC kV mJ mC kS rfl ψ _ _ _ rfl (G1.alloc _) ⟨w5.heap.size,0,none⟩ 1 1 [.int .i64 _] rfl rfl (cell_one_new _ _ _) (ints_oneCell .i64 [_]) ι ω (by have:=G2.size;simp;omega) ?_;intro wv2 w6 vO Pa _);have rE:Below wb.heap.size wb w6:=(G2.alloc G2.size _).trans ((Below.refl wb.heap.size _).grown Pa (by have:=G2.size;simp;omega) (λk hk=>(G1.lt k hk).1));rw[XJ S i apZ,Uu,<-gP.aaw (S.take 64) i apZ]at vO;have H1:=η vO;have H2:=η rE;clear vO Pa rE G1 G2;exact t053
    as_aux_lemma=>
    obtain⟨gw,cw,he,hg1,Th,yT⟩:=K7 (l:=gP.ws (S.take 64) i) F1.o ω (gP.wu _ _).symm;cases he;have hwl:=gP.wu (S.take 64) i;have c15:=yT.vc (i-15) ω;have c2:=yT.vc (i-2) ω;have c16:=yT.vc (i-16) ω;have c7:=yT.vc (i-7) ω;have Ax:=gP.agA (S.take 64) i;have Z9:=η Ax;clear Ax yT hwl;generalize gP.nw (gP.ws (S.take 64) i) (i-15)=m9 at c15 Z9;generalize gP.nw (gP.ws (S.take 64) i) (i-2)=x2 at c2 Z9;generalize gP.nw (gP.ws (S.take 64) i) (i-16)=m4 at c16 Z9;generalize gP.nw (gP.ws (S.take 64) i) (i-7)=x7 at c7 Z9;have p0:(0:Int)<=(i:Int) - 15:=ω;have p1:(i:Int) - 15< (i:Int):=ω;have p2:(0:Int)<=(i:Int) - 2:=ω;have p3:(i:Int) - 2< (i:Int):=ω;have p4:(0:Int)<=(i:Int) - 16:=ω;have p5:(i:Int) - 16< (i:Int):=ω;have p6:(0:Int)<=(i:Int) - 7:=ω;have p7:(i:Int) - 7< (i:Int):=ω;go_wp2_with fail;go_quiet ((go_at_call 148;first|(exact EH (pd _ _ 7 ω _))|(exact EH (pd _ _ 18 ω _))))
    obtain⟨q1,rfl⟩:∃q1:Nat,q1=nq:=⟨_,rfl⟩;go_wp2_with fail;go_quiet ((go_at_call 148;first|(exact y5 (pd _ _ 17 ω _))|(exact y5 (pd _ _ 19 ω _))))
    go_wp2_with fail;have hwn:(wr.drewN q1).drewN nq=wr.drewN (q1+nq):=BX _ _ _;have G1:=YH F1.o (q1+nq);have G2:=fE F2.o (q1+nq);have d16:(wr.drewN (q1+nq)).cell? ⟨gw,i-16,none⟩=some (.int .i64 (V m4)):=c16;have d7:(wr.drewN (q1+nq)).cell? ⟨gw,i-7,none⟩=some (.int .i64 (V x7)):=c7;rw[hwn];clear hwn c16 c7 c15 c2;have e0:ku m9 7 ^^^ ku m9 18 ^^^ mA m9 3=gP.s0 m9:=rfl;have e1:ku x2 17 ^^^ ku x2 19 ^^^ mA x2 10=gP.s1 x2:=rfl;generalize wr.drewN (q1+nq)=w4 at G1 G2 d16 d7|-;refine gI.MK 1 17 mixed ξ rfl rfl θ ?_
    simp only[aW,bH,bg,bB,List.foldl,gI.rQ];change wpQuiet _ _ _ _ _ (Act.put _ (some 134) (Value.slice (some ⟨gw,0,none⟩) i an9));go_frame;repeat(go_big_quiet_step (fail))
    refine fe ?_;have K1:=G1.drew;have K2:=G2.drew;generalize w4.drew=w5 at K1 K2|-;go_wp2_with (at_builtin;refine wpList_append_own _ rfl _ _ 25 rfl wb.heap.size 3 i0 (.int .i64 0) 1 8 fC kV mJ mC kS rfl ψ _ _ _ rfl (K1.alloc _) ⟨w5.heap.size,0,none⟩ 1 1 [.int .i64 _] rfl rfl (cell_one_new _ _ _) (ints_oneCell .i64 [_]) ι ω (by have:=K2.size;simp;omega) ?_;intro wv2 w6 vO Pa _);have rE:Below wb.heap.size wb w6:=(K2.alloc K2.size _).trans ((Below.refl wb.heap.size _).grown Pa (by have:=K2.size;simp;omega) (λk hk=>(K1.lt k hk).1));rw[Uu]at vO;have hvn:∀z,z=gP.next (gP.ws (S.take 64) i)->vi (gP.ws (S.take 64) i++[z])=vi (gP.ws (S.take 64) (i+1)):=λz hz=>by rw[hz,gP.afJ _ _ ω]
    rw[hvn _ (by rw[Z9.o];exact gP.aaZ _ _ _ _)]at vO;have H1:=η vO;have H2:=η rE;clear vO Pa rE G1 G2 K1 K2;exact t053
   obtain rfl:i=64:=by omega
   obtain⟨gw,cw,he,hg1,Th,yT⟩:=K7 (l:=gP.ws (S.take 64) 64) F1.o ω (gP.wu _ _).symm;cases he;rw[gP.ajz]at yT;have hvw:=η yT.vc;have Qr:=F2.o;have VU:=Qr.size;have hgh:=D1.o.below Qr ap5;have hhl:(jS st).length=8:=rfl;have Ia:gh<wr.heap.size:=ω;rw[show((64:Nat):Int)=64 from rfl];have HS8:=η hgh;have HB0:=η Qr;clear yT Qr hgh F1 F2;go_wp2_with (at_builtin;refine wpList_append_own _ rfl _ _ 25 rfl wr.heap.size 3 i0 (.int .i64 0) 1 8 fC kV mJ mC kS rfl ψ _ 0 [] rfl (fc _ _ _ _) ⟨gh,0,none⟩ 8 ch (vi (jS st)) rfl rfl HS8.o.vc.src (aaz _) ι ω ν ?_;intro vv w7 OO ac2 _);obtain⟨gv,cv,rfl,avs,avr,hv7⟩:=K7 (l:=jS st) OO ω rfl;have uX:Below wr.heap.size wr w7:=(Below.refl _ _).grown ac2 ν aFP;have J1:=η hv7.vc;have J2:=η uX;clear OO ac2 hv7 uX;obtain⟨we,rfl⟩:∃we:World,we=wr:=⟨_,rfl⟩;go_loopw [12,13] (λvv iv wr=>∃(i g c:Nat),i<=64/\iv=.int .i64 i/\vv=.slice (some ⟨g,0,none⟩) 8 c/\we.heap.size<=g/\g<wr.heap.size/\VC wr g (jS (gP.E0 (gP.sched (S.take 64) 48) st i))/\Below we.heap.size we wr) (λ_ iv _=>64-(intOf iv).toNat);exact⟨0,gv,cv,by omega,rfl,rfl,avs,avr,J1.o,J2.o⟩;clear J1 J2;obtain⟨i,g,c,hi2,rfl,rfl,hgw,hg,CV,hB⟩:=hrel;by_cases gV:i<64
   ·have zX:gP.E0 (gP.sched (S.take 64) 48) st (i+1)=gP.rnd (gP.E0 (gP.sched (S.take 64) 48) st i) (gP.nw gP.rounds i) (gP.nw (gP.sched (S.take 64) 48) i):=rfl;have Z9:=η zX;clear zX;generalize gP.E0 (gP.sched (S.take 64) 48) st i=s8 at CV Z9;obtain⟨a1,b1,c1,d1,e1,f1,g1,h1⟩:=s8;have x0:wr.cell? ⟨g,0,none⟩=some (.int .i64 (V a1)):=CV 0 (by show 0<8;omega);have x1:wr.cell? ⟨g,1,none⟩=some (.int .i64 (V b1)):=CV 1 (by show 1<8;omega);have x2:wr.cell? ⟨g,2,none⟩=some (.int .i64 (V c1)):=CV 2 (by show 2<8;omega);have x3:wr.cell? ⟨g,3,none⟩=some (.int .i64 (V d1)):=CV 3 (by show 3<8;omega);have x4:wr.cell? ⟨g,4,none⟩=some (.int .i64 (V e1)):=CV 4 (by show 4<8;omega);have x5:wr.cell? ⟨g,5,none⟩=some (.int .i64 (V f1)):=CV 5 (by show 5<8;omega);have x6:wr.cell? ⟨g,6,none⟩=some (.int .i64 (V g1)):=CV 6 (by show 6<8;omega);have x7:wr.cell? ⟨g,7,none⟩=some (.int .i64 (V h1)):=CV 7 (by show 7<8;omega);have ll:Below w0.heap.size w0 wr:=(D2.o.trans (HB0.o.mono D2.o.size)).trans (hB.mono (by have:=D2.o.size;omega));have xw:=(hvw.o.below hB Th) i (by rw[gP.qc];omega);have xk:=(HK.o.below ll hkt) i gV;have xt:wr.cell? ⟨t,1,none⟩=some (.slice (some ⟨kb,0,none⟩) 64 kc):=(ll.cell (p:=⟨t,1,none⟩) Qg).trans tk;have p0:(i:Int)<64:=ω;have HB:=η hB;clear CV ll hB;generalize gP.nw gP.rounds i=kk at xk Z9;generalize gP.nw (gP.sched (S.take 64) 48) i=wk at xw Z9;go_wp2_with fail;go_quiet ((go_at_call 148;first|(exact EH (pd _ _ 6 ω _))|(exact EH (pd _ _ 11 ω _))|(exact EH (pd _ _ 25 ω _))))
    obtain⟨q1,rfl⟩:∃q1:Nat,q1=nq:=⟨_,rfl⟩;go_wp2_with fail;go_quiet (fail)
    obtain⟨q2,rfl⟩:∃q2:Nat,q2=nq:=⟨_,rfl⟩;go_wp2_with fail;go_quiet (fail)
    obtain⟨q3,rfl⟩:∃q3:Nat,q3=nq:=⟨_,rfl⟩;go_wp2_with fail;go_quiet ((go_at_call 148;first|(exact y5 (pd _ _ 2 ω _))|(exact y5 (pd _ _ 13 ω _))|(exact y5 (pd _ _ 22 ω _))))
    obtain⟨q4,rfl⟩:∃q4:Nat,q4=nq:=⟨_,rfl⟩;go_wp2_with fail;go_quiet (fail)
    go_wp2_with fail;refine gI.tail 30 mixed ξ rfl ?_
    simp only[aW,bH,bg,bB];repeat(go_big_quiet_step (fail))
    refine fe ?_;have K2:=(fE (fE (fE (fE (fE HB.o q1) q2) q3) q4) nq).drew;generalize World.drew _=w5 at K2|-;have hw5:=K2.size;have jb:=Row.new w5 (vi (rvo ⟨a1,b1,c1,d1,e1,f1,g1,h1⟩ kk wk)) 3;have hvn:=jb.vc;have mQ:=K2.alloc K2.size (.cells (vi (rvo ⟨a1,b1,c1,d1,e1,f1,g1,h1⟩ kk wk)).toArray 3);have pL:w5.heap.size< (w5.alloc (.cells (vi (rvo ⟨a1,b1,c1,d1,e1,f1,g1,h1⟩ kk wk)).toArray 3)).heap.size:=ζ;have hrv:=ajV ⟨a1,b1,c1,d1,e1,f1,g1,h1⟩ kk wk;rw[<-Z9.o]at hrv;have HRV:=η hrv;clear jb hrv K2;unfold rvo at hvn mQ pL HRV;simp only[vi,gP.S1,gP.S0,List.map_cons,bP,aU,aX]at hvn mQ pL HRV;have L1:=η hvn;have L2:=η mQ;have L3:=η pL;clear hvn mQ pL;go_wp2_with fail;go_roundw
    ·exact⟨i+1,w5.heap.size,8,by omega,by go_num,rfl,hw5,L3.o,by rw[<-HRV.o];exact L1.o,L2.o⟩
    simp[intOf];omega
   as_aux_lemma=>
   obtain rfl:i=64:=ω;rw[show((64:Nat):Int)=64 from rfl];generalize hs8:gP.E0 (gP.sched (S.take 64) 48) st 64=s8 at CV;have Pc:gP.block st (S.take 64)=gP.plus st s8:=by rw[<-hs8];rfl
   have M1:=η Pc;have ll:Below w0.heap.size w0 wr:=(D2.o.trans (HB0.o.mono D2.o.size)).trans (hB.mono (by have:=D2.o.size;omega));have yT:=HS8.o.below hB Ia;have oX:gh<wr.heap.size:=by have:=hB.size;omega
   have M2:=η CV;have M3:=η yT;have M4:=η ll;clear hs8 Pc CV yT ll hB;go_wp2_with fail;obtain⟨wf,rfl⟩:∃wf:World,wf=wr:=⟨_,rfl⟩;have hP:(jS (gP.plus st s8)).length=8:=rfl;go_loopw [279] (λjv wr=>∃j:Nat,j<=8/\jv=.int .i64 j/\WS wr gh ((jS (gP.plus st s8)).take j++(jS st).drop j)/\VC wr g (jS s8)/\Below w0.heap.size w0 wr/\gh<wr.heap.size/\g≠gh) (λjv _=>8-(intOf jv).toNat);exact⟨0,by omega,rfl,M3.o,M2.o,M4.o,oX,by omega⟩;clear M2 M3 M4;obtain⟨j,hj,rfl,yT,CV,ll,Pa,apL⟩:=hrel;by_cases hj8:j<8
   ·have Ay:((jS (gP.plus st s8)).take j++(jS st).drop j).length=8:=by rw[ai,aJ,aD,hP,hhl];omega
    have y0:=yT.vc j (by rw[Ay];exact hj8);rw[gP.Vq _ _ _ (by rw[hP];exact hj8)]at y0;have y1:=CV j hj8;have z0:=yT.fz j;have p0:(j:Int)<8:=ω;have ak2:=yT.set j (by rw[Ay];exact hj8) (gP.nw (jS (gP.plus st s8)) j);rw[gP.Vp _ _ _ (by rw[hP];exact hj8) (by rw[hhl];exact hj8)]at ak2;have VM:=agj st s8 j hj8;have N1:=η ak2;have N2:=η VM;have N3:Hid (VC (wr.setCell ⟨gh,j,none⟩ (.int .i64 (V (gP.nw (jS (gP.plus st s8)) j)))) g (jS s8)):=η λk hk=>by rw[<-CV k hk];exact fb (w:=wr) (ft _ _ _ _ apL)
    have N4:=η (ll.setCell (p:=⟨gh,j,none⟩) hgh (.int .i64 (V (gP.nw (jS (gP.plus st s8)) j))));clear yT CV ll ak2 VM Ay;generalize gP.nw (jS st) j=ya at y0 N2;generalize gP.nw (jS s8) j=yb at y1 N2;generalize gP.nw (jS (gP.plus st s8)) j=yc at N1 N2 N3 N4;go_wp2_with fail;refine gI.tail 13 mixed ξ rfl ?_;simp only[aW,bH,bg,bB];repeat(go_big_quiet_step (fail))
    refine fe ?_;go_wp2_with fail;go_roundw
    ·exact⟨j+1,by omega,by go_num,by rw[N2.o];exact⟨N1.o.vc,N1.o.fz⟩,by rw[N2.o];exact N3.o,by rw[N2.o];exact N4.o.drew,by simpa[World.setCell]using Pa,apL⟩
    simp[intOf];omega
   obtain rfl:j=8:=by omega
   rw[show((8:Nat):Int)=8 from rfl];rw[bj (by rw[hhl];omega),aO,au (by rw[hP];omega),<-M1.o,<-E2.o]at yT;have N1:=η yT;have N4:=η ll;clear yT CV ll;go_wp2_with fail;go_roundw
   ·((repeat(apply Exists.intro));(refine And.intro ?_ rfl);exact⟨n+1,by omega,by rw[<-E1.o],N1.o,N4.o,Pa⟩)
   (show Kq (.string (str (List.drop 64 S)))<Kq (.string (str S));simp only[Kq,nf,aD];omega)
  obtain⟨m,rfl⟩:∃m,k=m+1:=⟨k-1,by omega⟩;rw[show((m+1:Nat):Int) - 1=(m:Int)by omega];have B1:=η hB;clear hB;have q1:(0:Int)<=8*(m:Int):=ω;have q2:8*(m:Int)<=56:=ω;have hx:=acg l.length m hm;have hcv:=adQ (P:=prog) wr 35 9 5 (shr N (8*m)).toUInt8 fq fu fp;have Ax:=aea N m ω;rw[<-HN.o]at hx;have Z9:=η Ax;have B2:=η (B1.o.alloc B1.o.size (.cells #[.int .u8 ((l.length:Int)*8/2^ (8*m) % 256)] 5));rw[<-hx]at hcv;clear hx Ax;generalize(shr N (8*m)).toUInt8=x at hcv Z9;have aB7:(P++List.take (8-(m+1)) (gP.Kc N)).length<=35184372088832+72:=by have h1:(List.take (8-(m+1)) (gP.Kc N)).length<=8:=aF1;rw[ai];omega
  go_wp2_with fail;go_roundw
  ·exact⟨m,by omega,by go_num,by rw[Z9.o],B2.o⟩
  simp[intOf]
 have he:(l.length+1+j) % 64≠56:=λh=>hjz (Zg.1 h);go_wp2_with fail;go_roundg (gk-1)
 exact⟨j+1,by omega,by omega,by rw[<-HSN.o];simp,rfl⟩;omega
end
def t00{p:Prop}(h:p:=by
 have Z1:=η hP;have Z2:=η a32;have Z3:=η nU;have Z4:=η Ts;have Z5:=η (B4.o.trans (Ts.mono Mt));have hwl:=Ts.size;clear hP a32 nU Ts;go_wp2_with fail;go_loopw [8,9] (λuv iv wr=>∃(p:Nat)(us:List (List UInt8)),2*p<=oG.length/\iv=.int .i64 ((2*p:Nat):Int)/\us.length=p/\p9 us/\wr.ownsRow wl.heap.size 9 1 uv p (wt us)/\Mk.up oG=us++Mk.up (oG.drop (2*p))/\Below wl.heap.size wl wr) (λ_ iv _=>oG.length-(intOf iv).toNat);exact⟨0,[],by omega,rfl,rfl,λ_ h=>by simp at h,fc _ _ _ _,rfl,Below.refl _ _⟩;obtain⟨p,us,hp,rfl,xR,Oy,iB,nU,Ep⟩:=hrel;have Y1:=η iB;have Y2:=η nU;have Y3:=η Oy;have Y4:=η Ep;have ID:=Ep.size;by_cases gV:2*p<oG.length
 ·have GB:2*p+1<oG.length:=by omega
  have q1:2*(p:Int)+1< (oG.length:Int):=ω;have q2:(0:Int)<=2*(p:Int):=ω;have q3:(0:Int)<=2*(p:Int)+1:=ω;have q4:2*(p:Int)< (oG.length:Int):=ω;have cA:=(Z1.o.below Ep kD) (2*p) gV;have cB:=(Z1.o.below Ep kD) (2*p+1) GB;have lA:=Z2.o.get (2*p) gV;have lB:=Z2.o.get (2*p+1) GB;have pZ:=Mk.Km oG (2*p) GB;clear iB nU Oy Ep;generalize oG.getD (2*p) []=A at cA lA pZ;generalize oG.getD (2*p+1) []=B at cB lB pZ;have Y5:=η pZ;clear pZ;go_wp2_with fail;refine gI.MK 1 12 mixed ξ rfl rfl θ ?_;simp only[aW,bH,bg,bB,List.foldl,gI.rQ];change wpQuiet _ _ _ _ _ (Act.put _ (some 53) u8);go_frame;repeat(go_big_quiet_step (fail))
  refine fe ?_;have X1:=Y1.o.drew;have X2:=Y4.o.drew;generalize wr.drew=wx at X1 X2|-;have hzx:=X2.size;have X3:=η (j6 t (A++B) wx (HT.o.below (Z5.o.trans (X2.mono (by have:=B4.o.size;omega)))) (by rw[ai];omega));have X4:=η X1;have X5:=η X2;clear X1 X2;go_wp2_with fail;refine X3.o.mono ?_;rintro e wy⟨rfl,rC⟩;have hzy:=rC.size;have W1:=(gM X4.o rC ν).alloc (.cells #[.string (str (Mk.gC (A++B)))] 9);have W2:=(X5.o.trans (rC.mono hzx)).alloc ω (.cells #[.string (str (Mk.gC (A++B)))] 9);have W3:=η W1;have W4:=η W2;clear W1 W2 rC;go_wp2_with (at_builtin;refine wpList_append_own _ rfl _ _ 28 rfl wl.heap.size 9 i0 (.string ByteArray.empty) 1 16 underlying28 HI.o mJ mC kS rfl ψ _ _ _ rfl W3.o ⟨wy.heap.size,0,none⟩ 1 1 [.string (str (Mk.gC (A++B)))] rfl rfl (cell_one_new _ _ _) (kh [Mk.gC (A++B)]) ι ω χ ?_;intro XO wv vN O6 _);have hbv:=W4.o.trans ((Below.refl wl.heap.size _).grown O6 χ (λk hk=>(W3.o.lt k hk).1));rw[kZ]at vN;have V1:=η vN;have V2:=η hbv;have V3:Hid (Mk.up oG=(us++[Mk.gC (A++B)])++Mk.up (oG.drop (2*(p+1)))):=η (by rw[Y2.o,Y5.o,aL];rfl);have V4:=η (uB Y3.o (Mk.mS (A++B)));clear vN O6 hbv W3 W4;go_roundw
  ·first|exact⟨p+1,us++[Mk.gC (A++B)],by omega,by go_num,by rw[ai,xR];rfl,V4.o,V1.o,V3.o,V2.o⟩|((repeat(apply Exists.intro));(first|refine And.intro ?_ rfl|refine And.intro ?_ ⟨rfl,rfl⟩);exact⟨p+1,us++[Mk.gC (A++B)],by omega,by go_num,by rw[ai,xR];rfl,V4.o,V1.o,V3.o,V2.o⟩)
  simp[intOf];omega
 have hpe:2*p=oG.length:=by omega
 have hdn:oG.drop (2*p)=[]:=bj ω;rw[hdn]at nU;have hus:us=Mk.up ls:=by rw[<-Z3.o,nU];simp[Mk.up]
 subst hus;have hlen:=Mk.oQ ls;obtain⟨g3,o3,c3,hv3,DO,hP3⟩:=(oV iB xR.symm).open ω;subst hv3;have OC:Mk.root ss false=Mk.root (Mk.up ls) m':=by rw[B3.o,Mk.KC ls m hl1,D0.o]
 have P1:=η hP3;have P2:=η OC;have P4:=η (Z5.o.trans (Ep.mono ω));have q4:¬(2*(p:Int)< (oG.length:Int)):=ω;clear iB nU Ep hdn hP3 OC Y1 Y2 Y4 Z1 Z2 Z3 Z4 Z5;go_wp2_with fail;go_roundw
 ·first|exact⟨g3,o3,c3,Mk.up ls,by omega,by omega,by simp[xR],rfl,DO,P1.o,Y3.o,P2.o,P4.o⟩|((repeat(apply Exists.intro));(first|refine And.intro ?_ rfl|refine And.intro ?_ ⟨rfl,rfl⟩);exact⟨g3,o3,c3,Mk.up ls,by omega,by omega,by simp[xR],rfl,DO,P1.o,Y3.o,P2.o,P4.o⟩)
 (simp only[zi];omega)):p:=h
section
open Go.RowKit iz
theorem Tbl.below{B t hb hc kb kc w w'}(h:Tbl w t hb hc kb kc)(hB:Below B w w')(h1:t<B)(h2:hb<B)(h3:kb<B):Tbl w' t hb hc kb kc:=⟨(hB.cell (p:=⟨t,0,none⟩) h1).trans h.h,(hB.cell (p:=⟨t,1,none⟩) h1).trans h.k,h.hl.below hB h2,h.kl.below hB h3⟩
structure TB(w:World)(t:Nat):Prop where
 ex:∃hb hc kb kc,Tbl w t hb hc kb kc/\hb<w.heap.size/\kb<w.heap.size
 lt:t<w.heap.size
def TB.below{t w w'}(h:TB w t)(hB:Below w.heap.size w w'):TB w' t:=by obtain⟨hb,hc,kb,kc,h1,h2,h3⟩:=h.ex;exact⟨⟨hb,hc,kb,kc,h1.below hB h.lt h2 h3,ay h2 hB.size,ay h3 hB.size⟩,ay h.lt hB.size⟩
theorem TB.sum{t w}(h:TB w t) l(hm:l.length<=35184372088832):Calls prog 125 #[.pointer (some ⟨t,0,none⟩),.string (str l)] w λe w'=>e=.returned (.string (str (gP.sum l)))/\Below w.heap.size w w':=by obtain⟨hb,hc,kb,kc,h1,h2,h3⟩:=h.ex;exact Q2 t hb hc kb kc l w h1 h2 h3 hm
def Si w:Calls prog 27 #[] w λe w'=>∃t,e=.returned (.pointer (some ⟨t,0,none⟩))/\TB w' t/\Below w.heap.size w w':=(DH w).mono λe w' ⟨t,hb,hc,kb,kc,he,hT,_,_,_,hB⟩=>⟨t,he,⟨⟨hb,hc,kb,kc,hT,hT.hl.lt ψ,hT.kl.lt ψ⟩,fP hT.h⟩,hB⟩
def j6 t l w(hT:TB w t)(hm:l.length<=35184372088832):Calls prog 101 #[.pointer (some ⟨t,0,none⟩),.string (str l)] w λe w'=>e=.returned (.string (str (Mk.gC l)))/\Below w.heap.size w w':=by
 have h1:=hT.sum l hm;have hl:=gP.kI l;have H1:=η h1;have H2:=η hT;clear h1 hT;go_enter func101,ntmps101;go_wp2_with fail;refine H1.o.mono ?_;rintro e w2⟨rfl,hB⟩;have h2:=(H2.o.below hB).sum (gP.sum l) ω
 have H3:=η h2;have H4:=η hB;clear h2 hB;go_wp2_with fail;refine H3.o.mono ?_;rintro e w3⟨rfl,Da⟩;have H5:=η (H4.o.trans (Da.mono H4.o.size));clear Da;go_wp2_with fail;go_ret;exact⟨rfl,H5.o⟩
def oV{w B n e v l}(h:w.ownsRow B e 1 v n (wt l))(hn:n=l.length):n6 w v l:=by by_cases h0:n=0;obtain⟨a,c,rfl⟩:=jB h;exact .inl ⟨a,c,by rw[h0],bF.1 ω⟩;obtain⟨g,cap,rfl,_,hg,hc,_⟩:=sX h ω;exact .inr ⟨g,0,cap,by rw[hn],hg,λj hj=>by rw[aC,hc j ω,u5 l j hj]⟩
def n6.open{w v ss}(h:n6 w v ss)(hn:0<ss.length):∃b o c,v=.slice (some ⟨b,o,none⟩) ss.length c/\b<w.heap.size/\uL w b o ss:=by rcases h with⟨_,_,_,rfl⟩|h;simp at hn;exact h
def Jf{w b o ss}(h:uL w b o ss):∀j u,(wt ss)[j]? =some u->w.cell? (Addr.add ⟨b,o,none⟩ j)=some u:=λj u hu=>by
 have hj:j<ss.length:=by have:=(aB.1 hu).1;rwa[nO]at this
 rw[fJ,h j hj,<-hu,u5 ss j hj]
def KA t v ss w(hT:TB w t)(hv:n6 w v ss)(IS:p9 ss)(hn:0<ss.length)(hm:ss.length<=1000):Calls prog 133 #[.pointer (some ⟨t,0,none⟩),v] w λe w'=>e=.returned (.tuple #[.string (str (Mk.root ss false).1),.bool (Mk.root ss false).2])/\Below w.heap.size w w':=by
 obtain⟨i0,kV,mJ,mC,kS⟩:=fy mZ;have HT:=η hT;have HV:=η hv;have H32:=η IS;have HI:=η kV;clear hT hv IS kV;go_enter func133,ntmps133;go_wp2_with fail;go_loopw [1,6] (λlv mv wr=>∃(gb go k:Nat)(ls:List (List UInt8)),0<ls.length/\ls.length<=ss.length/\lv=.slice (some ⟨gb,go,none⟩) ls.length k/\mv=.bool (bOf mv)/\gb<wr.heap.size/\uL wr gb go ls/\p9 ls/\Mk.root ss false=Mk.root ls (bOf mv)/\Below w.heap.size w wr) (λlv _ _=>zi lv)
 obtain⟨gb,go,k,JO,hv2,hv3⟩:=HV.o.open hn;exact⟨gb,go,k,ss,hn,ν,JO,rfl,hv2,hv3,H32.o,rfl,Below.refl _ _⟩;obtain⟨gb,go,k,ls,hls,hle,rfl,hmv,had,kC,alJ,JQ,hB⟩:=hrel;obtain⟨m,rfl⟩:∃m,u6=.bool m:=⟨_,hmv⟩;replace JQ:Mk.root ss false=Mk.root ls m:=JQ;clear hmv;have B1:=η kC;have B2:=η alJ;have B3:=η JQ;have B4:=η hB;have Mt:=hB.size;by_cases hl1:1<ls.length
 ·have p0:(1:Int)< (ls.length:Int):=by omega
  clear kC alJ JQ hB;go_wp2_with fail;obtain⟨wo,rfl⟩:∃wo:World,wo=wr:=⟨_,rfl⟩;go_loopw [6,7] (λmv iv wr=>∃(q:Nat),2*q<=ls.length+1/\iv=.int .i64 ((2*q:Nat):Int)/\mv=.bool (bOf mv)/\(m || Mk.Ik ls)=(bOf mv || Mk.Ik (ls.drop (2*q)))/\∃z,wr=wo.drewN z) (λ_ iv _=>ls.length+1-(intOf iv).toNat);exact⟨0,by omega,rfl,rfl,rfl,0,rfl⟩;obtain⟨q,hq,rfl,hmv,Zb,z,rfl⟩:=hrel;obtain⟨m',rfl⟩:∃m',u6=.bool m':=⟨_,hmv⟩;replace Zb:(m || Mk.Ik ls)=(m' || Mk.Ik (ls.drop (2*q))):=Zb;clear hmv;by_cases gV:2*q+1<ls.length
  ·have p1:2*(q:Int)+1< (ls.length:Int):=by omega
   have p2:(0:Int)<=2*(q:Int):=ω;have p3:(0:Int)<=2*(q:Int)+1:=ω;have p4:2*(q:Int)< (ls.length:Int):=ω;have cA:=B1.o (2*q) ω;have cB:=B1.o (2*q+1) gV;have ht2:=Mk.XR ls (2*q) gV;rw[ht2]at Zb;have C1:=η Zb;clear Zb ht2;generalize ls.getD (2*q) []=A at cA C1;generalize ls.getD (2*q+1) []=B at cB C1;cases m'
   ·go_wp2_with fail;go_quiet (fail)
    go_wp2_with fail;go_roundw
    ·exact⟨q+1,by omega,by go_num,rfl,by rw[C1.o];simp[bOf];rfl,_,rfl⟩
    simp[intOf];omega
   go_wp2_with fail;go_quiet (fail)
   go_wp2_with fail;go_roundw
   ·exact⟨q+1,by omega,by go_num,rfl,by rw[C1.o];simp[bOf],_,rfl⟩
   simp[intOf];omega
  have p1:¬(2*(q:Int)+1< (ls.length:Int)):=by omega
  rw[Mk.aaP ls (2*q) ω,Bool.or_false]at Zb;have D0:=η Zb;clear Zb;by_cases au5:ls.length % 2=1
  ·have p2:(ls.length:Int) % 2=1:=by omega
   have p5:(0:Int)<=(ls.length:Int) - 1:=ω;have p6:(ls.length:Int) - 1< (ls.length:Int):=ω;have p7:((ls.length:Int) - 1).toNat=ls.length-1:=ω;have cL:=B1.o (ls.length-1) ω;have pZ:=Mk.aaD ls au5;have lL:=B2.o.get (ls.length-1) ω;generalize ls.getD (ls.length-1) []=L at cL pZ lL;have D1:=η pZ;have D2:=η (uB B2.o lL);clear pZ;go_wp2_with fail;have cL0:(wo.drewN z).cell? ⟨gb,go+(ls.length-1),none⟩=some (.string (str L)):=cL;have cP0:uL (wo.drewN z) gb go ls:=B1.o;have alI:gb< (wo.drewN z).heap.size:=had;have Ms:Below wo.heap.size wo (wo.drewN z):=fE (Below.refl _ _) z;generalize wo.drewN z=wz at cL0 cP0 alI Ms|-;have hu:∀u:gI.Of (λu=>u.cell? ⟨gb,go+(ls.length-1),none⟩=some (.string (str L))),u.w.cell? ⟨gb,go+(ls.length-1),none⟩=some (.string (str L)):=λu=>u.h;haveI iZ:Nonempty (gI.Of (λu=>u.cell? ⟨gb,go+(ls.length-1),none⟩=some (.string (str L)))):=⟨⟨wz,cL0⟩⟩;refine gI.jl [0,2,3,4,5,6,7] 4 mixed κ rfl rfl θ ξ rfl (λu=>u.cell? ⟨gb,go+(ls.length-1),none⟩=some (.string (str L))) cL0 ?_;show wpQuiet _ _ _ _ [_,_,_,_,_,_,_] _;repeat(go_big_quiet_step (fail))
   refine fe ?_;have oN:=Ms.drew;have cP5:uL wz.drew gb go ls:=cP0;have cL5:wz.drew.cell? ⟨gb,go+(ls.length-1),none⟩=some (.string (str L)):=cL0;have adf:gb<wz.drew.heap.size:=alI;clear hu iZ cP0 cL0 alI Ms;generalize wz.drew=w5 at oN cP5 cL5 adf|-;have Az:∀w',Below w5.heap.size w5 w'->gI.cls (λu=>u.cell? ⟨gb,go+(ls.length-1),none⟩=some (.string (str L))) w':=λw' hw'=>gI.gF (by rw[<-cL5];exact fb (w:=w5) (hw'.block _ adf));refine gI.two 1 8 _ _ κ rfl rfl rfl rfl ?_ ?_
   ·(refine wpList_append_own _ rfl _ _ 28 rfl w5.heap.size 9 i0 (.string ByteArray.empty) 1 16 underlying28 HI.o mJ mC kS rfl ψ _ 0 [] rfl (fc _ _ _ _) ⟨gb,go,none⟩ ls.length k (wt ls) rfl (by rw[nO];omega) (Jf cP5) (kh _) ι ω ν ?_;intro v1 w6 lg rB _);have rE:Below w5.heap.size w5 w6:=(Below.refl _ _).grown rB ν aFP;rw[aX]at lg;refine⟨Az _ rE,?_⟩;refine gI.one 8 _ κ rfl rfl ?_;go_frame;go_wp2_with fail;have hs7:(w6.alloc (.cells #[.string (str L)] 9)).heap.size=w6.heap.size+1:=ζ;have uX:=rE.alloc rE.size (.cells #[.string (str L)] 9);refine⟨Az _ uX,?_⟩;refine gI.one 9 _ κ rfl rfl ?_;refine wpList_append_own _ rfl _ _ 28 rfl w5.heap.size 9 i0 (.string ByteArray.empty) 1 16 underlying28 HI.o mJ mC kS rfl ψ _ _ _ rfl (lg.alloc _) ⟨w6.heap.size,0,none⟩ 1 1 [.string (str L)] rfl rfl (cell_one_new _ _ _) (kh [L]) ι ω aI4 ?_;intro v2 w8 Gz ac1 _;have yU:=uX.trans ((Below.refl w5.heap.size _).grown ac1 aI4 (λk hk=>(lg.lt k hk).1));refine⟨Az _ yU,?_⟩;refine gI.one 10 _ κ rfl rfl ?_;go_frame;go_wp2_with fail;refine⟨Az _ yU,?_⟩;refine fg κ ?_ 0;rw[kZ]at Gz;obtain⟨b2,o2,c2,hv2,kD,hP⟩:=(oV Gz (by rw[ai];simp)).open ζ;subst hv2;have Ts:=oN.trans (yU.mono oN.size);have a32:=D2.o;have nU:=D1.o;have mm:(ls++[L]).length % 2=0:=by rw[ai];simp;omega
    have Eo:(ls++[L]).length<=ls.length+1:=ζ;have hl3:(ls++[L]).length+ls.length % 2≥ls.length:=aFJ;generalize ls++[L]=oG at hP a32 nU mm Eo hl3 kD|-;clear lg Gz rB ac1 rE uX yU Az cP5 cL5 adf oN D1 D2;obtain⟨wl,rfl⟩:∃wl:World,wl=w8:=⟨_,rfl⟩;exact t00
   go_wp2_with fail;have hs7:(w5.alloc (.cells #[.string (str L)] 9)).heap.size=w5.heap.size+1:=by simp
   have uX:=(Below.refl w5.heap.size w5).alloc ν (.cells #[.string (str L)] 9);have cP7:=cP5.below uX adf;have cL7:=(Row.new w5 [.string (str L)] 9).cell 0;refine⟨Az _ uX,?_⟩;refine gI.one 1 _ κ rfl rfl ?_;refine wpList_append_own _ rfl _ _ 28 rfl (w5.heap.size+1) 9 i0 (.string ByteArray.empty) 1 16 underlying28 HI.o mJ mC kS rfl ψ _ 0 [] rfl (fc _ _ _ _) ⟨gb,go,none⟩ ls.length k (wt ls) rfl (by rw[nO];omega) (Jf cP7) (kh _) ι ω ω ?_;intro v1 w6 lg rB _;have ahp:Below (w5.heap.size+1) (w5.alloc (.cells #[.string (str L)] 9)) w6:=(Below.refl _ _).grown rB ω aFP;have rE:=uX.trans (ahp.mono ω);rw[aX]at lg;refine⟨Az _ rE,?_⟩;refine gI.one 9 _ κ rfl rfl ?_;refine wpList_append_own _ rfl _ _ 28 rfl (w5.heap.size+1) 9 i0 (.string ByteArray.empty) 1 16 underlying28 HI.o mJ mC kS rfl ψ _ _ _ rfl lg ⟨w5.heap.size,0,none⟩ 1 1 [.string (str L)] rfl rfl (λj u hu=>by cases j with|zero=>simp at hu;rw[<-hu];exact(fb (w:=w5.alloc (.cells #[.string (str L)] 9)) (ahp.block _ (by show w5.heap.size<_;omega))).trans cL7|succ j=>simp at hu) (kh [L]) ι ω (by have:=ahp.size;omega) ?_;intro v2 w8 Gz ac1 _;have yU:=rE.trans ((Below.refl w5.heap.size _).grown ac1 aI4 (λk hk=>by have:=(lg.lt k hk).1;omega));refine⟨Az _ yU,?_⟩;refine gI.one 10 _ κ rfl rfl ?_;go_frame;go_wp2_with fail;refine⟨Az _ yU,?_⟩;refine fg κ ?_ 0;rw[kZ]at Gz;obtain⟨b2,o2,c2,hv2,kD,hP⟩:=(oV Gz (by rw[ai];simp)).open ζ;subst hv2;have Ts:=oN.trans (yU.mono oN.size);have a32:=D2.o;have nU:=D1.o;have mm:(ls++[L]).length % 2=0:=by rw[ai];simp;omega
   have Eo:(ls++[L]).length<=ls.length+1:=ζ;have hl3:(ls++[L]).length+ls.length % 2≥ls.length:=aFJ;generalize ls++[L]=oG at hP a32 nU mm Eo hl3 kD|-;clear lg Gz rB ac1 rE ahp cP7 cL7 uX yU Az cP5 cL5 adf oN D1 D2;obtain⟨wl,rfl⟩:∃wl:World,wl=w8:=⟨_,rfl⟩;exact t00
  have p2:(ls.length:Int) % 2=0:=by omega
  have hP:uL (wo.drewN z) gb go ls:=B1.o;have kD:gb< (wo.drewN z).heap.size:=had;have Ts:Below wo.heap.size wo (wo.drewN z):=fE (Below.refl _ _) z;have a32:=B2.o;have nU:Mk.up ls=Mk.up ls:=rfl;have mm:ls.length % 2=0:=by omega
  obtain⟨oG,Zi⟩:∃oG,oG=ls:=⟨_,rfl⟩;have Eo:oG.length<=ls.length+1:=by rw[Zi];omega
  have hl3:oG.length+ls.length % 2≥ls.length:=by rw[Zi];omega
  rw[<-Zi]at hP a32 mm;replace nU:Mk.up oG=Mk.up ls:=by rw[Zi]
  have ur:oG.length=ls.length:=by rw[Zi]
  rw[<-ur]at p2;rw[<-ur];clear Zi;generalize wo.drewN z=wl at hP kD Ts|-;exact t00
 have p0:¬((1:Int)< (ls.length:Int)):=by omega
 obtain⟨d,Tk⟩:=dF.1 (show ls.length=1 by omega);have c0:wr.cell? ⟨gb,go,none⟩=some (.string (str (ls.getD 0 []))):=kC 0 ω;subst Tk;have acL:Mk.root ss false=(d,m):=by rw[JQ,Mk.abh _ _ ζ];rfl
 have D1:=η acL;clear kC alJ JQ hB acL;go_wp2_with fail;refine bodyPost_ret (results_tmp2 rfl _ _ _) rfl ?_;exact⟨by rw[D1.o];rfl,B4.o⟩
end
