import Derived.Test.YtlpcjiollnnmgabGreatDoorM04
import Derived.Test.YtlpcjiollnnmgabGreatDoorM10
import Derived.Test.YtlpcjiollnnmgabGreatDoorM16
import Derived.Laws.AppendOwnNone
set_option maxRecDepth 100000
set_option maxHeartbeats 8000000
set_option linter.all false
namespace Go.Proofs.YtlpcjiollnnmgabGreatDoor
open Go.Proofs.Tryz
def t080{p:Prop}(h:p:=by rw[hs];go_wp2_with fail;go_ret;exact RS.mk E.o R4.o B4.o):p:=h
def t051{p:Prop}(h:p:=by have:=iE.um u;have h2:2^ (8*u.length)<=2^64:=bG ψ ω;omega):p:=h
def t049{p:Prop}(h:p:=by have p1:¬(uM.2:Int)=0:=ω;go_wp2_with fail;go_ret;exact RS.mk E.o R2.o B2.o):p:=h
def t017{p:Prop}(h:p:=by go_wp2_with fail;refine(kG b 2 uM w4 R4.o).mono ?_;rintro e w5⟨rfl,h5,h6⟩;go_wp2_with fail;go_ret;exact RS.mk E.o h5 (B4.o.trans (h6.mono B4.o.size))):p:=h
def t015{p:Prop}(h:p:=by go_enter gd,ntmps149;go_wp2_with fail;refine T1.o.mono ?_;rintro e w1⟨rfl,h1,h2⟩;have hc:=h1.cell 1;dsimp only at hc;go_wp2_with fail;go_ret;exact RS.mk EQ.o h1 h2):p:=h
section
open Go.RowKit iz
def Rd(w:World)(b:Nat)(st:Rf.St):Prop:=Row w b [.string (str st.1),.int .i64 (st.2:Int)]
def RS{α:Type}(p:α×Rf.St)(val:α->Value)(b:Nat)(w:World)(e:Ending)(w':World):Prop:=e=.returned (val p.1)/\Rd w' b p.2/\iL w.heap.size b w w'
def kG(b n:Nat) st w(hr:Rd w b st):Calls prog 128 #[.pointer (some ⟨b,0,none⟩),.int .i64 n] w (RS ((),Rf.ki n st) (λ_=>.tuple #[]) b w):=by
 obtain⟨l,e⟩:=st;have hc:=hr.cell 1;have hz:=hr.free 1;have HR:=η hr;unfold Rf.ki;dsimp only at hc|-;by_cases h:e=0
 ·subst h;rw[if_pos rfl];clear hr;go_enter func128,ntmps128;go_wp2_with fail;first|go_end0|refine bodyPost_ret (fN rfl _ _ _) rfl ?_
  exact⟨rfl,HR.o.set 1 _,(iL.refl _ _ _).jI _ _⟩
 rw[if_neg h];have p1:¬(e:Int)=0:=by omega
 clear hr;go_enter func128,ntmps128;go_wp2_with fail;first|go_end0|refine bodyPost_ret (fN rfl _ _ _) rfl ?_
 exact⟨rfl,HR.o,iL.refl _ _ _⟩
def js(b n:Nat) st w(hr:Rd w b st)(_:n<4611686018427387904):Calls prog 126 #[.pointer (some ⟨b,0,none⟩),.int .i64 n] w (RS (Rf.take n st) (λt=>.string (str t)) b w):=by
 obtain⟨l,e⟩:=st;have pV:=hr.cell 0;have qZ:=hr.cell 1;have hz:=hr.free 0;have HR:=η hr;unfold Rf.take;dsimp only at pV qZ|-;by_cases h:e=0
 ·subst h;rw[if_neg ζ];by_cases gV:l.length<n
  ·rw[if_pos gV];have p1:(n:Int)>(l.length:Int):=by omega
   clear hr;go_enter func126,ntmps126;go_wp2_with fail;refine(kG b 1 (l,0) w HR.o).mono ?_;rintro e w1⟨rfl,h1,h2⟩;go_wp2_with fail;go_ret;exact⟨rfl,h1,h2⟩
  rw[if_neg gV];have p1:¬(n:Int)>(l.length:Int):=by omega
  have p2:(n:Int)<=(l.length:Int):=ω;clear hr;go_enter func126,ntmps126;go_wp2_with fail;go_ret;exact⟨rfl,HR.o.set 0 _,(iL.refl _ _ _).jI _ _⟩
 rw[if_pos h];have p1:¬(e:Int)=0:=by omega
 clear hr;go_enter func126,ntmps126;go_wp2_with fail;go_ret;exact⟨rfl,HR.o,iL.refl _ _ _⟩
def og(n k:Nat) w(hn:n<18446744073709551616)(hk:k<=8):Calls prog 131 #[.int .u64 n,.int .i64 k] w λe w'=>e=.returned (.string (str (Wr.low n k)))/\Below w.heap.size w w':=by
 go_enter func131,ntmps131;go_wp2_with fail;go_loopw [0,1,5] (λnv iv sv wr=>∃(m i:Nat)(pre:List UInt8),m<18446744073709551616/\i<=k/\nv=.int .u64 m/\iv=.int .i64 i/\sv=.string (str pre)/\pre.length+i=k/\pre++Wr.low m i=Wr.low n k/\Below w.heap.size w wr) (λ_ iv _ _=>(intOf iv).toNat)
 exact⟨n,k,[],hn,ν,rfl,rfl,rfl,by simp,rfl,Below.refl _ _⟩;obtain⟨m,i,pre,hm,hi,rfl,rfl,rfl,hl,hE,hB⟩:=hrel;have HE:=η hE;have HB:=η hB;clear hE hB;by_cases gV:0<i
 ·have p1:(i:Int)>0:=by omega
  have e1:Wr.low m i=UInt8.ofNat (m % 256)::Wr.low (m/256) (i-1):=by obtain⟨j,rfl⟩:∃j,i=j+1:=⟨i-1,by omega⟩;rfl
  have HE2:=η (show(pre++[UInt8.ofNat (m % 256)])++Wr.low (m/256) (i-1)=Wr.low n k by rw[<-HE.o,e1];simp);have e2:((m:Int) % 256)=Y (UInt8.ofNat (m % 256)):=by unfold Y;rw[cK];omega
  have e2':((m:Int).tmod 256)=Y (UInt8.ofNat (m % 256)):=by rw[df ω];exact e2
  have e3:U (lO ((m:Int) / 256))=((m/256:Nat):Int):=by rw[rk];omega
  have e4:IntKind.u8.wrap (Y (UInt8.ofNat (m % 256)))=Y (UInt8.ofNat (m % 256)):=by have:=Mf (UInt8.ofNat (m % 256));simp[IntKind.wrap,IntKind.bits,IntKind.signed];omega
  clear e1 HE;go_wp2_with fail;go_roundw
  ·exact⟨m/256,i-1,pre++[UInt8.ofNat (m % 256)],by omega,by omega,by first|rfl|rw[e3],by go_num,rfl,by simp;omega,HE2.o,HB.o.alloc HB.o.size _⟩
  simp[intOf];omega
 obtain rfl:i=0:=by omega
 go_wp2_with fail;go_ret;have:=HE.o;rw[Wr.low,aO]at this;exact⟨by rw[this];rfl,HB.o⟩
def nS(n:Nat) w(hn:n<18446744073709551616):Calls prog 105 #[.int .u64 n] w λe w'=>e=.returned (.string (str (Wr.jT n)))/\Below w.heap.size w w':=by
 unfold Wr.jT;by_cases h1:n<253
 ·rw[if_pos h1];have p1:(n:Int)<253:=by omega
  go_enter func105,ntmps105;go_wp2_with fail;refine(og n 1 w hn ω).mono ?_
  rintro e w1⟨rfl,hb⟩;have e1:Wr.low n 1=[UInt8.ofNat n]:=by simp only[Wr.low,bp (show n<256 by omega)]
  rw[e1];exact t026
 rw[if_neg h1];have p1:¬(n:Int)<253:=by omega
 by_cases h2:n<65536
 ·rw[if_pos h2];have p2:(n:Int)<65536:=by omega
  go_enter func105,ntmps105;go_wp2_with fail;refine(og n 2 w hn ω).mono ?_
  rintro e w1⟨rfl,hb⟩;have hl:=Wr.jx n 2;exact t026
 rw[if_neg h2];have p2:¬(n:Int)<65536:=by omega
 by_cases h3:n<4294967296
 ·rw[if_pos h3];have p3:(n:Int)<4294967296:=by omega
  go_enter func105,ntmps105;go_wp2_with fail;refine(og n 4 w hn ω).mono ?_
  rintro e w1⟨rfl,hb⟩;have hl:=Wr.jx n 4;exact t026
 rw[if_neg h3];have p3:¬(n:Int)<4294967296:=by omega
 go_enter func105,ntmps105;go_wp2_with fail;refine(og n 8 w hn ω).mono ?_
 rintro e w1⟨rfl,hb⟩;have hl:=Wr.jx n 8;exact t026
def RS.mk{α}{p:α×Rf.St}{val b w w' a st}(hp:p=(a,st))(h1:Rd w' b st)(h2:iL w.heap.size b w w'):RS p val b w (.returned (val a)) w':=by subst hp;exact⟨rfl,h1,h2⟩
def Jj x r:Rf.take 1 (x::r,0)=([x],(r,0)):=by simp[Rf.take]
def AX n st:(Rf.take n st).1.length<=n:=by unfold Rf.take;split;simp;split;simp;simp;omega
def Cr b st w(hr:Rd w b st):Calls prog 149 #[.pointer (some ⟨b,0,none⟩)] w (RS (Rf.size st) (λn=>.int .u64 (n:Int)) b w):=by
 have T1:=η (js b 1 st w hr ω);have hb:=hr.lt;clear hr;obtain⟨l,e⟩:=st;by_cases he:e=0
 ·subst he;cases l with
  |nil=>have e0:Rf.take 1 ([],0)=([],([],1)):=rfl;have e1:Rf.size ([],0)=(0,([],1)):=rfl;have EQ:=η e1;rw[e0]at T1;clear e0 e1;exact t015|cons x r=>
  have e1:Rf.size (x::r,0)=if x<253 then(x.toNat,(r,0))else Rf.sH x (r,0):=by unfold Rf.size;rw[Jj];rfl
  rw[Jj]at T1;have EQ:=η e1;clear e1;have hY:Y x=(x.toNat:Int):=rfl;have hx:=x.toNat_lt;by_cases gV:x<253;have h':=cZ.1 gV;have h3:x.toNat<253:=h';rw[if_pos gV]at EQ;have n1:¬Y (nth [x] 0)=253:=by show¬Y x=253;omega
  have n2:¬Y (nth [x] 0)=254:=by show¬Y x=254;omega
  have n3:¬Y (nth [x] 0)=255:=by show¬Y x=255;omega
  clear gV h' hY hx;exact t015;have h':¬x.toNat<253:=λh=>gV (cZ.2 h);rw[if_neg gV]at EQ;have hc:x=253∨x=254∨x=255:=by have h3:x.toNat=253∨x.toNat=254∨x.toNat=255:=ω;exact t036
  clear gV h' hY hx;rcases hc with rfl|rfl|rfl
  ·have nE:=η (show Rf.size (253::r,0)=(iE.lu (Rf.take 2 (r,0)).1,if(Rf.take 2 (r,0)).2.2=0/\Wr.jT (iE.lu (Rf.take 2 (r,0)).1)≠253::(Rf.take 2 (r,0)).1 then Rf.ki 2 (Rf.take 2 (r,0)).2 else(Rf.take 2 (r,0)).2)from EQ.o);clear EQ;go_enter gd,ntmps149;go_wp2_with fail;refine T1.o.mono ?_;rintro e w1⟨rfl,h1,h2⟩;have hc:=h1.cell 1;have T2:=η (js b 2 (r,0) w1 h1 ω)
   have B1:=η h2;have hl:=AX 2 (r,0);dsimp only at hc T2;clear h1 h2 T1;generalize Rf.take 2 (r,0)=p at T2 hl nE;obtain⟨u,uM⟩:=p;dsimp only at hl nE;go_wp2_with fail;refine T2.o.mono ?_;clear T2 hc;rintro e w2⟨rfl,h3,h4⟩;dsimp only at h3;have B2:=η (B1.o.trans (h4.mono B1.o.size));have R2:=η h3;have hc:=h3.cell 1;have kD:=h3.lt;have gV:iE.lu u<18446744073709551616:=by exact t051
   clear h3 h4 B1;go_wp2_with fail;refine(lZ u ω w2).mono ?_;rintro e w3⟨rfl,rfl⟩;rw[ZX u ω];by_cases hz:uM.2=0
   ·rw[hz]at hc;go_wp2_with fail;refine(nS (iE.lu u) w2 gV).mono ?_;rintro e w4⟨rfl,tA⟩;have B4:=η (B2.o.trans ((iL.gL tA).mono B2.o.size));have R4:=η (R2.o.below tA kD);clear tA hc;by_cases hs:Wr.jT (iE.lu u)=253::u;have E:=η (show Rf.size (253::r,0)=(iE.lu u,uM)by rw[nE.o,if_neg (λh=>h.2 hs)]);exact t080;have E:=η (show Rf.size (253::r,0)=(iE.lu u,Rf.ki 2 uM)by rw[nE.o,if_pos ⟨hz,hs⟩]);have hs':(Wr.jT (iE.lu u)==253::u)=false:=aHf;exact t017
   have E:=η (show Rf.size (253::r,0)=(iE.lu u,uM)by rw[nE.o,if_neg (λh=>hz h.1)]);exact t049
  ·have nE:=η (show Rf.size (254::r,0)=(iE.lu (Rf.take 4 (r,0)).1,if(Rf.take 4 (r,0)).2.2=0/\Wr.jT (iE.lu (Rf.take 4 (r,0)).1)≠254::(Rf.take 4 (r,0)).1 then Rf.ki 2 (Rf.take 4 (r,0)).2 else(Rf.take 4 (r,0)).2)from EQ.o);clear EQ;go_enter gd,ntmps149;go_wp2_with fail;refine T1.o.mono ?_;rintro e w1⟨rfl,h1,h2⟩;have hc:=h1.cell 1;have T2:=η (js b 4 (r,0) w1 h1 ω)
   have B1:=η h2;have hl:=AX 4 (r,0);dsimp only at hc T2;clear h1 h2 T1;generalize Rf.take 4 (r,0)=p at T2 hl nE;obtain⟨u,uM⟩:=p;dsimp only at hl nE;go_wp2_with fail;refine T2.o.mono ?_;clear T2 hc;rintro e w2⟨rfl,h3,h4⟩;dsimp only at h3;have B2:=η (B1.o.trans (h4.mono B1.o.size));have R2:=η h3;have hc:=h3.cell 1;have kD:=h3.lt;have gV:iE.lu u<18446744073709551616:=by exact t051
   clear h3 h4 B1;go_wp2_with fail;refine(lZ u ω w2).mono ?_;rintro e w3⟨rfl,rfl⟩;rw[ZX u ω];by_cases hz:uM.2=0
   ·rw[hz]at hc;go_wp2_with fail;refine(nS (iE.lu u) w2 gV).mono ?_;rintro e w4⟨rfl,tA⟩;have B4:=η (B2.o.trans ((iL.gL tA).mono B2.o.size));have R4:=η (R2.o.below tA kD);clear tA hc;by_cases hs:Wr.jT (iE.lu u)=254::u;have E:=η (show Rf.size (254::r,0)=(iE.lu u,uM)by rw[nE.o,if_neg (λh=>h.2 hs)]);exact t080;have E:=η (show Rf.size (254::r,0)=(iE.lu u,Rf.ki 2 uM)by rw[nE.o,if_pos ⟨hz,hs⟩]);have hs':(Wr.jT (iE.lu u)==254::u)=false:=aHf;exact t017
   have E:=η (show Rf.size (254::r,0)=(iE.lu u,uM)by rw[nE.o,if_neg (λh=>hz h.1)]);exact t049
  have nE:=η (show Rf.size (255::r,0)=(iE.lu (Rf.take 8 (r,0)).1,if(Rf.take 8 (r,0)).2.2=0/\Wr.jT (iE.lu (Rf.take 8 (r,0)).1)≠255::(Rf.take 8 (r,0)).1 then Rf.ki 2 (Rf.take 8 (r,0)).2 else(Rf.take 8 (r,0)).2)from EQ.o);clear EQ;go_enter gd,ntmps149;go_wp2_with fail;refine T1.o.mono ?_;rintro e w1⟨rfl,h1,h2⟩;have hc:=h1.cell 1;have T2:=η (js b 8 (r,0) w1 h1 ω)
  have B1:=η h2;have hl:=AX 8 (r,0);dsimp only at hc T2;clear h1 h2 T1;generalize Rf.take 8 (r,0)=p at T2 hl nE;obtain⟨u,uM⟩:=p;dsimp only at hl nE;go_wp2_with fail;refine T2.o.mono ?_;clear T2 hc;rintro e w2⟨rfl,h3,h4⟩;dsimp only at h3;have B2:=η (B1.o.trans (h4.mono B1.o.size));have R2:=η h3;have hc:=h3.cell 1;have kD:=h3.lt;have gV:iE.lu u<18446744073709551616:=by exact t051
  clear h3 h4 B1;go_wp2_with fail;refine(lZ u ω w2).mono ?_;rintro e w3⟨rfl,rfl⟩;rw[ZX u ω];by_cases hz:uM.2=0
  ·rw[hz]at hc;go_wp2_with fail;refine(nS (iE.lu u) w2 gV).mono ?_;rintro e w4⟨rfl,tA⟩;have B4:=η (B2.o.trans ((iL.gL tA).mono B2.o.size));have R4:=η (R2.o.below tA kD);clear tA hc;by_cases hs:Wr.jT (iE.lu u)=255::u;have E:=η (show Rf.size (255::r,0)=(iE.lu u,uM)by rw[nE.o,if_neg (λh=>h.2 hs)]);exact t080;have E:=η (show Rf.size (255::r,0)=(iE.lu u,Rf.ki 2 uM)by rw[nE.o,if_pos ⟨hz,hs⟩]);have hs':(Wr.jT (iE.lu u)==255::u)=false:=aHf;exact t017
  have E:=η (show Rf.size (255::r,0)=(iE.lu u,uM)by rw[nE.o,if_neg (λh=>hz h.1)]);exact t049
 have e0:Rf.take 1 (l,e)=([],(l,e)):=Rf.kO 1 (l,e) he;have EQ:=η (Rf.MS (l,e) he);rw[e0]at T1;have p1:¬(e:Int)=0:=by omega
 clear e0;exact t015
end
def t0109{p:Prop}(h:p:=by go_enter func124,ntmps124;go_wp2_with fail;go_ret;exact⟨rfl,iL.refl _ _ _⟩):p:=h
def t055{p:Prop}(h:p:=by go_wp2_with fail;go_ret;exact RS.mk E.o R1.o B1.o):p:=h
def t011{p:Prop}(h:p:=by rintro e w2⟨rfl,h5,h6⟩;have hc:=h5.cell 1;dsimp only[Rf.ki]at hc;go_wp2_with fail;go_ret;exact RS.mk E.o h5 (B1.o.trans (h6.mono B1.o.size))):p:=h
section
open Go.RowKit iz
namespace Rf
def kE n st:(take n st).2.1.length<=st.1.length:=by unfold take;split;exact ν;split;exact ν;simp
def yX n st:(ki n st).1=st.1:=by unfold ki;split<;>rfl
def MT b st:(sH b st).2.1.length<=st.1.length:=by have h:=kE (Wr.more b) st;unfold sH;dsimp only;split;rw[yX];exact h;exact h
def size_le st:(size st).2.1.length<=st.1.length:=by have h:=kE 1 st;unfold size;dsimp only;split;exact h;split;exact h;exact ak (MT _ _) h
def ad5 lo hi p:(bound lo hi p).1=p.2.1:=by unfold bound;split;exact yX _ _;rfl
def mo lo hi st:(within lo hi st).2.1.length<=st.1.length:=by have h:=size_le st;unfold within;dsimp only;split<;>(dsimp only;rw[ad5];exact h)
def oP lo hi st:(within lo hi st).1<=hi:=by unfold within;dsimp only;split;exact cI _;rename_i h;dsimp only;unfold bound at h;split at h;rename_i h2;exact absurd (show(ki 3 (size st).2).2≠0 by unfold ki;rw[if_pos h2.1];exact(by decide:(3:Nat)≠0)) h;rename_i h2;by_cases hh:hi< (size st).1;exact absurd ⟨by omega,.inr hh⟩ h2;omega
end Rf
def lh(b lo hi:Nat) st w(hr:Rd w b st)(h1:lo<4611686018427387904)(h2:hi<4611686018427387904):Calls prog 127 #[.pointer (some ⟨b,0,none⟩),.int .i64 lo,.int .i64 hi] w (RS (Rf.within lo hi st) (λn=>.int .i64 (n:Int)) b w):=by
 have T1:=η (Cr b st w hr);have e1:IntKind.u64.wrap (lo:Int)=lo:=by rw[k6,oO];omega
 have e2:IntKind.u64.wrap (hi:Int)=hi:=by rw[k6,oO];omega
 have EQ:=η (show Rf.within lo hi st=if(Rf.bound lo hi (Rf.size st)).2≠0 then(0,Rf.bound lo hi (Rf.size st))else((Rf.size st).1,Rf.bound lo hi (Rf.size st))from rfl);clear hr;go_enter func127,ntmps127;go_wp2_with fail;refine T1.o.mono ?_;clear T1;generalize Rf.size st=p at EQ|-;obtain⟨x,l,e⟩:=p;rintro e w1⟨rfl,h3,h4⟩;have hc:=h3.cell 1;have R1:=η h3;have B1:=η h4;dsimp only at hc;clear h3 h4;by_cases he:e=0
 ·subst he;by_cases c1:x<lo
  ·have p1:(x:Int)< (lo:Int):=by omega
   have EB:Rf.bound lo hi (x,l,0)=(l,3):=by unfold Rf.bound;rw[if_pos ⟨rfl,.inl c1⟩];rfl
   have E:=η (show Rf.within lo hi st=(0,(l,3))by rw[EQ.o,EB];rfl);clear EB;go_wp2_with fail;refine(kG b 3 (l,0) w1 R1.o).mono ?_;exact t011
  have p1:¬(x:Int)< (lo:Int):=by omega
  by_cases c2:hi<x
  ·have p2:(x:Int)>(hi:Int):=by omega
   have EB:Rf.bound lo hi (x,l,0)=(l,3):=by unfold Rf.bound;rw[if_pos ⟨rfl,.inr c2⟩];rfl
   have E:=η (show Rf.within lo hi st=(0,(l,3))by rw[EQ.o,EB];rfl);clear EB;go_wp2_with fail;refine(kG b 3 (l,0) w1 R1.o).mono ?_;exact t011
  have p2:¬(x:Int)>(hi:Int):=by omega
  have EB:Rf.bound lo hi (x,l,0)=(l,0):=by unfold Rf.bound;rw[if_neg (by rintro⟨_,h|h⟩<;>omega)]
  have E:=η (show Rf.within lo hi st=(x,(l,0))by rw[EQ.o,EB];rfl);have e3:IntKind.i64.wrap (x:Int)=x:=fF _ ω;clear EB;exact t055
 have p1:¬(e:Int)=0:=by omega
 have EB:Rf.bound lo hi (x,l,e)=(l,e):=by unfold Rf.bound;rw[if_neg (λh=>he h.1)]
 have E:=η (show Rf.within lo hi st=(0,(l,e))by rw[EQ.o,EB,if_pos he]);clear EB;exact t055
def vp b st w(hr:Rd w b st):Calls prog 124 #[.pointer (some ⟨b,0,none⟩)] w λe w'=>e=.returned (.int .i64 (Rf.done st:Int))/\iL w.heap.size b w w':=by
 obtain⟨l,e⟩:=st;have pV:=hr.cell 0;have qZ:=hr.cell 1;have R1:=η hr;dsimp only at pV qZ;clear hr;by_cases he:e=0
 ·subst he;by_cases hl:l=[];subst hl;rw[show Rf.done ([],0)=0 from rfl];exact t0109;have iZ:l.isEmpty=false:=by cases l with
   |nil=>exact absurd rfl hl
   |cons=>rfl
  rw[show Rf.done (l,0)=5 from if_pos ⟨rfl,hl⟩];go_enter func124,ntmps124;go_wp2_with fail;refine(kG b 5 (l,0) w R1.o).mono ?_;rintro e w2⟨rfl,h5,h6⟩;have hc:=h5.cell 1;dsimp only[Rf.ki]at hc;clear pV qZ;go_wp2_with fail;go_ret;exact⟨rfl,h6⟩
 have p1:¬(e:Int)=0:=by omega
 rw[show Rf.done (l,e)=e from if_neg (λh=>he h.1)];exact t0109
namespace Rf
def scr(st:St):List UInt8×St:=take (within 0 40 st).1 (within 0 40 st).2
end Rf
structure RtI(w:World)(b:Nat)(n:Nat)(st:Rf.St)(wk:World):Prop where
 cur:Rd wk b st
 but:iL w.heap.size b w wk
 le:st.1.length<=n
def RtI.step{w b n st st' wk u9}(h:RtI w b n st wk)(h1:Rd u9 b st')(h2:iL wk.heap.size b wk u9)(hl:st'.1.length<=st.1.length):RtI w b n st' u9:=⟨h1,h.but.trans (h2.mono h.but.size),ak hl h.le⟩
def AW b st w(hr:Rd w b st)(hl:st.1.length<=9223372036854775807):Calls prog 123 #[.pointer (some ⟨b,0,none⟩)] w (RS (Rf.tx st) (λt=>.string (str t)) b w):=by
 have hc:=hr.cell 0;have J:=η (show RtI w b st.1.length st w from⟨hr,iL.refl _ _ _,ν⟩);have T1:=η (js b 4 st w hr ω);have l1:=Rf.kE 4 st;have EQ:=η (show Rf.body st=(Rf.take 4 (Rf.outs (Rf.ins (Rf.take 4 st).2))).2 from rfl);clear hr;go_enter func123,ntmps123;go_wp2_with fail;refine T1.o.mono ?_;clear T1 hc;generalize Rf.take 4 st=p at EQ l1|-;obtain⟨t1,QQ⟩:=p;rintro e w1⟨rfl,h3,h4⟩;dsimp only at h3 l1 EQ;have J1:=η (J.o.step h3 h4 l1);have T2:=η (lh b 1 4 QQ w1 h3 ω ω)
 have l2:=Rf.mo 1 4 QQ;have hn:=Rf.oP 1 4 QQ;have nE:=η (show Rf.body st=(Rf.take 4 (Rf.outs (Rf.rep Rf.sk (Rf.within 1 4 QQ).1 (Rf.within 1 4 QQ).2))).2 from EQ.o);clear h3 h4 J EQ l1;go_wp2_with fail;refine T2.o.mono ?_;clear T2;generalize Rf.within 1 4 QQ=p at nE l2 hn|-;obtain⟨n,uM⟩:=p;rintro e w2⟨rfl,h3,h4⟩;dsimp only at h3 l2 hn nE;have J2:=η (J1.o.step h3 h4 l2);clear h3 h4 J1 l2;go_wp2_with fail;go_loopw [4] (λiv wr=>∃(i:Nat)(j5:Rf.St),i<=n/\iv=.int .i64 i/\RtI w b st.1.length j5 wr/\Rf.rep Rf.sk i j5=Rf.rep Rf.sk n uM) (λiv _=>(intOf iv).toNat);exact⟨n,uM,ν,rfl,J2.o,rfl⟩;obtain⟨i,j5,hi,rfl,hI,hE⟩:=hrel;by_cases gV:0<i
 ·have p1:(i:Int)>0:=by omega
  have E1:=η (show Rf.rep Rf.sk (i-1) ((Rf.take 4 (Rf.scr (Rf.take 36 j5).2).2).2)=Rf.rep Rf.sk n uM by rw[<-hE];obtain⟨j,rfl⟩:∃j,i=j+1:=⟨i-1,by omega⟩;rfl);have T1:=η (js b 36 j5 wr hI.cur ω);have l1:=Rf.kE 36 j5;have K1:=η hI;clear hI hE;go_wp2_with fail;refine T1.o.mono ?_;clear T1;generalize Rf.take 36 j5=p at E1 l1|-;obtain⟨t1,Mj⟩:=p;rintro e w3⟨rfl,h3,h4⟩;dsimp only at h3 l1 E1;have K2:=η (K1.o.step h3 h4 l1);have T2:=η (lh b 0 40 Mj w3 h3 ω ω);have l2:=Rf.mo 0 40 Mj;have hk:=Rf.oP 0 40 Mj;have E2:=η (show Rf.rep Rf.sk (i-1) ((Rf.take 4 (Rf.take (Rf.within 0 40 Mj).1 (Rf.within 0 40 Mj).2).2).2)=Rf.rep Rf.sk n uM from E1.o);clear h3 h4 K1 E1 l1;go_wp2_with fail;refine T2.o.mono ?_;clear T2;generalize Rf.within 0 40 Mj=p at E2 l2 hk|-;obtain⟨k,Hy⟩:=p;rintro e w4⟨rfl,h3,h4⟩;dsimp only at h3 l2 hk E2;have K3:=η (K2.o.step h3 h4 l2);have T3:=η (js b k Hy w4 h3 ω);have l3:=Rf.kE k Hy;clear h3 h4 K2 l2;go_wp2_with fail;refine T3.o.mono ?_;clear T3;generalize Rf.take k Hy=p at E2 l3|-;obtain⟨t2,UJ⟩:=p;rintro e w5⟨rfl,h3,h4⟩;dsimp only at h3 l3 E2;have K4:=η (K3.o.step h3 h4 l3);have T4:=η (js b 4 UJ w5 h3 ω);have l4:=Rf.kE 4 UJ;clear h3 h4 K3 l3;go_wp2_with fail;refine T4.o.mono ?_;clear T4;generalize Rf.take 4 UJ=p at E2 l4|-;obtain⟨t3,st6⟩:=p;rintro e w6⟨rfl,h3,h4⟩;dsimp only at h3 l4 E2;have K5:=η (K4.o.step h3 h4 l4);clear h3 h4 K4 l4;go_wp2_with fail;go_roundw
  ·exact⟨i-1,st6,by omega,by go_num,K5.o,E2.o⟩
  simp[intOf];omega
 obtain rfl:i=0:=by omega
 have Um:=η (show Rf.body st=(Rf.take 4 (Rf.rep Rf.lR (Rf.within 1 4 j5).1 (Rf.within 1 4 j5).2)).2 by rw[nE.o,<-hE];rfl);have J3:=η hI;have T3:=η (lh b 1 4 j5 wr hI.cur ω ω);have l3:=Rf.mo 1 4 j5;have hm:=Rf.oP 1 4 j5;clear hI hE nE J2 hn hi;go_wp2_with fail;refine T3.o.mono ?_;clear T3;generalize Rf.within 1 4 j5=p at Um l3 hm|-;obtain⟨m,st7⟩:=p;rintro e w7⟨rfl,h3,h4⟩;dsimp only at h3 l3 hm Um;have J4:=η (J3.o.step h3 h4 l3);clear h3 h4 J3 l3;go_wp2_with fail;go_loopw [5] (λiv wr=>∃(j:Nat)(stj:Rf.St),j<=m/\iv=.int .i64 j/\RtI w b st.1.length stj wr/\Rf.rep Rf.lR j stj=Rf.rep Rf.lR m st7) (λiv _=>(intOf iv).toNat);exact⟨m,st7,ν,rfl,J4.o,rfl⟩;obtain⟨j,stj,hj,rfl,hI,hE⟩:=hrel;by_cases gV:0<j
 ·have p1:(j:Int)>0:=by omega
  have E1:=η (show Rf.rep Rf.lR (j-1) ((Rf.scr (Rf.take 8 stj).2).2)=Rf.rep Rf.lR m st7 by rw[<-hE];obtain⟨j',rfl⟩:∃j',j=j'+1:=⟨j-1,by omega⟩;rfl);have T1:=η (js b 8 stj wr hI.cur ω);have l1:=Rf.kE 8 stj;have K1:=η hI;clear hI hE;go_wp2_with fail;refine T1.o.mono ?_;clear T1;generalize Rf.take 8 stj=p at E1 l1|-;obtain⟨t1,Mj⟩:=p;rintro e w3⟨rfl,h3,h4⟩;dsimp only at h3 l1 E1;have K2:=η (K1.o.step h3 h4 l1);have T2:=η (lh b 0 40 Mj w3 h3 ω ω);have l2:=Rf.mo 0 40 Mj;have hk:=Rf.oP 0 40 Mj;have E2:=η (show Rf.rep Rf.lR (j-1) ((Rf.take (Rf.within 0 40 Mj).1 (Rf.within 0 40 Mj).2).2)=Rf.rep Rf.lR m st7 from E1.o);clear h3 h4 K1 E1 l1;go_wp2_with fail;refine T2.o.mono ?_;clear T2;generalize Rf.within 0 40 Mj=p at E2 l2 hk|-;obtain⟨k,Hy⟩:=p;rintro e w4⟨rfl,h3,h4⟩;dsimp only at h3 l2 hk E2;have K3:=η (K2.o.step h3 h4 l2);have T3:=η (js b k Hy w4 h3 ω);have l3:=Rf.kE k Hy;clear h3 h4 K2 l2;go_wp2_with fail;refine T3.o.mono ?_;clear T3;generalize Rf.take k Hy=p at E2 l3|-;obtain⟨t2,UJ⟩:=p;rintro e w5⟨rfl,h3,h4⟩;dsimp only at h3 l3 E2;have K4:=η (K3.o.step h3 h4 l3);clear h3 h4 K3 l3;go_wp2_with fail;go_roundw
  ·exact⟨j-1,UJ,by omega,by go_num,K4.o,E2.o⟩
  simp[intOf];omega
 obtain rfl:j=0:=by omega
 have EQ5:=η (show Rf.body st=(Rf.take 4 stj).2 by rw[Um.o,<-hE];rfl);have J5:=η hI;have T5:=η (js b 4 stj wr hI.cur ω);have l5:=Rf.kE 4 stj;clear hI hE Um J4 hm hj;go_wp2_with fail;refine T5.o.mono ?_;clear T5;generalize Rf.take 4 stj=p at EQ5 l5|-;obtain⟨t9,st9⟩:=p;rintro e w9⟨rfl,h3,h4⟩;dsimp only at h3 l5 EQ5;have J6:=η (J5.o.step h3 h4 l5);have hc:=h3.cell 0;try dsimp only at hc
 have hle:=J6.o.le;clear h3 h4 J5 l5;have q1:wrap64 ((st.1.length:Int) -(st9.1.length:Int))=(st.1.length:Int) -(st9.1.length:Int):=by unfold wrap64;omega
 have q2:(0:Int)<=(st.1.length:Int) -(st9.1.length:Int):=ω;have q3:((st.1.length:Int) -(st9.1.length:Int)).toNat=st.1.length-st9.1.length:=ω;go_wp2_with fail;go_ret;exact RS.mk (by unfold Rf.tx;rw[EQ5.o]) J6.o.cur J6.o.but
def Nq l w(hl:l.length<=9223372036854775807):Calls prog 99 #[.string (str l)] w λe w'=>e=.returned (.int .i64 (Rf.done (Rf.tx (l,0)).2:Int))/\Below w.heap.size w w':=by
 obtain⟨p,hp⟩:∃p,Rf.tx (l,0)=p:=⟨_,rfl⟩;rw[hp];have hR:Rd (w.alloc (.cells #[.string (str l),.int .i64 0] 187)) w.heap.size (l,0):=Row.new w [.string (str l),.int .i64 0] 187;have hB:Below w.heap.size w (w.alloc (.cells #[.string (str l),.int .i64 0] 187)):=(Below.refl _ _).alloc ν _;go_enter func99,ntmps99;go_wp2_with fail;generalize w.alloc _=w1 at hR hB|-;have B1:=η hB;have T1:=η (AW w.heap.size (l,0) w1 hR hl);rw[hp]at T1;clear hR hB hp;refine T1.o.mono ?_;clear T1;rintro e w2⟨rfl,h3,h4⟩;have B2:=η (B1.o.trans ⟨h4.os,h4.tape,h4.output,h4.size,λk hk=>h4.block k (by have:=B1.o.size;omega) ω⟩)
 have T2:=η (vp w.heap.size p.2 w2 h3);clear h3 h4 B1;go_wp2_with fail;refine T2.o.mono ?_;rintro e w3⟨rfl,h4⟩;go_wp2_with fail;go_ret;exact⟨rfl,B2.o.trans ⟨h4.os,h4.tape,h4.output,h4.size,λk hk=>h4.block k (by have:=B2.o.size;omega) ω⟩⟩
end
def t0136{p:Prop}(h:p:=by
 have e1:w.cell? ⟨g,j,none⟩=(wt l)[j]?:=by rw[<-ht,bS,aM ω];simp[World.cell?,hg]
 rw[e1,wtq l j hj]):p:=h
section
open iz
open Go.RowKit
namespace Rp
def pY(t:Nat)(pv:Value)(qx:List Value):List Value:=.pointer (some ⟨t,0,none⟩)::pv::qx
def Ek{w:World}{B n e v l}(h:w.ownsRow B e 1 v n (wt l))(hn:n=l.length)(h0:0<n):∃g cap,v=.slice (some ⟨g,0,none⟩) n cap/\(g<w.heap.size/\B<=g/\n<=cap)/\∀j,j<l.length->w.cell? ⟨g,j,none⟩=some (.string (str (l.getD j []))):=by obtain⟨_,⟨_,h0'⟩|⟨g,cap,cur,rfl,hb,hg,hnc,_,_,ht⟩⟩:=h;omega;refine⟨g,cap,rfl,⟨(ae.1 hg).1,hb,hnc⟩,λj hj=>?_⟩;exact t0136
def y9{w:World}{g}{ds l:List (List UInt8)}(hc:∀j,j<ds.length->w.cell? ⟨g,j,none⟩=some (.string (str (ds.getD j [])))) o(hl:∀j,j<l.length->o+j<ds.length/\l.getD j []=ds.getD (o+j) []):∀j u,(wt l)[j]? =some u->w.cell? (Addr.add ⟨g,o,none⟩ j)=some u:=λj u hu=>by
 have hj:j<l.length:=by have:=(aB.1 hu).1;rwa[nO]at this
 obtain⟨h1,h2⟩:=hl j hj;rw[fJ,hc _ h1,<-h2,<-wtq l j hj];exact hu
def abK{w:World}{B n e v l}(h:w.ownsRow B e 1 v n (wt l))(hn:n=l.length):(v=.slice none 0 0/\l=[])∨∃g cap,v=.slice (some ⟨g,0,none⟩) n cap/\(g<w.heap.size/\B<=g/\n<=cap)/\∀j,j<l.length->w.cell? ⟨g,j,none⟩=some (.string (str (l.getD j []))):=by obtain⟨_,⟨hv,h0'⟩|⟨g,cap,cur,rfl,hb,hg,hnc,_,_,ht⟩⟩:=h;exact .inl ⟨hv,bF.1 ω⟩;refine .inr ⟨g,cap,rfl,⟨(ae.1 hg).1,hb,hnc⟩,λj hj=>?_⟩;exact t0136
def zF{w:World}{B n e z v xs}(h:w.ownsRow B e z v n xs){q i u}(hq:q<B):(w.setCell ⟨q,i,none⟩ u).ownsRow B e z v n xs:=by refine⟨h.1,?_⟩;rcases h.2 with h|⟨g,cap,cur,rfl,h1,h2,h3⟩;exact .inl h;exact .inr ⟨g,cap,cur,rfl,h1,by rw[ft _ _ _ _ (by show g≠q;omega)];exact h2,h3⟩
theorem LO(id:List UInt8):∀(P:List (List UInt8))(k:Nat),k<=P.length->(∀j,j<k->Mk.gC (P.getD j [])<id)->Pl.at' Mk.gC id P=((Pl.at' Mk.gC id (P.drop k)).1+k,(Pl.at' Mk.gC id (P.drop k)).2)
 |_,0,_,_=>rfl|[],k+1,h,_=>by simp at h|x::l,k+1,h,hk=>by have h0:Mk.gC x<id:=hk 0 ω;have ih:=LO id l k aF0 (λj hj=>by have:=hk (j+1) ω;simpa using this);rw[Pl.at',if_pos h0,ih,bg];exact Prod.ext (by show _+1=_;omega) rfl
def ahS(id:List UInt8)(P:List (List UInt8))(k:Nat)(hk:k<P.length)(h:∀j,j<k->Mk.gC (P.getD j [])<id)(hn:¬Mk.gC (P.getD k [])<id):Pl.at' Mk.gC id P=(k,Mk.gC (P.getD k [])==id):=by
 rw[LO id P k ω h,bo hk];have e:P[k]=P.getD k []:=by rw[ab,ag hk];rfl
 rw[e,Pl.at',if_neg hn];simp
def ahR(id:List UInt8)(P:List (List UInt8))(h:∀j,j<P.length->Mk.gC (P.getD j [])<id):Pl.at' Mk.gC id P=(P.length,false):=by rw[LO id P P.length ν h,eR];simp[Pl.at']
end Rp
open Rp
def Js(q t B:Nat)(pv:Value)(qx:List Value)(P:List Mp.B)(id:List UInt8)(w:World)(hT:TB w t)(hq:Row w q (pY t pv qx))(ho:w.ownsRow B 9 1 pv P.length (wt P))(hs:∀x∈P,x.length<=610)(h20:P.length<=20):Calls prog 100 #[.pointer (some ⟨q,0,none⟩),.string (str id)] w λe w'=>e=.returned (.tuple #[.int .i64 ((Pl.at' Mk.gC id P).1:Nat),.bool (Pl.at' Mk.gC id P).2])/\Below w.heap.size w w':=by
 have HT:=η hT;have HQ:=η hq;have HO:=η ho;have HS:=η hs;have uZ:=hq.lt;have qZ:=hq.cell 1;rw[show(pY t pv qx)[1]? =some pv from rfl]at qZ;obtain⟨pa,pc,rfl⟩:=jB ho;clear hT hq ho hs;go_enter func100,ntmps100;go_wp2_with fail;clear qZ;go_loopw [14] (λiv wr=>∃k:Nat,k<=P.length/\iv=.int .i64 k/\(∀j,j<k->Mk.gC (P.getD j [])<id)/\Below w.heap.size w wr) (λiv _=>P.length-(intOf iv).toNat)
 exact⟨0,by omega,rfl,λj hj=>by omega,Below.refl _ _⟩;obtain⟨k,hk,rfl,uq,hB⟩:=hrel;have HL:=η uq;have HB:=η hB;clear uq hB;by_cases gV:k<P.length
 ·have p1:(k:Int)< (P.length:Int):=by omega
  obtain⟨g,cap,hv,hg,np⟩:=Ek HO.o rfl ω;cases hv;have hc:wr.cell? ⟨g,k,none⟩=some (.string (str (P.getD k []))):=(fb (w:=w) (HB.o.block g hg.1)).trans (np k gV);have hx:=HS.o (P.getD k []) aFX;have pV:=((HQ.o.below HB.o uZ).cell 0);rw[show(pY t (.slice (some ⟨g,0,none⟩) P.length pc) qx)[0]? =some (.pointer (some ⟨t,0,none⟩))from rfl]at pV;have HH:=η (Rp.ahS id P k gV HL.o);have HN:Hid (Mk.gC (P.getD k [])<id->∀j,j<k+1->Mk.gC (P.getD j [])<id):=η λh j hj=>by by_cases e:j=k;rw[e];exact h;exact HL.o j ω
  generalize P.getD k []=x at hc hx HH HN;have T1:=η (j6 t x wr (HT.o.below HB.o) ω);clear np hg;go_wp2_with fail;refine T1.o.mono ?_;clear T1;rintro e w1⟨rfl,m0⟩;have B1:=η (HB.o.trans (m0.mono HB.o.size));clear m0;by_cases hlx:Mk.gC x<id
  ·have HN2:=η (HN.o hlx);have mQ:Op.bytesLess (Mk.gC x) id=true:=by rw[bytesLess_eq];exact decide_eq_true hlx
   clear hlx;go_wp2_with fail;go_roundw
   ·exact⟨k+1,by omega,by go_num,HN2.o,B1.o⟩
   simp[intOf];omega
  have HH2:=η (HH.o hlx);have mQ:Op.bytesLess (Mk.gC x) id=false:=by rw[bytesLess_eq];exact decide_eq_false hlx
  clear hlx;go_wp2_with fail;go_ret2;exact⟨by rw[HH2.o];rfl,B1.o⟩
 obtain rfl:k=P.length:=by omega
 have HH:=η (Rp.ahR id P HL.o);have qZ:=((HQ.o.below HB.o uZ).cell 1);rw[show(pY t (.slice pa P.length pc) qx)[1]? =some (.slice pa P.length pc)from rfl]at qZ;go_wp2_with fail;go_ret2;exact⟨by rw[HH.o];rfl,HB.o⟩
def Yq{l}:(∃n,Wr.j2 l=.bad n/\Rf.done (Rf.tx (l,0)).2=n/\n≠0)∨(Wr.j2 l=.ok l []/\l.length<=610/\Rf.done (Rf.tx (l,0)).2=0):=by
 have FD:=Rf.Ac (Rf.UF l);cases hx:Wr.j2 l with
 |bad n=>have hn:=Ff hx;rw[show Wr.fin (Wr.tx l)=.bad n from hx]at FD;exact .inl ⟨n,rfl,FD.1,by omega⟩|ok t r=>
 obtain⟨rfl,arh⟩:=Mp.zn hx;have hr:r=[]:=by
  have wV:(Wr.tx t).bind (λa r=>if r=[]then .ok a r else .bad 5)=.ok t r:=hx;cases hb:Wr.tx t with
  |bad e=>rw[hb]at wV;cases wV
  |ok u s=>rw[hb]at wV;have h2:(if s=[]then(.ok u s:Wr.R (List UInt8))else .bad 5)=.ok t r:=wV;by_cases hs:s=[];rw[if_pos hs]at h2;cases h2;exact hs;rw[if_neg hs]at h2;cases h2
 rw[show Wr.fin (Wr.tx t)=.ok t r from hx]at FD;rw[hr];exact .inr ⟨rfl,arh,FD.1⟩
def Uk(w w':World)(q t:Nat)(pv:Value)(qx:List Value)(P P':List Mp.B):Prop:=∃pv',Row w' q (pY t pv' qx)/\iL w.heap.size q w w'/\((pv'=pv/\P'=P)∨w'.ownsRow w.heap.size 9 1 pv' P'.length (wt P'))
def RH(q t B:Nat)(pv:Value)(qx:List Value)(P:List Mp.B)(l:List UInt8)(w:World)(hT:TB w t)(hq:Row w q (pY t pv qx))(ho:w.ownsRow B 9 1 pv P.length (wt P))(hs:∀x∈P,x.length<=610)(h20:P.length<=20)(hl:l.length<=9223372036854775807):Calls prog 56 #[.pointer (some ⟨q,0,none⟩),.string (str l)] w λe w'=>e=.returned (.int .i64 (Mp.Cj P (Wr.j2 l):Int))/\Uk w w' q t pv qx P (Mp.P9 P (Wr.j2 l)):=by
 have HT:=η hT;have HQ:=η hq;have HO:=η ho;have HS:=η hs;have uZ:=hq.lt;have T1:=η (Nq l w hl);clear hT hq ho hs;rcases Yq (l:=l)with⟨n,hx,hd,hn⟩|⟨hx,arh,hd⟩
 ·have p1:¬(n:Int)=0:=by omega
  rw[hd]at T1;have e1:Mp.Cj P (Wr.j2 l)=n:=by rw[hx];rfl
  have e2:Mp.P9 P (Wr.j2 l)=P:=by rw[hx];rfl
  rw[e1,e2];clear hx hd e1 e2;go_enter func56,ntmps56;go_wp2_with fail;refine T1.o.mono ?_;clear T1;rintro e w1⟨rfl,m0⟩;have B1:=η m0;clear m0;go_wp2_with fail;go_ret;exact⟨rfl,pv,HQ.o.below B1.o uZ,iL.gL B1.o,.inl ⟨rfl,rfl⟩⟩
 rw[hd]at T1;obtain⟨err,he⟩:∃err,Mp.Cj P (Wr.j2 l)=err:=⟨_,rfl⟩;obtain⟨P',Qp⟩:∃P',Mp.P9 P (Wr.j2 l)=P':=⟨_,rfl⟩;rw[he,Qp];rw[hx]at he Qp;dsimp only[Mp.Cj,Mp.P9]at he Qp;obtain⟨d,hdd⟩:∃d,Mk.gC l=d:=⟨_,rfl⟩;rw[hdd]at he Qp;have HP:=η Qp;have HE:=η he;have HD:=η hdd;clear hx hd he Qp hdd;go_enter func56,ntmps56;go_wp2_with fail;refine T1.o.mono ?_;clear T1;rintro e w1⟨rfl,m0⟩;have B1:=η m0;clear m0;have pV:=(HQ.o.below B1.o uZ).cell 0;rw[show(pY t pv qx)[0]? =some (.pointer (some ⟨t,0,none⟩))from rfl]at pV;have T2:=η (j6 t l w1 (HT.o.below B1.o) ω)
 rw[HD.o]at T2;go_wp2_with fail;refine T2.o.mono ?_;clear T2 pV;rintro e w2⟨rfl,kD⟩;have B2:=η (B1.o.trans (kD.mono B1.o.size));clear kD;have T3:=η (Js q t B pv qx P d w2 (HT.o.below B2.o) (HQ.o.below B2.o uZ) (gM HO.o B2.o ν) HS.o h20);have HAT:=η (Pl.aed Mk.gC d P);obtain⟨k,hk⟩:∃k,(Pl.at' Mk.gC d P).1=k:=⟨_,rfl⟩;obtain⟨ok,jo⟩:∃b,(Pl.at' Mk.gC d P).2=b:=⟨_,rfl⟩;rw[hk]at HAT T3;rw[jo]at T3 HP HE;have HK:=η hk;clear hk jo;go_wp2_with fail;refine T3.o.mono ?_;clear T3;rintro e w3⟨rfl,mK⟩;have B3:=η (B2.o.trans (mK.mono B2.o.size));clear mK;cases ok with
 |true=>go_wp2_with fail;go_ret;exact⟨by rw[<-HE.o];rfl,pv,HQ.o.below B3.o uZ,iL.gL B3.o,.inl ⟨rfl,by rw[<-HP.o];rfl⟩⟩|false=>
 have HQ3:=η (HQ.o.below B3.o uZ);have HO3:=η (gM HO.o B3.o ν);have qZ:=HQ3.o.cell 1;rw[show(pY t pv qx)[1]? =some pv from rfl]at qZ;have rn:=B3.o.size;have hq3:q<w3.heap.size:=ω;have Ln:=HAT.o;obtain⟨pa,pc,rfl⟩:=jB HO.o;by_cases h2:P.length=20
 ·have p2:(P.length:Int)=20:=by omega
  go_wp2_with fail;go_ret;exact⟨by rw[<-HE.o];simp[h2],_,HQ3.o,iL.gL B3.o,.inl ⟨rfl,by rw[<-HP.o];simp[h2]⟩⟩
 have p2:¬(P.length:Int)=20:=by omega
 have HR:Hid (P'=P.take k++[l]++P.drop k):=η (by rw[<-HP.o];simp[h2,Pl.ins,HD.o,HK.o]);obtain⟨i0,kV,mJ,mC,kS⟩:=fy mZ;have HI:=η kV;clear kV;rcases Rp.abK HO.o rfl with⟨hv,hP0⟩|⟨g,cap,hv,hg,np⟩
 ·injection hv with h3 h4 h5;subst h3 h5 hP0;obtain rfl:k=0:=by simpa using Ln
  clear h4;have ON:=fc w3 w.heap.size 9 1;go_upto_region 10 with(at_builtin;refine wpList_append_own_none rfl _ _ 28 rfl w.heap.size 9 i0 1 underlying28 HI.o _ 0 [] rfl ON rfl ?_);have hwz:w.heap.size<=w3.heap.size:=rn;go_upto_region 11 with(at_builtin;(refine wpList_append_own _ rfl _ _ 28 rfl w.heap.size 9 i0 (.string ByteArray.empty) 1 16 underlying28 HI.o mJ mC kS rfl ψ _ 0 [] rfl (ON.alloc _) ⟨w3.heap.size,0,none⟩ 1 1 [.string (str l)] rfl rfl (cell_one_new _ _ _) (kh [l]) ι ω χ ?_);intro v4 w4 lI zZ _;have H1:=η lI;have H2:=η zZ;clear lI zZ);have B4:=η ((B3.o.alloc rn _).grown H2.o χ aFP);have HQ4:=η (HQ.o.below B4.o uZ);have z7:w4.cell? ⟨q,1,none⟩=some (.slice none 0 0):=HQ4.o.cell 1;have hf4:=HQ4.o.free 1;have lI:=H1.o;rw[aC,aX]at lI;obtain⟨va,vc,rfl⟩:=jB lI;have H3:=η lI;clear H1 H2 ON qZ lI;go_wp2_with (at_builtin;refine wpList_append_own_none rfl _ _ 28 rfl w.heap.size 9 i0 1 underlying28 HI.o _ _ _ rfl H3.o rfl ?_);go_ret;refine⟨by rw[<-HE.o];rfl,.slice va 1 vc,HQ4.o.set 1 _,(iL.gL B4.o).jI 1 _,.inr ?_⟩;rw[HR.o];exact zF H3.o ω
 injection hv with h3 h4 h5;subst h3 h5;have hct:(P.take k).length=k:=aF1;have Lr:(P.drop k).length=P.length-k:=by rw[aD]
 have hgc:=hg.2.2;have SA:=η (Rp.y9 (w:=w3) (l:=P.take k) (λj hj=>(fb (w:=w) (B3.o.block g hg.1)).trans (np j hj)) 0 (λj hj=>⟨by omega,by rw[aC,ab,ab,aM ω]⟩));have ON:=fc w3 w.heap.size 9 1;go_upto_region 10 with(at_builtin;(refine wpList_append_own _ rfl _ _ 28 rfl w.heap.size 9 i0 (.string ByteArray.empty) 1 16 underlying28 HI.o mJ mC kS rfl ψ _ 0 [] rfl ON ⟨g,0,none⟩ k pc (wt (P.take k)) rfl (by rw[nO,hct];omega) SA.o (kh _) ι ω rn ?_);intro v4 w4 lI zZ _;have H1:=η lI;have H2:=η zZ;clear lI zZ);have lI:=H1.o;rw[aC,aX]at lI;have H3:=η lI;have B4:=η (B3.o.grown H2.o rn aFP);have Em:=B4.o.size;clear H1 H2 ON qZ lI SA;go_upto_region 11 with(at_builtin;(refine wpList_append_own _ rfl _ _ 28 rfl w.heap.size 9 i0 (.string ByteArray.empty) 1 16 underlying28 HI.o mJ mC kS rfl ψ _ _ _ rfl (H3.o.alloc _) ⟨w4.heap.size,0,none⟩ 1 1 [.string (str l)] rfl rfl (cell_one_new _ _ _) (kh [l]) ι ω χ ?_);intro v5 w5 kU so _;have H1:=η kU;have H2:=η so;clear kU so);have B5:=η ((B4.o.alloc Em _).grown H2.o χ (λk hk=>(H3.o.lt k hk).1));have SQ:=B5.o.size;have HQ5:=η (HQ.o.below B5.o uZ);have hc5:w5.cell? ⟨q,1,none⟩=some (.slice (some ⟨g,0,none⟩) P.length pc):=HQ5.o.cell 1;have hf5:=HQ5.o.free 1;have Tm:∀j,j<P.length->w5.cell? ⟨g,j,none⟩=some (.string (str (P.getD j []))):=λj hj=>(fb (w:=w) (B5.o.block g hg.1)).trans (np j hj);have SB:=η (Rp.y9 (w:=w5) (l:=P.drop k) Tm k aHC);have S0:=η (λ(hk:P.length-k=0)=>Rp.y9 (w:=w5) (l:=P.drop k) Tm 0 (λj hj=>by omega));have H5:=η H1.o;clear H1 H2 Tm np H3;by_cases To:pc=k
 ·obtain rfl:k=P.length:=by omega
  subst To;go_wp2_with (at_builtin;(refine wpList_append_own _ rfl _ _ 28 rfl w.heap.size 9 i0 (.string ByteArray.empty) 1 16 underlying28 HI.o mJ mC kS rfl ψ _ _ _ rfl H5.o ⟨g,0,none⟩ 0 0 [] rfl rfl (λj u hu=>by simp at hu) (λu hu=>by cases hu) ι ω SQ ?_);intro v6 w6 lg rB _;obtain⟨va,vc,rfl⟩:=jB lg;have B6:=η (B5.o.grown rB SQ (λk hk=>(H5.o.lt k hk).1));have H6:=η lg;have Qe:=η (HQ.o.below B6.o uZ);have hc6:=Qe.o.cell 1;have hf6:=Qe.o.free 1;rw[show(pY t (.slice (some ⟨g,0,none⟩) P.length P.length) qx)[1]? =some (.slice (some ⟨g,0,none⟩) P.length P.length)from rfl]at hc6;clear lg rB);go_ret;refine⟨by rw[<-HE.o];simp[h2],_,Qe.o.set 1 _,(iL.gL B6.o).jI 1 _,.inr ?_⟩;rw[HR.o];have:=zF (q:=q) (i:=1) (u:=.slice va (P.length+1+0) vc) H6.o ω;rw[show(P.take P.length++[l]++P.drop P.length).length=P.length+1+0 from by simp,show wt (P.take P.length++[l]++P.drop P.length)=wt (P.take P.length)++[.string (str l)]++[]from by simp[wt]];exact this
 have aql:¬(pc:Int)=(k:Int):=by omega
 go_wp2_with (at_builtin;(refine wpList_append_own _ rfl _ _ 28 rfl w.heap.size 9 i0 (.string ByteArray.empty) 1 16 underlying28 HI.o mJ mC kS rfl ψ _ _ _ rfl H5.o ⟨g,k,none⟩ (P.length-k) (pc-k) (wt (P.drop k)) rfl (by rw[nO,Lr];omega) SB.o (kh _) ι ω SQ ?_);intro v6 w6 lg rB _;obtain⟨va,vc,rfl⟩:=jB lg;have B6:=η (B5.o.grown rB SQ (λk hk=>(H5.o.lt k hk).1));have H6:=η lg;have Qe:=η (HQ.o.below B6.o uZ);have hc6:=Qe.o.cell 1;have hf6:=Qe.o.free 1;rw[show(pY t (.slice (some ⟨g,0,none⟩) P.length pc) qx)[1]? =some (.slice (some ⟨g,0,none⟩) P.length pc)from rfl]at hc6;clear lg rB)
 go_ret;refine⟨by rw[<-HE.o];simp[h2],_,Qe.o.set 1 _,(iL.gL B6.o).jI 1 _,.inr ?_⟩;rw[HR.o];have:=zF (q:=q) (i:=1) (u:=.slice va (k+1+(P.length-k)) vc) H6.o ω;rw[show(P.take k++[l]++P.drop k).length=k+1+(P.length-k)from by rw[ai,ai,hct,Lr];rfl,show wt (P.take k++[l]++P.drop k)=wt (P.take k)++[.string (str l)]++wt (P.drop k)from by simp[wt]];exact this
def NC(q t B:Nat)(pv:Value)(qx:List Value)(P:List Mp.B)(id:List UInt8)(w:World)(hT:TB w t)(hq:Row w q (pY t pv qx))(ho:w.ownsRow B 9 1 pv P.length (wt P))(hs:∀x∈P,x.length<=610)(h20:P.length<=20):Calls prog 58 #[.pointer (some ⟨q,0,none⟩),.string (str id)] w λe w'=>e=.returned (.bool (Pl.at' Mk.gC id P).2)/\Uk w w' q t pv qx P (Pl.del Mk.gC id P):=by
 have HT:=η hT;have HQ:=η hq;have HO:=η ho;have uZ:=hq.lt;have T3:=η (Js q t B pv qx P id w hT hq ho hs h20);have HAT:=η (Pl.aed Mk.gC id P);have HLT:=η (Pl.ajh Mk.gC id P);obtain⟨P',Qp⟩:∃P',Pl.del Mk.gC id P=P':=⟨_,rfl⟩;rw[Qp];unfold Pl.del at Qp;obtain⟨k,hk⟩:∃k,(Pl.at' Mk.gC id P).1=k:=⟨_,rfl⟩;obtain⟨ok,jo⟩:∃b,(Pl.at' Mk.gC id P).2=b:=⟨_,rfl⟩;rw[hk]at HAT HLT T3 Qp;rw[jo]at T3 HLT Qp|-;have HP:=η Qp;clear hT hq ho hs hk jo Qp;cases ok with
 |false=>go_enter func58,ntmps58;go_wp2_with fail;refine T3.o.mono ?_;clear T3;rintro e w3⟨rfl,mK⟩;have B3:=η mK;clear mK;go_wp2_with fail;go_ret;exact⟨rfl,pv,HQ.o.below B3.o uZ,iL.gL B3.o,.inl ⟨rfl,by rw[<-HP.o];rfl⟩⟩
 |true=>
 have Ln:=HLT.o rfl;have HR:Hid (P'=P.take k++P.drop (k+1)):=η (by rw[<-HP.o];rfl);go_enter func58,ntmps58;go_wp2_with fail;refine T3.o.mono ?_;clear T3;rintro e w3⟨rfl,mK⟩;have B3:=η mK;clear mK;have HQ3:=η (HQ.o.below B3.o uZ);have rn:=B3.o.size;have hq3:q<w3.heap.size:=ω
 obtain⟨i0,kV,mJ,mC,kS⟩:=fy mZ;have HI:=η kV;clear kV;obtain⟨g,pc,rfl,hg,np⟩:=Rp.Ek HO.o rfl ω;have qZ:=HQ3.o.cell 1;rw[show(pY t (.slice (some ⟨g,0,none⟩) P.length pc) qx)[1]? =some (.slice (some ⟨g,0,none⟩) P.length pc)from rfl]at qZ;have hct:(P.take k).length=k:=aF1;have Lr:(P.drop (k+1)).length=P.length-(k+1):=by rw[aD]
 have hgc:=hg.2.2;have SA:=η (Rp.y9 (w:=w3) (l:=P.take k) (λj hj=>(fb (w:=w) (B3.o.block g hg.1)).trans (np j hj)) 0 (λj hj=>⟨by omega,by rw[aC,ab,ab,aM ω]⟩));have ON:=fc w3 w.heap.size 9 1;go_upto_region 4 with(at_builtin;(refine wpList_append_own _ rfl _ _ 28 rfl w.heap.size 9 i0 (.string ByteArray.empty) 1 16 underlying28 HI.o mJ mC kS rfl ψ _ 0 [] rfl ON ⟨g,0,none⟩ k pc (wt (P.take k)) rfl (by rw[nO,hct];omega) SA.o (kh _) ι ω rn ?_);intro v4 w4 lI zZ _;have H1:=η lI;have H2:=η zZ;clear lI zZ);have lI:=H1.o;rw[aC,aX]at lI;have H3:=η lI;have B4:=η (B3.o.grown H2.o rn aFP);have Em:=B4.o.size;have HQ4:=η (HQ.o.below B4.o uZ);have z7:=HQ4.o.cell 1;rw[show(pY t (.slice (some ⟨g,0,none⟩) P.length pc) qx)[1]? =some (.slice (some ⟨g,0,none⟩) P.length pc)from rfl]at z7;have ac4:∀j,j<P.length->w4.cell? ⟨g,j,none⟩=some (.string (str (P.getD j []))):=λj hj=>(fb (w:=w) (B4.o.block g hg.1)).trans (np j hj);have SB:=η (Rp.y9 (w:=w4) (l:=P.drop (k+1)) ac4 (k+1) aHC);clear H1 H2 ON qZ lI SA np ac4;by_cases To:pc=k+1
 ·have hPk:P.length=k+1:=by omega
  subst To;rw[hPk]at z7;have HPK:=η hPk;clear hPk;go_wp2_with (at_builtin;(refine wpList_append_own _ rfl _ _ 28 rfl w.heap.size 9 i0 (.string ByteArray.empty) 1 16 underlying28 HI.o mJ mC kS rfl ψ _ _ _ rfl H3.o ⟨g,0,none⟩ 0 0 [] rfl rfl (λj u hu=>by simp at hu) (λu hu=>by cases hu) ι ω Em ?_);intro v6 w6 lg rB _;obtain⟨va,vc,rfl⟩:=jB lg;have B6:=η (B4.o.grown rB Em (λk hk=>(H3.o.lt k hk).1));have H6:=η lg;have Qe:=η (HQ.o.below B6.o uZ);have hc6:=Qe.o.cell 1;have hf6:=Qe.o.free 1;rw[show(pY t (.slice (some ⟨g,0,none⟩) P.length (k+1)) qx)[1]? =some (.slice (some ⟨g,0,none⟩) P.length (k+1))from rfl]at hc6;clear lg rB);go_ret;refine⟨rfl,_,Qe.o.set 1 _,(iL.gL B6.o).jI 1 _,.inr ?_⟩;rw[HR.o];have:=zF (q:=q) (i:=1) (u:=.slice va (k+0) vc) H6.o ω;have Mr:P.drop (k+1)=[]:=List.drop_eq_nil_of_le (by rw[HPK.o];omega);have e1:(P.take k++([]:List Mp.B)).length=k+0:=by rw[ai,hct];rfl
  have e2:wt (P.take k++([]:List Mp.B))=wt (P.take k)++[]:=by simp[wt]
  rw[Mr,e1,e2];exact this
 have aql:¬(pc:Int)=(k:Int)+1:=by omega
 go_wp2_with (at_builtin;(refine wpList_append_own _ rfl _ _ 28 rfl w.heap.size 9 i0 (.string ByteArray.empty) 1 16 underlying28 HI.o mJ mC kS rfl ψ _ _ _ rfl H3.o ⟨g,k+1,none⟩ (P.length-(k+1)) (pc-(k+1)) (wt (P.drop (k+1))) rfl (by rw[nO,Lr];omega) SB.o (kh _) ι ω Em ?_);intro v6 w6 lg rB _;obtain⟨va,vc,rfl⟩:=jB lg;have B6:=η (B4.o.grown rB Em (λk hk=>(H3.o.lt k hk).1));have H6:=η lg;have Qe:=η (HQ.o.below B6.o uZ);have hc6:=Qe.o.cell 1;have hf6:=Qe.o.free 1;rw[show(pY t (.slice (some ⟨g,0,none⟩) P.length pc) qx)[1]? =some (.slice (some ⟨g,0,none⟩) P.length pc)from rfl]at hc6;clear lg rB)
 go_ret;refine⟨rfl,_,Qe.o.set 1 _,(iL.gL B6.o).jI 1 _,.inr ?_⟩;rw[HR.o];have:=zF (q:=q) (i:=1) (u:=.slice va (k+(P.length-(k+1))) vc) H6.o ω;rw[show(P.take k++P.drop (k+1)).length=k+(P.length-(k+1))from by rw[ai,hct,Lr],show wt (P.take k++P.drop (k+1))=wt (P.take k)++wt (P.drop (k+1))from by simp[wt]];exact this
def ajY(q t B:Nat)(pv:Value)(qx:List Value)(P:List Mp.B)(w:World)(hT:TB w t)(hq:Row w q (pY t pv qx))(ho:w.ownsRow B 9 1 pv P.length (wt P))(hs:∀x∈P,x.length<=610)(h20:P.length<=20):Calls prog 61 #[.pointer (some ⟨q,0,none⟩)] w λe w'=>∃v,e=.returned v/\w'.ownsRow w.heap.size 9 1 v P.length (wt (P.map Mk.gC))/\Below w.heap.size w w':=by
 obtain⟨i0,kV,mJ,mC,kS⟩:=fy mZ;have HI:=η kV;have HT:=η hT;have HQ:=η hq;have HO:=η ho;have HS:=η hs;have uZ:=hq.lt;have qZ:=hq.cell 1;rw[show(pY t pv qx)[1]? =some pv from rfl]at qZ;obtain⟨pa,pc,rfl⟩:=jB ho;clear hT hq ho hs kV;go_enter func61,ntmps61;go_wp2_with fail;clear qZ;go_loopw [3,11] (λov iv wr=>∃k:Nat,k<=P.length/\iv=.int .i64 k/\wr.ownsRow w.heap.size 9 1 ov k (wt ((P.take k).map Mk.gC))/\Below w.heap.size w wr) (λ_ iv _=>P.length-(intOf iv).toNat)
 exact⟨0,by omega,rfl,fc _ _ _ _,Below.refl _ _⟩;obtain⟨k,hk,rfl,iB,hB⟩:=hrel;have HW:=η iB;have HB:=η hB;have ql:=hB.size;clear iB hB;by_cases gV:k<P.length
 ·have p1:(k:Int)< (P.length:Int):=by omega
  obtain⟨g,cap,hv,hg,np⟩:=Rp.Ek HO.o rfl ω;cases hv;have hc:wr.cell? ⟨g,k,none⟩=some (.string (str (P.getD k []))):=(fb (w:=w) (HB.o.block g hg.1)).trans (np k gV);have hx:=HS.o (P.getD k []) aFX;have pV:=((HQ.o.below HB.o uZ).cell 0);rw[show(pY t (.slice (some ⟨g,0,none⟩) P.length pc) qx)[0]? =some (.pointer (some ⟨t,0,none⟩))from rfl]at pV;have HX:Hid ((P.take (k+1)).map Mk.gC=(P.take k).map Mk.gC++[Mk.gC (P.getD k [])]):=η (by rw[ax gV,cP,ab,ag gV];rfl);generalize P.getD k []=x at hc hx HX;have T1:=η (j6 t x wr (HT.o.below HB.o) ω);clear np hg;obtain⟨va,vc,rfl⟩:=jB HW.o;go_wp2_with fail;refine T1.o.mono ?_;clear T1;rintro e w1⟨rfl,m0⟩;have B1:=η (HB.o.trans (m0.mono ql));have W1:=η (gM HW.o m0 ν);have Gv:=m0.size;clear m0 HW;go_wp2_with (at_builtin;(refine wpList_append_own _ rfl _ _ 28 rfl w.heap.size 9 i0 (.string ByteArray.empty) 1 16 underlying28 HI.o mJ mC kS rfl ψ _ _ _ rfl (W1.o.alloc _) ⟨w1.heap.size,0,none⟩ 1 1 [.string (str (Mk.gC x))] rfl rfl (cell_one_new _ _ _) (kh [Mk.gC x]) ι ω χ ?_);intro v4 w4 lI zZ _;have H1:=η lI;have H2:=η zZ;clear lI zZ);have B4:=η ((B1.o.alloc B1.o.size _).grown H2.o χ (λk hk=>(W1.o.lt k hk).1));clear H2;go_roundw
  ·exact⟨k+1,by omega,by go_num,by rw[HX.o,<-kZ];exact H1.o,B4.o⟩
  simp[intOf];omega
 obtain rfl:k=P.length:=by omega
 have H1:=HW.o;rw[ec]at H1;have H2:=η H1;clear H1;go_wp2_with fail;go_ret;exact⟨_,rfl,H2.o,HB.o⟩
end
namespace Tp
open Go.Conc
def wp_cut{P Q a w S id s o ops fo}(hm:P.follows .mixedOrders=true)(hl:sr ops (lastB s) ops.size (Array.replicate ops.size false) []=true)(hg:nj ops=true)(ho:ops[s]? =some o)(hf:oy ops s=fo) (h:wpAnyH P .any fo (uH λa' w'=>wpList P ops Q [o] a' w') S fo.size (Array.replicate fo.size false) a w.drew):(Code.region id ops true).wp P Q a w:=λb k cs=>by
 subst hf;obtain⟨a',w',hq,hs⟩:=Fc (id:=id) hm hl hg ho sZ h b k cs;have hq:wpList P ops Q [o] a' w':=hq;have h2:wpOps P ops Q [s] a' w':=by simpa only[wpOps,wpList,ho]using hq
 obtain⟨e,a2,w2,q,r⟩:=wp_ops [s] a' w' h2 b k cs;exact⟨e,a2,w2,q,Arrives.of_steps hs r⟩
end Tp
section
open Go.RowKit iz
def RSO(t:TypeId)(n:Nat)(xs:List Value)(st:Rf.St)(b:Nat)(w:World)(e:Ending)(w':World):Prop:=∃v,e=.returned v/\w'.ownsRow w.heap.size t 1 v n xs/\Rd w' b st/\iL w.heap.size b w w'
def Yf n st(h:st.2=0):Rf.jX (n+1) st=((Rf.tx st).1::(Rf.jX n (Rf.tx st).2).1,(Rf.jX n (Rf.tx st).2).2):=by rw[Rf.jX,if_neg ω]
namespace Rf
def Jg s:(script s).1.length<=s.1.length:=by unfold script;exact ak (kE _ _) (mo _ _ _)
def akC s:(sk s).1.length<=s.1.length:=by unfold sk;exact ak (kE 4 _) (ak (Jg _) (kE 36 s))
def agp s:(lR s).1.length<=s.1.length:=by unfold lR;exact ak (Jg _) (kE 8 s)
theorem Ri f(hf:∀s,(f s).1.length<=s.1.length):∀n s,(rep f n s).1.length<=s.1.length
 |0,_=>ν|n+1,s=>by rw[rep];exact ak (Ri f hf n _) (hf s)
def akB s:(ins s).1.length<=s.1.length:=by unfold ins;exact ak (Ri sk akC _ _) (mo 1 4 s)
def ago s:(outs s).1.length<=s.1.length:=by unfold outs;exact ak (Ri lR agp _ _) (mo 1 4 s)
def Wj s:(body s).1.length<=s.1.length:=by unfold body;exact ak (kE 4 _) (ak (ago _) (ak (akB _) (kE 4 s)))
end Rf
def Q0(b n:Nat) st w(hr:Rd w b st)(hl:st.1.length<=9223372036854775807)(hn:n<=1000):Calls prog 135 #[.pointer (some ⟨b,0,none⟩),.int .i64 n] w (RSO 9 (Rf.jX n st).1.length (wt (Rf.jX n st).1) (Rf.jX n st).2 b w):=by
 obtain⟨i0,kV,mJ,mC,kS⟩:=fy mZ;have HI:=η kV;have hb:=hr.lt;have HR:=η hr;clear hr kV;obtain⟨q,hq⟩:∃q,Rf.jX n st=q:=⟨_,rfl⟩;rw[hq];have HQ:=η hq;clear hq;go_enter func135,ntmps135;go_wp2_with fail;go_loopw [1,5] (λiv sv wr=>∃(i:Nat)(ts:List (List UInt8))(j5:Rf.St),i<=n/\iv=.int .i64 i/\ts.length+i=n/\wr.ownsRow w.heap.size 9 1 sv ts.length (wt ts)/\Rd wr b j5/\iL w.heap.size b w wr/\j5.1.length<=st.1.length/\q=(ts++(Rf.jX i j5).1,(Rf.jX i j5).2)) (λiv _ _=>(intOf iv).toNat)
 exact⟨n,[],st,by omega,rfl,by simp,fc _ _ _ _,HR.o,iL.refl _ _ _,ν,by rw[<-HQ.o];simp⟩;obtain⟨i,ts,j5,hi,rfl,Mn,iB,oH,hB,hle,hE⟩:=hrel;have A1:=η iB;have A2:=η hB;have A3:=η oH;have A4:=η hE;have ql:=hB.size;have hc:=oH.cell 1;rw[show [Value.string (str j5.1),.int .i64 (j5.2:Int)][1]? =some (.int .i64 (j5.2:Int))from rfl]at hc;clear iB hB oH hE;by_cases gV:0<i
 ·have p1:(i:Int)>0:=by omega
  by_cases he:j5.2=0
  ·have p2:(j5.2:Int)=0:=by omega
   have E1:=η (show q=((ts++[(Rf.tx j5).1])++(Rf.jX (i-1) (Rf.tx j5).2).1,(Rf.jX (i-1) (Rf.tx j5).2).2)by rw[A4.o,show i=(i-1)+1 by omega,Yf _ _ he];simp);have T1:=η (AW b j5 wr A3.o ω);have Eo:=Rf.Wj j5;have apR:(Rf.tx j5).2.1.length<=j5.1.length:=Eo;have hmx:ts.length<1000:=ω;have Lj:=η Mn;clear A3 A4 Mn Eo;obtain⟨p,hp⟩:∃p,Rf.tx j5=p:=⟨_,rfl⟩;rw[hp]at T1 E1 apR;obtain⟨t,uM⟩:=p;dsimp only at apR;clear hp;go_wp2_with fail;refine T1.o.mono ?_;rintro e w2⟨rfl,h3,h4⟩;have B1:=η (ju A1.o h4 hb);have B2:=η (A2.o.trans (h4.mono ql));have R2:=η (show Rd w2 b uM from h3);have zP:=B2.o.size;clear h3 h4 A1 A2 T1 hc;go_wp2_with (at_builtin;refine wpList_append_own _ rfl _ _ 28 rfl w.heap.size 9 i0 (.string ByteArray.empty) 1 16 underlying28 HI.o mJ mC kS rfl ψ _ _ _ rfl (B1.o.alloc _) ⟨w2.heap.size,0,none⟩ 1 1 [.string (str t)] rfl rfl (cell_one_new _ _ _) (kh [t]) ι ω χ ?_;intro XO w3 iM jF _;have mQ:Below w.heap.size w2 w3:=((Below.refl w.heap.size w2).alloc zP _).grown jF χ (λk hk=>(B1.o.lt k hk).1);have H1:=η iM;have H2:=η mQ;clear iM jF mQ);go_roundw
   ·exact⟨i-1,ts++[t],uM,by omega,by go_num,by rw[ai];have:=Lj.o;simp;omega,by rw[ai,<-kZ];exact H1.o,R2.o.below H2.o hb,B2.o.trans (iL.gL H2.o),by omega,E1.o⟩
   simp[intOf];omega
  have p2:¬(j5.2:Int)=0:=by omega
  have E1:=η (show q=(ts,j5)by rw[A4.o,Rf.Ee _ _ he];simp);go_wp2_with fail;go_ret;rw[E1.o];exact⟨_,rfl,A1.o,A3.o,A2.o⟩
 obtain rfl:i=0:=by omega
 have E1:=η (show q=(ts,j5)by rw[A4.o];simp[Rf.jX]);go_wp2_with fail;go_ret;rw[E1.o];exact⟨_,rfl,A1.o,A3.o,A2.o⟩
def Rf.IB(nx B:Nat)(p:Nat×Rf.St):Rf.St:=if p.2.2=0/\(B<=p.1∨B<=nx+p.1)then Rf.ki 4 p.2 else p.2
def KE(b nx B:Nat) st w(hr:Rd w b st)(h1:nx<=1000)(h2:B<=1000):Calls prog 129 #[.pointer (some ⟨b,0,none⟩),.int .i64 nx,.int .i64 B] w (RS (Rf.index nx B st) (λn=>.int .i64 (n:Int)) b w):=by
 have T1:=η (Cr b st w hr);have e2:IntKind.u64.wrap (B:Int)=B:=by rw[k6,oO];omega
 have e2':U (lO (B:Int))=(B:Int):=by rw[rk];omega
 have EQ:=η (show Rf.index nx B st=if(Rf.IB nx B (Rf.size st)).2≠0 then(0,Rf.IB nx B (Rf.size st))else(nx+(Rf.size st).1,Rf.IB nx B (Rf.size st))from rfl);clear hr;go_enter func129,ntmps129;go_wp2_with fail;refine T1.o.mono ?_;clear T1;generalize Rf.size st=p at EQ|-;obtain⟨x,l,e⟩:=p;rintro e w1⟨rfl,h3,h4⟩;have hc:=h3.cell 1;have R1:=η h3;have B1:=η h4;dsimp only at hc EQ;clear h3 h4;by_cases he:e=0
 ·subst he;by_cases c1:B<=x
  ·have p1:(x:Int)≥ (B:Int):=by omega
   have E:=η (show Rf.index nx B st=(0,(l,4))by rw[EQ.o,show Rf.IB nx B (x,l,0)=(l,4)by unfold Rf.IB;rw[if_pos ⟨rfl,.inl c1⟩];rfl];rfl);go_wp2_with fail;refine(kG b 4 (l,0) w1 R1.o).mono ?_;exact t011
  have p1:¬(x:Int)≥ (B:Int):=by omega
  have e3:IntKind.i64.wrap (x:Int)=x:=fF _ ω;by_cases c2:B<=nx+x
  ·have p2:(x:Int)+(nx:Int)≥ (B:Int):=by omega
   have E:=η (show Rf.index nx B st=(0,(l,4))by rw[EQ.o,show Rf.IB nx B (x,l,0)=(l,4)by unfold Rf.IB;rw[if_pos ⟨rfl,.inr c2⟩];rfl];rfl);go_wp2_with fail;refine(kG b 4 (l,0) w1 R1.o).mono ?_;exact t011
  have p2:¬(x:Int)+(nx:Int)≥ (B:Int):=by omega
  have E:=η (show Rf.index nx B st=(nx+x,(l,0))by rw[EQ.o,show Rf.IB nx B (x,l,0)=(l,0)by unfold Rf.IB;rw[if_neg (by rintro⟨_,h|h⟩<;>(dsimp only at h;omega))]];rfl);exact t055
 have p1:¬(e:Int)=0:=by omega
 have E:=η (show Rf.index nx B st=(0,(l,e))by rw[EQ.o,show Rf.IB nx B (x,l,e)=(l,e)by unfold Rf.IB;rw[if_neg (λh=>he h.1)],if_pos he]);exact t055
def Yk nx B st:(Rf.index nx B st).1<=B:=by
 have EQ:Rf.index nx B st=if(Rf.IB nx B (Rf.size st)).2≠0 then(0,Rf.IB nx B (Rf.size st))else(nx+(Rf.size st).1,Rf.IB nx B (Rf.size st)):=rfl
 rw[EQ];split;exact cI _;rename_i h;dsimp only;by_cases hc:B<=(Rf.size st).1∨B<=nx+(Rf.size st).1;by_cases h0:(Rf.size st).2.2=0;refine absurd ?_ h;unfold Rf.IB;rw[if_pos ⟨h0,hc⟩];unfold Rf.ki;rw[if_pos h0];exact(by decide:(4:Nat)≠0);refine absurd ?_ h;unfold Rf.IB;rw[if_neg (λhh=>h0 hh.1)];exact h0;omega
def rG ts i(h:i<ts.length):(wt ts)[i]? =some (.string (str (ts.getD i []))):=by unfold wt;rw[aE,ab,ag h];rfl
def Ir v ts B w(ho:w.ownsRow B 9 1 v ts.length (wt ts))(hs:∀t∈ts,t.length<=610)(hn:ts.length<=1000):Calls prog 152 #[v] w λe w'=>e=.returned (.string (str (Mk.m7 ts)))/\Below w.heap.size w w':=by
 obtain⟨ad,cap,hv⟩:=gZ ho;have H0:=η ho;have HS:=η hs;have q1:IntKind.u64.wrap (ts.length:Int)=ts.length:=by rw[k6,oO];omega
 have T1:=η (nS ts.length w ω);have hl:=k7 ts.length;have HJ:=η (show Mk.m7 ts=Wr.jT ts.length++ts.flatten from rfl);generalize Wr.jT ts.length=sz at T1 hl HJ;rw[hv];clear ho hs;go_enter func152,ntmps152;go_wp2_with fail;refine T1.o.mono ?_;rintro e w1⟨rfl,m0⟩;have B1:=η m0;clear m0 T1;go_wp2_with fail;go_loopw [3,5,12] (λsv xv iv wr=>∃(i:Nat)(s:List UInt8),i<=ts.length/\iv=.int .i64 i/\sv=.string (str s)/\s.length<=9+610*i/\s=sz++(ts.take i).flatten/\Below w.heap.size w wr) (λ_ _ iv _=>ts.length-(intOf iv).toNat)
 exact⟨0,sz,by omega,rfl,rfl,by omega,by simp,B1.o⟩;obtain⟨i,s,hi,rfl,rfl,BJ,VI,hB⟩:=hrel;have HE:=η VI;have HB:=η hB;have ql:=hB.size;clear VI hB;by_cases gV:i<ts.length
 ·have p1:(i:Int)< (ts.length:Int):=by omega
  obtain⟨g,Cc,VD,_,hg,q8⟩:=jQ H0.o (by omega:0<ts.length);rw[hv]at VD;cases VD;have ht:(ts.getD i []).length<=610:=HS.o _ aFX;have HT:=η (AK ts i gV);have hc:wr.cell? ⟨g,i,none⟩=some (.string (str (ts.getD i []))):=by rw[<-rG ts i gV,<-q8 i ω];exact fb (w:=w) (HB.o.block g hg)
  obtain⟨t,het⟩:∃t,ts.getD i []=t:=⟨_,rfl⟩;rw[het]at ht HT hc;clear q8 het;go_wp2_with fail;go_roundw
  ·exact⟨i+1,s++t,by omega,by go_num,rfl,by rw[ai];omega,by rw[HE.o,HT.o,aL],HB.o⟩
  simp[intOf];omega
 exact t091
end
section
open iz
namespace Wr
def Wd(l:List UInt8):R Cb:=(take 80 l).bind λh r=>(take 8 r).bind λnc r=>(kK 0 16 r).bind λn r=>(jK 6 n r).bind λss r=>(kK 0 (16-ss.length) r).bind λm r=>if m+ss.length=0 then .bad 3 else(iG (m+ss.length) m 0 r).map λps=>⟨h,nc,ss,ps⟩
end Wr
namespace Rf
open Wr (R)
def TO(ss:List (List UInt8))(st:St):List (Nat×List UInt8)×St:=iG ((within 0 (16-ss.length) st).1+ss.length) (within 0 (16-ss.length) st).1 0 (if(within 0 (16-ss.length) st).1+ss.length=0 then ki 3 (within 0 (16-ss.length) st).2 else(within 0 (16-ss.length) st).2)
def Qt(l:List UInt8):Wr.Cb×St:=
 let p1:=take 80 (l,0);let p2:=take 8 p1.2;let p3:=within 0 16 p2.2;let p4:=jK 6 p3.1 p3.2
 (⟨p1.1,p2.1,p4.1,(TO p4.1 p4.2).1⟩,(TO p4.1 p4.2).2)
def Ah ss st(h:st.2≠0):TO ss st=([],st):=by
 unfold TO;rw[nG _ _ _ h];have:(if(0:Nat)+ss.length=0 then ki 3 st else st)=st:=by unfold ki;rw[if_neg h];split<;>rfl
 dsimp only;rw[this,qE _ _ _ _ h]
def al7 l:Ag (Wr.Wd l) id (Qt l):=by
 unfold Wr.Wd Qt;refine(nB 80 l).bind (λh r hx hp=>?_) (λh=>?_);rw[hp];dsimp only[id];refine(nB 8 r).bind (λnc r2 hx hp=>?_) (λh=>?_);rw[hp];dsimp only[id];refine(qy 0 16 r2).bind (λn r3 hx hp=>?_) (λh=>?_);rw[hp];dsimp only[id];refine(MJ 6 n r3).bind (λss r4 hx hp=>?_) (λh=>?_);rw[hp];dsimp only[id];unfold TO;refine(qy 0 (16-ss.length) r4).bind (λm r5 hx hp=>?_) (λh=>?_);rw[hp];dsimp only[id];by_cases hz:m+ss.length=0;rw[if_pos hz,if_pos hz];have:ki 3 (r5,0)=(r5,3):=rfl;rw[this,qE _ _ _ _ (show((r5,3):St).2≠0 from by simp)];exact⟨rfl,by decide⟩;rw[if_neg hz,if_neg hz];exact Og (NU (m+ss.length) m 0 r5) _;have:∀s:St,s.2≠0->∀c:Prop,∀_:Decidable c,(if c then ki 3 s else s)=s:=λs hs c _=>by unfold ki;rw[if_neg hs];split<;>rfl
 rw[this _ h];dsimp only;rw[qE _ _ _ _ h];rw[Ah _ _ h];dsimp only;rw[sG _ _ _ h,Ah _ _ h];dsimp only;rw[nG _ _ _ h,sG _ _ _ h,Ah _ _ h];dsimp only;rw[kO _ _ h,nG _ _ _ h,sG _ _ _ h,Ah _ _ h]
theorem adO(l:List UInt8):match Wr.iX l with
  |.ok a _=>done (Qt l).2=0/\(Qt l).1=a
  |.bad e=>done (Qt l).2=e/\e≠0:=by
 have h:=Ac (al7 l);rw[show Wr.iX l=Wr.fin (Wr.Wd l)from rfl];cases hx:Wr.fin (Wr.Wd l)with
 |ok a r=>rw[hx]at h;exact h
 |bad e=>rw[hx]at h;exact h
theorem abg(l:List UInt8):match Wr.ko l with
  |.ok a _=>done (blk 32 l).2=0/\(blk 32 l).1=a
  |.bad e=>done (blk 32 l).2=e/\e≠0:=by
 have h:=Ac (al9 32 l);rw[show Wr.ko l=Wr.fin (Wr.Wk 32 l)from rfl];cases hx:Wr.fin (Wr.Wk 32 l)with
 |ok a r=>rw[hx]at h;exact h
 |bad e=>rw[hx]at h;exact h
end Rf
end
