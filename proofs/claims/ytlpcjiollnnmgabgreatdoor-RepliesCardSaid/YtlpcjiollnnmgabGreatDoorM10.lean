import Derived.Test.YtlpcjiollnnmgabGreatDoorM09
import Derived.ProofKit
import Derived.OpenShut
import Derived.ShutString
set_option maxRecDepth 100000
set_option maxHeartbeats 8000000
set_option linter.all false
namespace Go.Proofs.YtlpcjiollnnmgabGreatDoor
open Go.Proofs.Tryz
def wtq:=@u5
def t097{p:Prop}(h:p:=by rcases h with⟨a,cap,rfl,rfl⟩|⟨b,o,cap,rfl,_⟩;exact⟨a,cap,rfl⟩;exact⟨_,cap,rfl⟩):p:=h
section
open iz
open Go.ChangeShapes Go.WideShapes Go.ChangeAt Go.RowKit
def sA(w:World)(v:Value)(al:List Int):Prop:=(∃a cap,v=.slice a 0 cap/\al=[])∨∃b o cap,v=.slice (some ⟨b,o,none⟩) al.length cap/\b<w.heap.size/\∀j,j<al.length->w.cell? ⟨b,o+j,none⟩=some (.int .i64 (al.getD j 0))
def sA.below{w w' v al B}(h:sA w v al)(hb:Below B w w')(hB:w.heap.size<=B):sA w' v al:=by rcases h with h|⟨b,o,cap,rfl,gV,hc⟩;exact .inl h;refine .inr ⟨b,o,cap,rfl,ay gV hb.size,λj hj=>?_⟩;rw[<-hc j hj];exact fb (w:=w) (hb.block b ω)
def sA.form{w v al}(h:sA w v al):∃a cap,v=.slice a al.length cap:=by exact t097
def sA.at{w a n cap al}(h:sA w (.slice a n cap) al)(hn:0<al.length):∃b o,a=some ⟨b,o,none⟩/\b<w.heap.size/\∀j,j<al.length->w.cell? ⟨b,o+j,none⟩=some (.int .i64 (al.getD j 0)):=by rcases h with⟨a',Cc,h1,rfl⟩|⟨b,o,Cc,h1,hb,hc⟩;simp at hn;cases h1;exact⟨b,o,rfl,hb,hc⟩
end
def t043{p:Prop}(h:p:=by
 subst hy;clear hR hB hj e2 e1;go_wp2_with fail;go_roundw
 ·exact⟨i+1,L.set i _,by omega,by go_num,by rw[aY];exact hL,S1.o,S2.o,S3.o⟩
 simp[intOf];omega):p:=h
def t026{p:Prop}(h:p:=by go_wp2_with fail;go_ret;exact⟨rfl,hb⟩):p:=h
section
open Go.RowKit iz
def aoD w:(Instr.makeSlice 35 (.int .i64 (2:Nat)) (.int .i64 (2:Nat))).run prog w=.ok (.slice (some ⟨w.heap.size,0,none⟩) 2 2) (w.alloc (.cells (w8 (List.replicate 2 0)).toArray 5)):=κ
def aoC w:(Instr.makeSlice 35 (.int .i64 (4:Nat)) (.int .i64 (4:Nat))).run prog w=.ok (.slice (some ⟨w.heap.size,0,none⟩) 4 4) (w.alloc (.cells (w8 (List.replicate 4 0)).toArray 5)):=κ
def aoA w:(Instr.makeSlice 35 (.int .i64 (8:Nat)) (.int .i64 (8:Nat))).run prog w=.ok (.slice (some ⟨w.heap.size,0,none⟩) 8 8) (w.alloc (.cells (w8 (List.replicate 8 0)).toArray 5)):=κ
def acb x i:U (shr x (8*i)) % 256=Y (UInt8.ofNat (x.toNat/256^i % 256)):=by
 have h:(shr x (8*i)).toNat=x.toNat/2^ (8*i):=by unfold shr;rw[aT];have:=x.toNat_lt;exact bp (dS (eh _ _) this)
 unfold U Y;rw[cK,h,show 2^ (8*i)=256^i from Nat.pow_mul 2 8 i];omega
def JH x i:(shr x (8*i)).toUInt8=UInt8.ofNat (x.toNat/256^i % 256):=by apply aem;rw[<-acb];unfold U Y;rw[ep];omega
def Vt L n k(hl:L.length=k)(h:∀j,j<k->nth L j=nth (Wr.low n k) j):L=Wr.low n k:=by apply b9;intro j;by_cases hj:j<k;have:=h j hj;unfold nth at this;rw[ab,ab,ag ω,ag (by rw[Wr.jx];exact hj)]at this;rw[ag ω,ag (by rw[Wr.jx];exact hj)];exact congrArg some this;rw[bT ω,bT (by rw[Wr.jx];omega)]
def Vi L i j y(hi:i<L.length):nth (L.set i y) j=if i=j then y else nth L j:=by unfold nth;rw[ab,eL];split;rename_i h;subst h;simp;rw[ab]
def BG x(k:Nat) w(hk:k<=8)(DM:0<k)(DL:∀w,(Instr.makeSlice 35 (.int .i64 k) (.int .i64 k)).run prog w=.ok (.slice (some ⟨w.heap.size,0,none⟩) k k) (w.alloc (.cells (w8 (List.replicate k 0)).toArray 5))):Calls prog 116 #[.int .u64 (U x),.int .i64 k] w λe w'=>e=.returned (.string (str (Wr.low x.toNat k)))/\Below w.heap.size w w':=by
 have hR:Row (w.alloc (.cells (w8 (List.replicate k 0)).toArray 5)) w.heap.size (w8 (List.replicate k 0)):=Row.new w _ _;have hB:Below w.heap.size w (w.alloc (.cells (w8 (List.replicate k 0)).toArray 5)):=(Below.refl _ _).alloc ν _;go_enter func116,ntmps116;go_wp2_with fail;generalize w.alloc _=w1 at hR hB|-;have H1:=η hR;have H2:=η hB;clear hR hB DL;go_loopw [6,11] (λjv iv wr=>∃(i:Nat)(L:List UInt8),i<=k/\iv=.int .i64 i/\L.length=k/\Row wr w.heap.size (w8 L)/\Below w.heap.size w wr/\∀j,j<i->nth L j=nth (Wr.low x.toNat k) j) (λ_ iv _=>k-(intOf iv).toNat)
 exact⟨0,List.replicate k 0,by omega,rfl,by simp,H1.o,H2.o,λj hj=>by omega⟩;clear H1 H2;obtain⟨i,L,hi,rfl,hL,hR,hB,hj⟩:=hrel;by_cases gV:i<k;have p1:(i:Int)< (k:Int):=by omega
 have h8:0<=8*(i:Int):=ω;have e1:=JH x i;have e2:=Wr.Vs x.toNat k i gV;have pV:=hR.cell i;rw[pO L i ω]at pV;have hz:=hR.free i;obtain⟨y,hy⟩:∃y,(shr x (8*i)).toUInt8=y:=⟨_,rfl⟩;rw[hy]at e1;rw[<-e1]at e2;have S1:=η (show Row (wr.setCell ⟨w.heap.size,i,none⟩ (.int .u8 (Y y))) w.heap.size (w8 (L.set i y))from by rw[<-yq];exact hR.set i _);have S2:=η (show Below w.heap.size w (wr.setCell ⟨w.heap.size,i,none⟩ (.int .u8 (Y y)))from hB.setCell ν _);have S3:=η (show∀j,j<i+1->nth (L.set i y) j=nth (Wr.low x.toNat k) j from λj Qm=>by rw[Vi L i j y ω];split;rename_i h;subst h;rw[e2];exact hj j ω);exact t043;obtain rfl:i=k:=by omega
 have IQ:=hR.bytes;have e:=Vt L x.toNat i hL hj;subst e;go_wp2_with (with_reducible refine tF (o:=⟨some 24,_,_,_,_,_⟩) rfl _ _ _ _ rfl w.heap.size 0 i i (Wr.low x.toNat i) (Wr.jx _ _) rfl fq fu fp IQ ?_);go_ret;exact⟨rfl,hB⟩
def QU(n:Nat)(h:n<18446744073709551616):U (UInt64.ofNat n)=(n:Int)/\(UInt64.ofNat n).toNat=n:=by
 have:(UInt64.ofNat n).toNat=n:=by rw[aT];exact bp h
 exact⟨by unfold U;rw[this],this⟩
def vr(n:Nat) w(hn:n<18446744073709551616):Calls prog 77 #[.int .u64 n] w λe w'=>e=.returned (.string (str (Wr.jT n)))/\Below w.heap.size w w':=by
 obtain⟨hU,hN⟩:=QU n hn;have L2:=BG (UInt64.ofNat n) 2 w ω ω aoD;have L4:=BG (UInt64.ofNat n) 4 w ω ω aoC;have L8:=BG (UInt64.ofNat n) 8 w ω ω aoA;rw[hU,hN]at L2 L4 L8;have H2:=η L2;have H4:=η L4;have H8:=η L8;clear L2 L4 L8 hU hN;unfold Wr.jT;by_cases h1:n<253
 ·rw[if_pos h1];have p1:(n:Int)<253:=by omega
  have e1:(n:Int) % 256=Y (UInt8.ofNat n):=by unfold Y;rw[cK];omega
  have e2:IntKind.u8.wrap (n:Int)=Y (UInt8.ofNat n):=by rw[<-e1];simp[IntKind.wrap,IntKind.bits,IntKind.signed]
  go_enter func77,ntmps77;go_wp2_with fail;go_ret;exact⟨rfl,(Below.refl _ _).alloc ν _⟩
 rw[if_neg h1];have p1:¬(n:Int)<253:=by omega
 by_cases h2:n<65536
 ·rw[if_pos h2];have p2:(n:Int)<65536:=by omega
  go_enter func77,ntmps77;go_wp2_with fail;refine H2.o.mono ?_;rintro e w1⟨rfl,hb⟩;have hl:=Wr.jx n 2;exact t026
 rw[if_neg h2];have p2:¬(n:Int)<65536:=by omega
 by_cases h3:n<4294967296
 ·rw[if_pos h3];have p3:(n:Int)<4294967296:=by omega
  go_enter func77,ntmps77;go_wp2_with fail;refine H4.o.mono ?_;rintro e w1⟨rfl,hb⟩;have hl:=Wr.jx n 4;exact t026
 rw[if_neg h3];have p3:¬(n:Int)<4294967296:=by omega
 go_enter func77,ntmps77;go_wp2_with fail;refine H8.o.mono ?_;rintro e w1⟨rfl,hb⟩;have hl:=Wr.jx n 8;exact t026
end
def t091{p:Prop}(h:p:=by obtain rfl:i=ts.length:=ω;go_wp2_with fail;go_ret;exact⟨by rw[HJ.o,HE.o,au ν];rfl,HB.o⟩):p:=h
section
open Go.RowKit iz
def Sk l w(hT:km w)(hm:l.length<=35184372088832):Calls prog 47 #[.string (str l)] w λe w'=>e=.returned (.string (str (Mk.gC l)))/\Below w.heap.size w w':=by
 have h1:=hT.lt;have hc:=Row.new w [.string (str l)] 9;have hB:Below w.heap.size w (w.alloc (.cells #[.string (str l)] 9)):=(Below.refl _ _).alloc ν _;have T1:=η (Gw w.heap.size 1 l _ (hT.below hB h1) (hc.cell 0) hm);have HB:=η hB;clear hT hc hB;go_enter func47,ntmps47;go_wp2_with fail;refine T1.o.mono ?_;rintro e w2⟨rfl,kD⟩;have kS:=kD.size;rw[World.size_alloc]at kS;have B2:=η (HB.o.trans (kD.mono χ))
 have DT:Row (w2.alloc (.cells (w8 (List.replicate 32 0)).toArray 76)) w2.heap.size (w8 (List.replicate 32 0)):=Row.new w2 _ _;have Da:=below_setRow ((Below.refl w2.heap.size w2).alloc ν (.cells (w8 (List.replicate 32 0)).toArray 76)) ν (w8 (Mk.gC l)).toArray;have Ic:=DT.setRow (w8 (Mk.gC l));rw[Tryz.xY]at DT Da Ic;have B3:=η Da;clear kD T1 Da;go_wp2_with (first|(with_reducible refine ng (o:=⟨none,_,_,_,_,_⟩) rfl _ _ rfl w2.heap.size (List.replicate 32 0) (Mk.gC l) rfl (mz l) rfl rfl DT ?_)|(with_reducible refine tF (o:=⟨some 8,_,_,_,_,_⟩) rfl _ _ _ _ rfl w2.heap.size 0 32 32 (Mk.gC l) (mz l) rfl fq fu fp Ic.bytes ?_));go_ret;exact⟨rfl,B2.o.trans (B3.o.mono ω)⟩
def jQ{w:World}{B n e z v xs}(h:w.ownsRow B e z v n xs)(hn:0<n):∃g cap,v=.slice (some ⟨g,0,none⟩) n cap/\B<=g/\g<w.heap.size/\∀k,k<n*z->w.cell? ⟨g,k,none⟩=xs[k]?:=by obtain⟨_,⟨_,h0⟩|⟨g,cap,cur,rfl,hb,hg,_,_,_,ht⟩⟩:=h;omega;refine⟨g,cap,rfl,hb,(ae.1 hg).1,λk hk=>?_⟩;rw[<-ht,aM hk];simp[World.cell?,hg]
theorem y3:∀ts i j,i<ts.length->j<33->(il ts)[33*i+j]? =(gD (ts.getD i []))[j]?
 |[],i,j,hi,_=>by simp at hi|t::ts,0,j,_,hj=>by have:=gQ t;show(gD t++il ts)[33*0+j]? =_;rw[aP ω];simp|t::ts,i+1,j,hi,hj=>by have:=gQ t;show(gD t++il ts)[33*(i+1)+j]? =_;rw[aK ω,show 33*(i+1)+j-(gD t).length=33*i+j by omega,y3 ts i j aGd hj];rfl
def Wl(w:World)(g:Nat)(ts:List (List UInt8)):Prop:=∀i,i<ts.length->w.rangeAt g (33*i) (gD (ts.getD i []))
def Ej{w B v ts}(h:w.ownsRow B 78 33 v ts.length (il ts))(hn:0<ts.length):∃g cap,v=.slice (some ⟨g,0,none⟩) ts.length cap/\B<=g/\g<w.heap.size/\Wl w g ts:=by
 obtain⟨g,cap,rfl,hb,hg,hc⟩:=jQ h hn;refine⟨g,cap,rfl,hb,hg,λi hi j u hu=>?_⟩;have hj:j<33:=by have:=(aB.1 hu).1;rwa[gQ]at this
 rw[hc _ ω,y3 ts i j hi hj];exact hu
def Wl.below{B g ts w w'}(h:Wl w g ts)(hb:Below B w w')(hB:g<B):Wl w' g ts:=λi hi=>rangeAt_of_block (h i hi) (hb.block g hB)
def JJ{ops rest o a w Q}(pn:o.guard=none) x(ho:o.op=.load 78 x) g off t (hx:a.eval x=.pointer (some ⟨g,off,none⟩)) (hr:w.rangeAt g off (gD t)) (h:wpList prog ops Q rest (a.put o.dst (Mi t)) w):wpList prog ops Q (o::rest) a w:=wpList_load_mid pn _ x ho g off hx (gD t) _ hr fG rfl (by rw[kj,gQ]) h
def Mk.m7(ts:List (List UInt8)):List UInt8:=Wr.jT ts.length++ts.flatten
theorem yO:∀(ts:List (List UInt8)),(∀t∈ts,t.length<=610)->ts.flatten.length<=610*ts.length
 |[],_=>ν|t::ts,h=>by have h1:=h t aH;have h2:=yO ts λx hx=>h x (aF _ hx);rw[dG,ai,aq];omega
def k7 n:(Wr.jT n).length<=9:=by unfold Wr.jT;split;simp;split;simp[Wr.jx];split;simp[Wr.jx];simp[Wr.jx]
def AK(ts:List (List UInt8)) i(h:i<ts.length):(ts.take (i+1)).flatten=(ts.take i).flatten++ts.getD i []:=by rw[ax h,dr,ab,ag h];simp
def SN v ts B w(ho:w.ownsRow B 78 33 v ts.length (il ts))(hs:∀t∈ts,t.length<=610)(hn:ts.length<=1000):Calls prog 94 #[v] w λe w'=>e=.returned (.string (str (Mk.m7 ts)))/\Below w.heap.size w w':=by
 obtain⟨ad,cap,hv⟩:=gZ ho;have H0:=η ho;have HS:=η hs;have q1:IntKind.u64.wrap (ts.length:Int)=ts.length:=by rw[k6,oO];omega
 have T1:=η (vr ts.length w ω);have hl:=k7 ts.length;have HJ:=η (show Mk.m7 ts=Wr.jT ts.length++ts.flatten from rfl);generalize Wr.jT ts.length=sz at T1 hl HJ;rw[hv];clear ho hs;go_enter func94,ntmps94;go_wp2_with fail;refine T1.o.mono ?_;rintro e w1⟨rfl,m0⟩;have B1:=η m0;clear m0 T1;go_wp2_with fail;go_loopw [3,12] (λsv iv wr=>∃(i:Nat)(s:List UInt8),i<=ts.length/\iv=.int .i64 i/\sv=.string (str s)/\s.length<=9+610*i/\s=sz++(ts.take i).flatten/\Below w.heap.size w wr) (λ_ iv _=>ts.length-(intOf iv).toNat)
 exact⟨0,sz,by omega,rfl,rfl,by omega,by simp,B1.o⟩;obtain⟨i,s,hi,rfl,rfl,BJ,VI,hB⟩:=hrel;have HE:=η VI;have HB:=η hB;have ql:=hB.size;clear VI hB;by_cases gV:i<ts.length
 ·have p1:(i:Int)< (ts.length:Int):=by omega
  obtain⟨g,Cc,VD,_,hg,q8⟩:=Ej H0.o ω;rw[hv]at VD;cases VD;have ht:(ts.getD i []).length<=610:=HS.o _ aFX;have HT:=η (AK ts i gV);have IF:=(q8.below HB.o hg) i gV;obtain⟨t,het⟩:∃t,ts.getD i []=t:=⟨_,rfl⟩;rw[het]at ht HT IF;rw[br]at IF;have r1:Row (wr.alloc (.cells j1.toArray 78)) wr.heap.size j1:=Row.new wr j1 78;have Ie:Below w.heap.size w (wr.alloc (.cells j1.toArray 78)):=HB.o.alloc ql _;have hc:=(r1.setRow (gD t)).cell 0;rw[show(gD t)[0]? =some (.string (str t))from rfl]at hc;have B2:=η (below_setRow Ie ql (gD t).toArray);rw[Tryz.n9]at r1 hc B2;clear q8 het Ie;go_wp2_with (first|(refine JJ (o:=⟨some 15,_,_,_,_,_⟩) rfl _ rfl g (i*33) t rfl IF ?_)|(with_reducible refine gJ (o:=⟨none,_,_,_,_,_⟩) rfl _ _ _ rfl wr.heap.size j1 (gD t) rfl rfl r1 (kj.trans aGK) aH8 (iV t) ?_));go_roundw
  ·exact⟨i+1,s++t,by omega,by go_num,rfl,by rw[ai];omega,by rw[HE.o,HT.o,aL],B2.o⟩
  simp[intOf];omega
 exact t091
end
section
open iz
namespace En
open Wr
def Gq(d:List UInt8):UInt64:=iE.le (d.take 8)
def Gp(d:List UInt8):UInt64:=iE.le ((d.drop 8).take 8)
def six(x:UInt64):List UInt8:=low x.toNat 6
def short(h n t:List UInt8):List UInt8:=six (iE.UN (Gq (gP.sum (h++n))) (Gp (gP.sum (h++n))) (gP.sum (gP.sum t)))
def gB(al:List Int)(jX:List (List UInt8)):Nat->List (List UInt8)
 |0=>[]|i+1=>if(i:Int)∈al then gB al jX i++[jX.getD i []]else gB al jX i
def kept(f:List UInt8->List UInt8)(al:List Int)(jX:List (List UInt8)):Nat->List (List UInt8)
 |0=>[]|i+1=>if(i:Int)∈al then kept f al jX i else kept f al jX i++[f (jX.getD i [])]
def oI:Int->List Int->List (List UInt8)
 |_,[]=>[]|next,i::l=>jT (i-next).toNat::oI (i+1) l
def told:List (List UInt8)->List (List UInt8)->List UInt8
 |g::gs,t::ts=>g++t++told gs ts|_,_=>[]
def bytes(h n:List UInt8)(gA:List (List UInt8))(al:List Int)(ts:List (List UInt8)):List UInt8:=h++n++(jT gA.length++gA.flatten)++(jT al.length++told (oI 0 al) ts)
def Ht(n:Nat):Int->List Int->Prop
 |_,[]=>True|lo,i::l=>lo<=i/\i<n/\Ht n (i+1) l
def ti(next:Int):List Int->Int
 |[]=>next|i::l=>ti (i+1) l
theorem JY i:∀l next,oI next (l++[i])=oI next l++[jT (i-ti next l).toNat]
 |[],_=>rfl|j::l,next=>by rw[aU,oI,JY i l,oI];rfl
theorem Gn i:∀l next,ti next (l++[i])=i+1
 |[],_=>rfl|j::l,next=>by rw[aU,ti,Gn i l]
theorem rR:∀l next,(oI next l).length=l.length
 |[],_=>rfl|i::l,next=>by simp[oI,rR l]
theorem UW n:∀al lo,Ht n lo al->∀j∈al,j< (n:Int)
 |[],_,_,j,h=>by cases h
 |i::l,lo,h,j,hj=>by obtain⟨h1,h2,h3⟩:=h;rcases List.mem_cons.1 hj with rfl|hj;exact h2;exact UW n l _ h3 j hj
theorem Nj n:∀al lo,0<=lo->Ht n lo al->lo+al.length<=n∨al=[]
 |[],_,_,_=>.inr rfl|i::l,lo,h0,h=>by obtain⟨h1,h2,h3⟩:=h;rcases Nj n l (i+1) ω h3 with h4|rfl;left;rw[aq];omega;left;simp;omega
def pick(jX:List (List UInt8)):List Nat->Option (List (List UInt8))
 |[]=>some []|i::l=>if jX.length<=i then none else(pick jX l).map λts=>jX.getD i []::ts
end En
namespace Wr
def Wk(k:Nat)(l:List UInt8):R (List UInt8×List (List UInt8)):=(take k l).bind λh r=>(kK 1 16 r).bind λn r=>(jX n r).map λts=>(h,ts)
end Wr
namespace Rf
open Wr (R)
def blk(k:Nat)(l:List UInt8):(List UInt8×List (List UInt8))×St:=
 let p:=take k (l,0);let q:=within 1 16 p.2;let r:=jX q.1 q.2
 ((p.1,r.1),r.2)
def Og{α β x p}(h:Ag x id p)(g:α->β):Ag (x.map g) id (g p.1,p.2):=by cases x with|ok a r=>have h':p=(a,(r,0)):=h;rw[h'];rfl|bad e=>exact h
def al9 k l:Ag (Wr.Wk k l) id (blk k l):=by unfold Wr.Wk blk;refine(nB k l).bind (λh r hx hp=>?_) (λh=>?_);rw[hp];dsimp only[id];refine(qy 1 16 r).bind (λn r2 hx hp=>?_) (λh=>?_);rw[hp];exact Og (aaL n r2) _;dsimp only;rw[Ee _ _ h];dsimp only;rw[nG _ _ _ h,Ee _ _ h]
end Rf
end
section
open Go.RowKit iz
namespace Wr
def take_len{n l t r}(h:take n l=.ok t r):t.length=n:=by unfold take at h;by_cases c:l.length<n;rw[if_pos c]at h;cases h;rw[if_neg c]at h;cases h;rw[aJ];omega
def V7{α}{x:R α}{a r}(h:fin x=.ok a r):x=.ok a r:=by
 unfold fin at h;cases x with
 |bad e=>cases h
 |ok b s=>have h':(if s=[]then(.ok b s:R α)else .bad 5)=.ok a r:=h;by_cases hs:s=[];rw[if_pos hs]at h';exact h';rw[if_neg hs]at h';cases h'
end Wr
def Row.of_block{w w' b l}(h:Row w b l)(e:w'.heap[b]? =w.heap[b]?):Row w' b l:=by obtain⟨T,h⟩:=h;exact⟨T,by rw[e];exact h⟩
theorem lN.alloc(w:World) T A B C D:lN (w.alloc (.cells #[.int .u64 (U A),.int .u64 (U B),.int .u64 (U C),.int .u64 (U D)] T)) w.heap.size A B C D:=⟨T,by show(w.heap.push _)[w.heap.size]? =_;rw[dw]⟩
def SW k l s(hs:s.length<=9223372036854775807) w:Calls prog 67 #[.int .u64 (U k),.int .u64 (U l),.string (str s)] w λe w'=>e=.returned (.int .u64 (U (iE.UN k l s)))/\Below w.heap.size w w':=by
 have hmf:=Vo;go_enter func67,ntmps67;go_wp2;have hf:=lN.alloc w 174 (k ^^^ lO 8317987319222330741) (l ^^^ lO 7237128888997146477) (k ^^^ lO 7816392313619706465) (l ^^^ lO 8387220255154660723);have hb:Below w.heap.size w (w.alloc (.cells #[.int .u64 (U (k ^^^ lO 8317987319222330741)),.int .u64 (U (l ^^^ lO 7237128888997146477)),.int .u64 (U (k ^^^ lO 7816392313619706465)),.int .u64 (U (l ^^^ lO 8387220255154660723))] 174)):=(Below.refl _ w).alloc ν _;generalize w.alloc _=w1 at hf hb|-;generalize hB:w.heap.size=B at hf hb|-;have hB':=η hB;clear hB;go_loopw [2] (λv wr=>∃i:Nat,8*i<=s.length/\v=.string (str (s.drop (8*i)))/\lN wr B (iE.words i (iE.start k l) s).a (iE.words i (iE.start k l) s).b (iE.words i (iE.start k l) s).c (iE.words i (iE.start k l) s).d/\Below B w wr) (λv _=>match v with|.string t=>t.size|_=>0);exact⟨0,by omega,rfl,hf,hb⟩;clear hf hb;obtain⟨i,hi,rfl,hf,hb⟩:=hrel;generalize hw:iE.words i (iE.start k l) s=st at hf;obtain⟨A,b,C,D⟩:=st;replace hf:lN wr B A b C D:=hf;have hW:=η hw;clear hw;by_cases gV:8*i+8<=s.length
 ·have hl:8<=(s.drop (8*i)).length:=by rw[aD];omega
  have hl':(s.drop (8*i)).length<=9223372036854775807:=aGB;have Eo:=η (aD (i:=8*i) (l:=s));obtain⟨⟨c0,c1,c2,c3⟩,f0,f1,f2,f3⟩:=hf.all;generalize hr:s.drop (8*i)=r at hl hl' Eo|-;have hR:=η hr;clear hr;go_wp2_with fail;refine(yn r hl hl' _).mono ?_;rintro e w'⟨rfl,rfl⟩;generalize hm:iE.le (r.take 8)=m;have hM:=η hm;clear hm;go_wp2_with fail;refine(AY B 2 ω ω _ (hf.abc (D ^^^ m))).mono ?_;rintro e w'⟨rfl,z6,sB⟩;generalize hq:iE.rounds (Int.toNat 2) ⟨A,b,C,D ^^^ m⟩=q at z6;have hQ:=η hq;clear hq;obtain⟨A',B',C',D'⟩:=q;replace z6:lN w' B A' B' C' D':=z6;replace hb:=(hb.setCell (p:=⟨B,3,none⟩) ν (.int .u64 (U (D ^^^ m)))).trans sB;clear sB hf c0 c1 c2 c3 f0 f1 f2 f3;obtain⟨⟨c0,c1,c2,c3⟩,f0,f1,f2,f3⟩:=z6.all;go_wp2_with fail;go_roundw;have e:iE.words (i+1) (iE.start k l) s=⟨A' ^^^ m,B',C',D'⟩:=by have h1:iE.rounds 2 ⟨A,b,C,D ^^^ m⟩=⟨A',B',C',D'⟩:=hQ.o;show iE.word (iE.words i (iE.start k l) s) (iE.le ((s.drop (8*i)).take 8))=_;rw[hW.o,hR.o,hM.o];unfold iE.word;rw[h1]
  refine⟨i+1,by omega,?_,?_,hb.setCell ν _⟩;rw[<-hR.o,dI];rfl;rw[e];exact z6.Yb _;simp[ByteArray.size,str];omega
 have Eo:=η (aD (i:=8*i) (l:=s));have hl:(s.drop (8*i)).length<8:=by rw[aD];omega
 generalize hr:s.drop (8*i)=r at hl Eo|-;have hR:=η hr;clear hr;go_wp2_with fail;go_loop [11,49] (λm j=>∃t:Nat,t<=r.length/\j=.int .i64 t/\m=.int .u64 (U (shl (UInt64.ofNat s.length) 56 ||| iE.le (r.take t)))) (λ_ j=>r.length-(intOf j).toNat);exact⟨0,by omega,rfl,by rw[show iE.le (r.take 0)=0 from rfl,UInt64.or_zero]⟩;obtain⟨t,ht,rfl,rfl⟩:=hrel;by_cases Qg:t<r.length
 ·have hd:=η (iE.zI r t Qg ω);have h8:0<=8*(t:Int):=ω;go_wp2_with fail;go_round
  ·exact⟨t+1,by omega,by go_num,by rw[hd.o,UInt64.or_assoc]⟩
  simp[intOf];omega
 obtain rfl:t=r.length:=by omega
 generalize hm:shl (UInt64.ofNat s.length) 56 ||| iE.le (r.take r.length)=m;have hM:=η hm;clear hm;obtain⟨⟨c0,c1,c2,c3⟩,f0,f1,f2,f3⟩:=hf.all;go_wp2_with fail;refine(AY B 2 ω ω _ (hf.abc (D ^^^ m))).mono ?_;rintro e w'⟨rfl,z6,sB⟩;generalize hq:iE.rounds (Int.toNat 2) ⟨A,b,C,D ^^^ m⟩=q at z6;have hQ:=η hq;clear hq;obtain⟨A',B',C',D'⟩:=q;replace z6:lN w' B A' B' C' D':=z6;replace hb:=(hb.setCell (p:=⟨B,3,none⟩) ν (.int .u64 (U (D ^^^ m)))).trans sB;clear sB hf c0 c1 c2 c3 f0 f1 f2 f3;obtain⟨⟨c0,c1,c2,c3⟩,f0,f1,f2,f3⟩:=z6.all;go_wp2_with fail;replace z6:=(z6.Yb (A' ^^^ m)).abd (C' ^^^ lO 255);replace hb:=(hb.setCell (p:=⟨B,0,none⟩) ν (.int .u64 (U (A' ^^^ m)))).setCell (p:=⟨B,2,none⟩) ν (.int .u64 (U (C' ^^^ lO 255)));refine(AY B 4 ω ω _ z6).mono ?_;rintro e tK⟨rfl,ahi,sB⟩;generalize hq:iE.rounds (Int.toNat 4) ⟨A' ^^^ m,B',C' ^^^ lO 255,D'⟩=q at ahi;have hQ2:=η hq;clear hq;obtain⟨A2,B2,C2,D2⟩:=q;replace ahi:lN tK B A2 B2 C2 D2:=ahi;replace hb:=hb.trans sB;clear sB z6 c0 c1 c2 c3 f0 f1 f2 f3;obtain⟨⟨c0,c1,c2,c3⟩,f0,f1,f2,f3⟩:=ahi.all;go_wp2_with fail;go_ret;refine⟨?_,by rw[hB'.o];exact hb⟩;have hi:i=s.length/8:=by have:=Eo.o;omega
 have e1:iE.rounds 2 ⟨A,b,C,D ^^^ m⟩=⟨A',B',C',D'⟩:=hQ.o;have e2:iE.rounds 4 ⟨A' ^^^ m,B',C' ^^^ lO 255,D'⟩=⟨A2,B2,C2,D2⟩:=hQ2.o;have e3:m=iE.tail s.length (s.drop (8*i)):=by rw[hR.o,<-hM.o,ec];rfl
 have e4:iE.UN k l s=A2 ^^^ B2 ^^^ C2 ^^^ D2:=by unfold iE.UN;rw[<-hi,hW.o,<-e3];unfold iE.word iE.last;rw[e1];simp only[e2]
 rw[e4];rfl
def JX(al:List Int) lo i(h:i<al.length):En.oI lo (al.take (i+1))=En.oI lo (al.take i)++[Wr.jT (al.getD i 0-En.ti lo (al.take i)).toNat]:=by rw[ax h,En.JY,ab,ag h];rfl
def JM(al:List Int) lo i(h:i<al.length):En.ti lo (al.take (i+1))=al.getD i 0+1:=by rw[ax h,En.Gn,ab,ag h];rfl
theorem KD n:∀al lo i,En.Ht n lo al->i<al.length->En.ti lo (al.take i)<=al.getD i 0/\al.getD i 0<n/\lo<=En.ti lo (al.take i)
 |[],lo,i,_,hi=>by simp at hi|a::al,lo,0,h,_=>⟨h.1,h.2.1,Int.le_refl _⟩|a::al,lo,i+1,h,hi=>by have:=KD n al (a+1) i h.2.2 aGd;have h1:=h.1;exact⟨this.1,this.2.1,by have:=this.2.2;show lo<=En.ti (a+1) (al.take i);omega⟩
def NQ v al n w(h:sA w v al)(hr:En.Ht n 0 al)(hn:n<=1000)(hl:al.length<=1000):Calls prog 78 #[v] w λe w'=>∃u,e=.returned u/\w'.ownsRow w.heap.size 9 1 u al.length (wt (En.oI 0 al))/\Below w.heap.size w w':=by
 obtain⟨i0,kV,mJ,mC,kS⟩:=fy mZ;have HI:=η kV;obtain⟨a,cap,rfl⟩:=h.form;have H:=η h;have HR:=η hr;clear h kV hr;go_enter func78,ntmps78;go_wp2_with fail;go_loopw [3,4,6,9] (λsv nv xv iv wr=>∃(i:Nat),i<=al.length/\iv=.int .i64 i/\nv=.int .i64 (En.ti 0 (al.take i))/\wr.ownsRow w.heap.size 9 1 sv i (wt (En.oI 0 (al.take i)))/\Below w.heap.size w wr) (λ_ _ _ iv _=>al.length-(intOf iv).toNat)
 exact⟨0,by omega,rfl,rfl,fc _ _ _ _,Below.refl _ _⟩;obtain⟨i,hi,rfl,rfl,iB,hB⟩:=hrel;have O1:=η iB;have B1:=η hB;have ql:=hB.size;clear iB hB;by_cases gV:i<al.length
 ·have p1:(i:Int)< (al.length:Int):=by omega
  obtain⟨b,o,rfl,hb,hc⟩:=H.o.at ω;have hcx:wr.cell? ⟨b,o+i,none⟩=some (.int .i64 (al.getD i 0)):=by rw[<-hc i gV];exact fb (w:=w) (B1.o.block b hb)
  obtain⟨Mo,qX,Qi⟩:=KD n al 0 i HR.o gV;have G:=η (JX al 0 i gV);have L:=η (JM al 0 i gV);generalize al.getD i 0=x at hcx Mo qX G L;generalize En.ti 0 (al.take i)=nx at Mo Qi G|-;have q1:wrap64 (x-nx)=x-nx:=by unfold wrap64;omega
  obtain⟨d,hd⟩:∃d:Nat,x-nx=(d:Int):=⟨(x-nx).toNat,by omega⟩;have q2:IntKind.u64.wrap (x-nx)=(d:Int):=by rw[hd,k6,oO];omega
  have q3:U (lO (x-nx))=(d:Int):=by rw[hd,rk];omega
  have q4:wrap64 (x+1)=x+1:=by unfold wrap64;omega
  have T1:=η (vr d wr ω);rw[hd,eO]at G;clear hd;have hds:=k7 d;clear hc Mo Qi;go_wp2_with fail;refine T1.o.mono ?_;clear T1;generalize Wr.jT d=y at hds G;rintro e w2⟨rfl,kD⟩;have O2:=η (gM O1.o kD ν);have B2:=η (B1.o.trans (kD.mono ql));have zP:=B2.o.size;clear kD O1 B1 hcx;go_wp2_with (at_builtin;refine wpList_append_own _ rfl _ _ 28 rfl w.heap.size 9 i0 (.string ByteArray.empty) 1 16 underlying28 HI.o mJ mC kS rfl ψ _ _ _ rfl (O2.o.alloc _) ⟨w2.heap.size,0,none⟩ 1 1 [.string (str y)] rfl rfl (cell_one_new _ _ _) (kh [y]) ι ω χ ?_;intro XO w3 iM jF _;have mQ:Below w.heap.size w2 w3:=((Below.refl w.heap.size w2).alloc zP _).grown jF χ (λk hk=>(O2.o.lt k hk).1);have H1:=η iM;have H2:=η mQ;clear iM jF mQ);go_roundw
  ·exact⟨i+1,by omega,by go_num,by rw[L.o,q4],by rw[G.o,<-kZ];exact H1.o,B2.o.trans H2.o⟩
  simp[intOf];omega
 obtain rfl:i=al.length:=by omega
 go_wp2_with fail;go_ret;exact⟨_,rfl,by have:=O1.o;rwa[au ν]at this,B1.o⟩
def tM{ops rest o a C Q}(pn:o.guard=none) src dst e x(ho:o.op=.convert src dst x) g off n cap l (hl:l.length=n) (hx:a.eval x=.slice (some ⟨g,off,none⟩) n cap) (hs:prog.underlying src=some (.slice e)) (he:prog.underlying e=some (.int .u8)) (hd:prog.underlying dst=some .string) (hb:∀w,C w->Bytes w g off l) (h:wpQuiet prog ops C Q rest (a.put o.dst (.string (str l)))):wpQuiet prog ops C Q (o::rest) a:=by subst hl;unfold wpQuiet;rw[if_pos aGQ];refine⟨_,λw hw=>?_,h⟩;have:=oZ (P:=prog) w src dst e g off cap l hs he hd (hb w hw);exact t07
def Bytes.part{w g l}(h:Bytes w g 0 l) o n(hn:o+n<=l.length):Bytes w g o ((l.drop o).take n):=λj hj=>by rw[aJ,aD]at hj;have:=h (o+j) ω;rw[aC]at this;rw[this];unfold nth;rw[ab,ab,aM ω,cM]
def iu(d:List UInt8):List Value:=[.int .u64 (U (En.Gq d)),.int .u64 (U (En.Gp d))]
def Gr:(prog.info? 89).map (·.size)=some 2:=κ
def Ot h n w(hT:km w)(hm:h.length+n.length<=1000):Calls prog 37 #[.string (str h),.string (str n)] w λe w'=>e=.returned (.agg (iu (gP.sum (h++n))).toArray)/\Below w.heap.size w w':=by
 have h1:=hT.lt;have HT:=η hT;clear hT;go_enter func37,ntmps37;go_upto_region 1 with fail;have rK:Row (w.alloc (.cells #[.int .u64 0,.int .u64 0] 89)) w.heap.size [.int .u64 0,.int .u64 0]:=Row.new w [.int .u64 0,.int .u64 0] _;have bK:Below w.heap.size w (w.alloc (.cells #[.int .u64 0,.int .u64 0] 89)):=(Below.refl _ _).alloc ν _;generalize w.alloc _=w1 at rK bK|-;have mC:=rK.lt;have hc:=Row.new w1 [.string (str h),.string (str n)] 9;have pW:Below w1.heap.size w1 (w1.alloc (.cells #[.string (str h),.string (str n)] 9)):=(Below.refl _ _).alloc ν _;have T1:=η (acF w1.heap.size 2 h n _ ((HT.o.below bK h1).below pW ω) (hc.cell 0) (hc.cell 1) ω);have RK:=η rK;have BK:=η bK;clear hc rK bK;go_wp2_with fail;refine T1.o.mono ?_;clear T1;rintro e w2⟨rfl,kD⟩;have kS:=kD.size;rw[World.size_alloc]at kS;have b2:Below w1.heap.size w1 w2:=pW.trans (kD.mono χ);obtain⟨d,hd⟩:∃d,gP.sum (h++n)=d:=⟨_,rfl⟩;have aqg:d.length=32:=by rw[<-hd];exact gP.kI _
 rw[hd];have DT:Row (w2.alloc (.cells (w8 (List.replicate 32 0)).toArray 76)) w2.heap.size (w8 (List.replicate 32 0)):=Row.new w2 _ _;have Da:=below_setRow ((Below.refl w2.heap.size w2).alloc ν (.cells (w8 (List.replicate 32 0)).toArray 76)) ν (w8 d).toArray;have Ic:=DT.setRow (w8 d);have RK3:=η ((RK.o.below b2 mC).below Da (by have:=b2.size;omega));have BK3:=η (BK.o.trans (((b2.trans (Da.mono (by have:=b2.size;omega)))).mono ω));rw[Tryz.xY]at DT Da Ic RK3 BK3;have HD:=η hd;clear kD pW b2 Da RK BK hd;go_upto_region 2 with(with_reducible refine ng (o:=⟨none,_,_,_,_,_⟩) rfl _ _ rfl w2.heap.size (List.replicate 32 0) d rfl aqg rfl rfl DT ?_);clear DT;generalize World.setRow _ _ _=w3 at Ic RK3 BK3|-;obtain⟨D,hD⟩:∃D,w2.heap.size=D:=⟨_,rfl⟩;rw[hD]at Ic|-;have hDw:w.heap.size<D:=ω;clear hD kS;have l8:(d.take 8).length=8:=aF1;have l8':((d.drop 8).take 8).length=8:=by rw[aJ,aD];omega
 haveI iZ:Nonempty (gI.Of (λu=>Row u D (w8 d))):=⟨⟨w3,Ic⟩⟩;refine gI.jl [0,1,3,4] 4 mixed κ rfl rfl θ ξ rfl (λu=>Row u D (w8 d)) Ic.drew ?_;show wpQuiet _ _ _ _ [_,_,_,_] _;go_frame;go_big_quiet_step (fail);refine tM (o:=⟨some 11,_,_,_,_,_⟩) rfl 35 9 5 _ rfl D 0 8 32 (d.take 8) l8 rfl fq fu fp (λw hw=>by obtain⟨u,rfl⟩:=hw;exact(u.h.bytes).part 0 8 ω) ?_;go_frame;go_big_quiet_step (fail);refine tM (o:=⟨some 14,_,_,_,_,_⟩) rfl 35 9 5 _ rfl D 8 8 24 ((d.drop 8).take 8) l8' rfl fq fu fp (λw hw=>by obtain⟨u,rfl⟩:=hw;exact(u.h.bytes).part 8 8 ω) ?_;go_frame;refine fe ?_;have r4:=Ic.drew;have RK4:=η RK3.o.drew;have BK4:=η BK3.o.drew;clear Ic RK3 BK3;generalize w3.drew=w4 at r4 RK4 BK4|-;have W1:=yn (d.take 8) ω ω w4;have W2:=yn ((d.drop 8).take 8) ω ω w4;rw[List.take_take,Nat.min_self]at W1 W2;have V1:=η W1;have V2:=η W2;clear W1 W2;refine gI.one 2 _ κ rfl rfl ?_;try go_frame
 go_wp2_with fail;refine V1.o.mono ?_;rintro e w5⟨rfl,rfl⟩;go_wp2_with fail;refine⟨gI.gF r4,?_⟩;refine gI.one 5 _ κ rfl rfl ?_
 try go_frame
 go_wp2_with fail;refine V2.o.mono ?_;rintro e w5⟨rfl,rfl⟩;go_wp2_with fail;refine⟨gI.gF r4,?_⟩;refine gI.one 6 _ κ rfl rfl ?_
 try go_frame
 go_wp2_with fail;refine⟨gI.gF r4,?_⟩;refine gI.one 7 _ κ rfl rfl ?_
 have r5:=r4.gX (g:=w.heap.size) ω (iu d).toArray;have K5:=RK4.o.setRow (iu d);have B5:=η (below_setRow BK4.o ν (iu d).toArray);have hrk:=RK4.o;refine gJ (o:=⟨none,_,_,_,_,_⟩) rfl _ _ _ rfl w.heap.size [.int .u64 0,.int .u64 0] (iu d) rfl rfl hrk (Gr.trans rfl) rfl rfl ?_;refine⟨gI.gF r5,?_⟩;refine fg κ ?_ 0;go_wp2_with fail;obtain⟨T2,GH⟩:=K5;exact bodyPost_ret (v:=.agg (iu d).toArray) (fH (fn:=Tryz.f37) rfl _ _ w.heap.size T2 _ (0,0) _ rfl GH underlying89 rfl (Gr.trans rfl)) rfl ⟨by rw[HD.o],B5.o⟩
def aoB w:(Instr.makeSlice 35 (.int .i64 (6:Nat)) (.int .i64 (6:Nat))).run prog w=.ok (.slice (some ⟨w.heap.size,0,none⟩) 6 6) (w.alloc (.cells (w8 (List.replicate 6 0)).toArray 5)):=κ
def KR kd d w(hd:d.length=32):Calls prog 39 #[.agg (iu kd).toArray,.agg (w8 d).toArray] w λe w'=>e=.returned (.string (str (En.six (iE.UN (En.Gq kd) (En.Gp kd) d))))/\Below w.heap.size w w':=by
 have rK:Row ((w.alloc (.cells (iu kd).toArray 89)).alloc (.cells (w8 d).toArray 76)) w.heap.size (iu kd):=(Row.new w (iu kd) _).alloc _;have rD:Row ((w.alloc (.cells (iu kd).toArray 89)).alloc (.cells (w8 d).toArray 76)) (w.heap.size+1) (w8 d):=by have:=Row.new (w.alloc (.cells (iu kd).toArray 89)) (w8 d) 76;rwa[World.size_alloc]at this
 have hB:Below w.heap.size w ((w.alloc (.cells (iu kd).toArray 89)).alloc (.cells (w8 d).toArray 76)):=((Below.refl _ _).alloc ν _).alloc ζ _;go_enter func39,ntmps39;go_upto_region 1 with fail;generalize(w.alloc _).alloc _=w1 at rK rD hB|-;obtain⟨K,hK⟩:∃K,w.heap.size=K:=⟨_,rfl⟩;rw[hK]at rK rD|-;have Av:∀u:gI.Of (λu=>Row u K (iu kd)/\Row u (K+1) (w8 d)),u.w.cell? ⟨K,0,none⟩=some (.int .u64 (U (En.Gq kd))):=λu=>u.h.1.cell 0;have DK:∀u:gI.Of (λu=>Row u K (iu kd)/\Row u (K+1) (w8 d)),u.w.cell? ⟨K,1,none⟩=some (.int .u64 (U (En.Gp kd))):=λu=>u.h.1.cell 1;haveI iZ:Nonempty (gI.Of (λu=>Row u K (iu kd)/\Row u (K+1) (w8 d))):=⟨⟨w1,rK,rD⟩⟩;refine gI.jl [0,1,2,3,4,5] 2 mixed κ rfl rfl θ ξ rfl (λu=>Row u K (iu kd)/\Row u (K+1) (w8 d)) ⟨rK.drew,rD.drew⟩ ?_;show wpQuiet _ _ _ _ [_,_,_,_,_,_] _;iterate 5 (go_big_quiet_step (fail))
 refine tM (o:=⟨some 13,_,_,_,_,_⟩) rfl 35 9 5 _ rfl (K+1) 0 32 32 d hd rfl fq fu fp (λw hw=>by obtain⟨u,rfl⟩:=hw;exact u.h.2.bytes) ?_;go_frame;refine fe ?_;have r4:=rK.drew;have r5:=rD.drew;have B4:=η hB.drew;have T1:=η (SW (En.Gq kd) (En.Gp kd) d ω w1.drew);have hzK:=r5.lt;clear Av DK rK rD hB;generalize w1.drew=w4 at r4 r5 B4 T1 hzK|-;refine gI.one 6 _ κ rfl rfl ?_;try go_frame
 go_wp2_with fail;refine T1.o.mono ?_;clear T1;rintro e w5⟨rfl,oN⟩;have B5:=η (B4.o.trans (oN.mono B4.o.size));have r6:=r4.below oN ω
 have r7:=r5.below oN hzK;clear oN r4 r5 B4 hzK;obtain⟨x,hx⟩:∃x,iE.UN (En.Gq kd) (En.Gp kd) d=x:=⟨_,rfl⟩;have HX:=η hx;rw[hx];clear hx;go_wp2_with fail;refine⟨gI.gF ⟨r6,r7⟩,?_⟩;refine gI.one 7 _ κ rfl rfl ?_;try go_frame
 go_wp2_with fail;refine⟨gI.gF ⟨r6,r7⟩,?_⟩;refine fg κ ?_ 0
 have hR:Row (w5.alloc (.cells (w8 [0,0,0,0,0,0]).toArray 5)) w5.heap.size (w8 [0,0,0,0,0,0]):=Row.new w5 _ _;have hB:Below w5.heap.size w5 (w5.alloc (.cells (w8 [0,0,0,0,0,0]).toArray 5)):=(Below.refl _ _).alloc ν _;have DL:∀w:World,(Instr.makeSlice 35 (.int .i64 6) (.int .i64 6)).run prog w=.ok (.slice (some ⟨w.heap.size,0,none⟩) 6 6) (w.alloc (.cells (w8 [0,0,0,0,0,0]).toArray 5)):=aoB;clear r6 r7;go_wp2_with fail;generalize w5.alloc _=w6 at hR hB|-;have H1:=η hR;have H2:=η hB;clear hR hB DL;go_loopw [7,18] (λjv iv wr=>∃(i:Nat)(L:List UInt8),i<=6/\iv=.int .i64 i/\L.length=6/\Row wr w5.heap.size (w8 L)/\Below w5.heap.size w5 wr/\∀j,j<i->nth L j=nth (Wr.low x.toNat 6) j) (λ_ iv _=>6-(intOf iv).toNat);exact⟨0,[0,0,0,0,0,0],by omega,rfl,rfl,H1.o,H2.o,λj hj=>by omega⟩;clear H1 H2;obtain⟨i,L,hi,rfl,hL,hR,hB,hj⟩:=hrel;by_cases gV:i<6;have p1:(i:Int)<6:=by omega
 have h8:0<=8*(i:Int):=ω;have e1:=JH x i;have e2:=Wr.Vs x.toNat 6 i gV;have pV:=hR.cell i;rw[pO L i ω]at pV;have hz:=hR.free i;obtain⟨y,hy⟩:∃y,(shr x (8*i)).toUInt8=y:=⟨_,rfl⟩;rw[hy]at e1;rw[<-e1]at e2;have S1:=η (show Row (wr.setCell ⟨w5.heap.size,i,none⟩ (.int .u8 (Y y))) w5.heap.size (w8 (L.set i y))from by rw[<-yq];exact hR.set i _);have S2:=η (show Below w5.heap.size w5 (wr.setCell ⟨w5.heap.size,i,none⟩ (.int .u8 (Y y)))from hB.setCell ν _);have S3:=η (show∀j,j<i+1->nth (L.set i y) j=nth (Wr.low x.toNat 6) j from λj Qm=>by rw[Vi L i j y ω];split;rename_i h;subst h;rw[e2];exact hj j ω);exact t043;obtain rfl:i=6:=by omega
 have IQ:=hR.bytes;have e:=Vt L x.toNat 6 hL hj;subst e;have B6:=η (B5.o.trans (hB.mono B5.o.size));clear hB hR hj;go_wp2_with (with_reducible refine tF (o:=⟨some 31,_,_,_,_,_⟩) rfl _ _ _ _ rfl w5.heap.size 0 6 6 (Wr.low x.toNat 6) (Wr.jx _ _) rfl fq fu fp IQ ?_);go_ret;exact⟨by rw[HX.o];rfl,B6.o⟩
end
section
open iz
namespace Cp
open Wr En
abbrev B:=List UInt8
structure RS where
 header:B
 jX:List B
 missing:List Nat
def idle:RS:=⟨[],[],[]⟩
def rz(f:B->B)(P:List B)(s:B):List B:=P.filter λt=>f t==s
def fill(f:B->B)(P:List B)(gB:List (Nat×B)):Nat->Nat->List B->List B×List Nat
 |0,_,_=>([],[])|n+1,i,ss=>match gB.lookup i with
  |some t=>(t::(fill f P gB n (i+1) ss).1,(fill f P gB n (i+1) ss).2)
  |none=>match rz f P (ss.headD [])with
   |[t]=>(t::(fill f P gB n (i+1) ss.tail).1,(fill f P gB n (i+1) ss.tail).2)
   |_=>([]::(fill f P gB n (i+1) ss.tail).1,i::(fill f P gB n (i+1) ss.tail).2)
def finish(h:B)(ts:List B):Nat×B:=if(Mk.root (ts.map Mk.gC) false).2=true∨(Mk.root (ts.map Mk.gC) false).1≠(h.drop 36).take 32 then(3,[])else(2,h++(jT ts.length++ts.flatten))
def request(h:B)(is:List Nat):B:=Mk.gC h++jT is.length++(oI 0 (is.map λ(i:Nat)=>(i:Int))).flatten
def compact(P:List B)(l:B):(Nat×B)×Nat×RS:=
 match iX l with
 |.bad e=>((0,[]),e,idle)
 |.ok c _=>if¬c.gA.Nodup then((3,[]),0,idle)else
  let r:=fill (short c.header c.ie) P c.gB (c.gA.length+c.gB.length) 0 c.gA
  if r.2=[]then(finish c.header r.1,0,idle)else((1,request c.header r.2),0,⟨c.header,r.1,r.2⟩)
def put(ts:List B):List Nat->List B->List B
 |i::is,t::us=>put (ts.set i t) is us|_,_=>ts
def nT(s:RS)(l:B):(Nat×B)×Nat×RS:=
 match ko l with
 |.bad e=>((0,[]),e,s)
 |.ok (n,ts) _=>if s.missing=[]then((0,[]),8,s)else if n≠Mk.gC s.header then((0,[]),6,s)else if ts.length≠s.missing.length then((0,[]),7,s)else
  (finish s.header (put s.jX s.missing ts),0,idle)
theorem qP:∀is us ts,(put ts is us).length=ts.length
 |[],us,ts=>by cases us<;>rfl
 |_::_,[],_=>rfl|i::is,t::us,ts=>by rw[put,qP is us];simp
end Cp
end
section
open Go.RowKit iz
theorem JZ:∀al lo i,((En.oI lo al).getD i []).length<=9
 |[],lo,i=>by simp[En.oI]|a::al,lo,0=>by simp[En.oI];exact k7 _|a::al,lo,i+1=>by have:=JZ al (a+1) i;simpa[En.oI]using this
def Ce h v ts B w(ho:w.ownsRow B 78 33 v ts.length (il ts))(hs:∀t∈ts,t.length<=610)(hn:ts.length<=1000)(hl:h.length<=1000):Calls prog 89 #[.agg #[.string (str h),v]] w λe w'=>e=.returned (.string (str (h++Mk.m7 ts)))/\Below w.heap.size w w':=by
 have HS:=η hs;have JO:=pC ho;have IJ:(Mk.m7 ts).length<=700000:=by have:=yO ts hs;have:=k7 ts.length;unfold Mk.m7;rw[ai];omega
 obtain⟨ad,cap,rfl⟩:=gZ ho;have r1:Row (w.alloc (.cells #[.string (str h),.slice ad ts.length cap] 83)) w.heap.size [.string (str h),.slice ad ts.length cap]:=Row.new w [.string (str h),.slice ad ts.length cap] _;have hB:Below w.heap.size w (w.alloc (.cells #[.string (str h),.slice ad ts.length cap] 83)):=(Below.refl _ _).alloc ν _;have O1:=η (ho.alloc (.cells #[.string (str h),.slice ad ts.length cap] 83));generalize hJ:Mk.m7 ts=jj at IJ|-;clear ho hs;go_enter func89,ntmps89;go_upto_region 1 with fail;generalize w.alloc _=w1 at r1 hB O1|-;generalize hA:w.heap.size=A at *;have Av:∀u:gI.Of (λu=>Row u A [.string (str h),.slice ad ts.length cap]),u.w.cell? ⟨A,0,none⟩=some (.string (str h)):=λu=>u.h.cell 0;have DK:∀u:gI.Of (λu=>Row u A [.string (str h),.slice ad ts.length cap]),u.w.cell? ⟨A,1,none⟩=some (.slice ad ts.length cap):=λu=>u.h.cell 1;haveI iZ:Nonempty (gI.Of (λu=>Row u A [.string (str h),.slice ad ts.length cap])):=⟨⟨w1,r1⟩⟩;refine gI.jl [0,1,2,3] 3 mixed κ rfl rfl θ ξ rfl (λu=>Row u A [.string (str h),.slice ad ts.length cap]) r1.drew ?_;show wpQuiet _ _ _ _ [_,_,_,_] _;repeat(go_big_quiet_step (fail))
 refine fe ?_;have r2:=r1.drew;have B2:=η hB.drew;have T1:=η (SN (.slice ad ts.length cap) ts B w1.drew O1.o HS.o hn);rw[hJ]at T1;have hz:=r2.lt;clear r1 hB O1;generalize w1.drew=w2 at r2 B2 T1 hz|-;refine gI.one 4 _ κ rfl rfl ?_;try go_frame
 go_wp2_with fail;refine T1.o.mono ?_;clear T1;rintro e w3⟨rfl,hb⟩;have r3:=r2.below hb hz;have B3:=η (B2.o.trans (hb.mono ω))
 clear hb;go_wp2_with fail;refine⟨gI.gF r3,?_⟩;refine gI.one 5 _ κ rfl rfl ?_;try go_frame
 go_wp2_with fail;refine⟨gI.gF r3,?_⟩;refine gI.one 6 _ κ rfl rfl ?_
 try go_frame
 go_wp2_with fail;refine⟨gI.gF r3,?_⟩;refine fg κ ?_ 0
 go_wp2_with fail;go_ret;exact⟨rfl,by rw[hA];exact B3.o⟩
def E9 h v al N w(ha:sA w v al)(hr:En.Ht N 0 al)(hN:N<=16)(hal:al.length<=16)(hl:h.length<=100):Calls prog 48 #[.agg #[.string (str h),v]] w λe w'=>e=.returned (.string (str (h++Wr.jT al.length++(En.oI 0 al).flatten)))/\Below w.heap.size w w':=by
 obtain⟨aa,ac,rfl⟩:=ha.form;have rA:Row (w.alloc (.cells #[.string (str h),.slice aa al.length ac] 105)) w.heap.size [.string (str h),.slice aa al.length ac]:=Row.new w [.string (str h),.slice aa al.length ac] _;have hB:Below w.heap.size w (w.alloc (.cells #[.string (str h),.slice aa al.length ac] 105)):=(Below.refl _ _).alloc ν _;have HA:=η ha;have HR:=η hr;have q2:IntKind.u64.wrap (al.length:Int)=al.length:=by rw[k6,oO];omega
 have kS:=k7 al.length;clear ha hr;go_enter func48,ntmps48;go_upto_region 1 with fail;generalize w.alloc _=w1 at rA hB|-;obtain⟨A,hA⟩:∃A,w.heap.size=A:=⟨_,rfl⟩;rw[hA]at rA|-;have Av:∀u:gI.Of (λu=>Row u A [.string (str h),.slice aa al.length ac]),u.w.cell? ⟨A,0,none⟩=some (.string (str h)):=λu=>u.h.cell 0;have DK:∀u:gI.Of (λu=>Row u A [.string (str h),.slice aa al.length ac]),u.w.cell? ⟨A,1,none⟩=some (.slice aa al.length ac):=λu=>u.h.cell 1;haveI iZ:Nonempty (gI.Of (λu=>Row u A [.string (str h),.slice aa al.length ac])):=⟨⟨w1,rA⟩⟩;refine gI.jl [0,1,2,3,4,5] 3 mixed κ rfl rfl θ ξ rfl (λu=>Row u A [.string (str h),.slice aa al.length ac]) rA.drew ?_;show wpQuiet _ _ _ _ [_,_,_,_,_,_] _;repeat(go_big_quiet_step (fail))
 refine fe ?_;have r2:=rA.drew;have B2:=η hB.drew;have T1:=η (vr al.length w1.drew ω);have hzA:=r2.lt;clear rA hB Av DK;generalize w1.drew=w2 at r2 B2 T1 hzA|-;refine gI.one 6 _ κ rfl rfl ?_;try go_frame
 go_wp2_with fail;refine T1.o.mono ?_;clear T1;obtain⟨z2,akJ⟩:∃z,Wr.jT al.length=z:=⟨_,rfl⟩;rw[akJ]at kS|-;have Z2:=η akJ;clear akJ;rintro e w3⟨rfl,hb⟩;have r3:=r2.below hb hzA;have B3:=η (B2.o.trans (hb.mono ω))
 have aum:A<w3.heap.size:=by have:=hb.size;omega
 clear hb r2 B2 hzA;have aqB:(h++z2).length<=200:=by rw[ai];omega
 go_wp2_with fail;refine⟨gI.gF r3,?_⟩;refine gI.one 7 _ κ rfl rfl ?_
 try go_frame
 go_wp2_with fail;refine⟨gI.gF r3,?_⟩;refine gI.one 8 _ κ rfl rfl ?_
 try go_frame
 go_wp2_with fail;refine⟨gI.gF r3,?_⟩;refine fg κ ?_ 0
 obtain⟨p1,hP⟩:∃p1,h++z2=p1:=⟨_,rfl⟩;rw[hP]at aqB|-;have HP:=η hP;clear hP;have z7:=r3.cell 1;rw[show [Value.string (str h),.slice aa al.length ac][1]? =some (.slice aa al.length ac)from rfl]at z7;have T2:=η (NQ (.slice aa al.length ac) al N w3 ((HA.o.below B3.o ω)) HR.o ω ω);go_wp2_with fail;refine T2.o.mono ?_;clear T2 z7;rintro e w5⟨gv,rfl,hog,hb⟩;have r5:=r3.below hb aum;have B5:=η (B3.o.trans (hb.mono ω))
 have OG:=η hog;obtain⟨ga,gc,rfl⟩:=gZ hog;clear hb hog;go_wp2_with fail;go_loopw [3,5,18] (λsv xv iv wq=>∃(i:Nat)(s:List UInt8),i<=al.length/\iv=.int .i64 i/\sv=.string (str s)/\s.length<=200+10*i/\s=p1++((En.oI 0 al).take i).flatten/\wq=w5) (λ_ _ iv _=>al.length-(intOf iv).toNat);exact⟨0,p1,by omega,rfl,rfl,by omega,by simp,rfl⟩;obtain⟨i,s,hi,rfl,rfl,hsn,VI,rfl⟩:=hrel;have HE:=η VI;clear VI;by_cases gV:i<al.length
 ·have p2:(i:Int)< (al.length:Int):=by omega
  obtain⟨g,Cc,VD,_,hg,q8⟩:=jQ OG.o (by omega:0<al.length);cases VD;have hgi:i< (En.oI 0 al).length:=by rw[En.rR];exact gV
  have HT1:=η (AK (En.oI 0 al) i hgi);have hc:wr.cell? ⟨g,i,none⟩=some (.string (str ((En.oI 0 al).getD i []))):=by rw[<-wtq _ i hgi,<-q8 i (by simp[wt,En.rR];omega)]
  have hg9:=JZ al 0 i;obtain⟨t,het⟩:∃t,(En.oI 0 al).getD i []=t:=⟨_,rfl⟩;rw[het]at hg9 HT1 hc;clear q8 het;go_wp2_with fail;go_roundw
  ·exact⟨i+1,s++t,by omega,by go_num,rfl,by rw[ai];omega,by rw[HE.o,HT1.o,aL],by first|trivial|rfl⟩
  simp[intOf];omega
 obtain rfl:i=al.length:=by omega
 have HE2:=η (show s=p1++(En.oI 0 al).flatten by rw[HE.o,au (by rw[En.rR];exact ν)]);clear HE;go_wp2_with fail;go_ret;exact⟨by rw[Z2.o,HP.o];exact congrArg (λx=>Ending.returned (.string (str x))) HE2.o,B5.o⟩
end
def t085{p:Prop}(h:p:=by go_wp2_with fail;refine(lq 4 _).mono ?_;rintro e w3⟨rfl,rfl⟩;exact⟨rfl,RPx.jn (k:=4) E1.o B2.o⟩):p:=h
def t065{p:Prop}(h:p:=by rintro e w2⟨rfl,kD⟩;exact⟨rfl,show RPc (.bad k) b C h n sv av tv ts Bs w _ _ from⟨rfl,HK.o.trans (ik.lG kD (.inl rfl))⟩⟩):p:=h
def t01{p:Prop}(h:p:=by
 refine⟨S3,?_⟩;refine gI.one 5 _ κ rfl rfl ?_;refine wpList_append_own _ rfl _ _ 42 rfl Bs 78 i0 (.agg j1.toArray) 33 48 fT HI.o mJ mC kS aIO ψ _ _ _ rfl (O2.o.alloc _) ⟨w2.heap.size,0,none⟩ 1 1 (gD t) rfl aGK L1.o (λu hu=>List.all_eq_true.1 (iV t) u hu) ι ω χ ?_;intro tv2 w3 iM jF _;have Tf:=(O2.o.alloc (.cells (gD t).toArray 78)).lt;have mK:Below Bs w2 w3:=((Below.refl Bs w2).alloc zP _).grown jF χ (λk hk=>(Tf k hk).1);have D3:=D2.o.below mK hcB;have C3:=C2.o.below mK hCB;have R3:=R2.o.below mK hbB;have K3:ik (Tn b C tv) w w3:=K2.o.trans ⟨jF.os,jF.tape,jF.output,by have:=jF.size;rw[World.size_alloc]at this;omega,λk hk ho=>(jF.block k χ (λhh=>ho (.inr (.inr hh.symm)))).trans (fM _ _ _ hk)⟩;obtain⟨pa,pc,rfl⟩:=gZ iM;refine⟨gI.gF D3,?_⟩;refine gI.one 6 _ κ rfl rfl ?_;try go_frame
 go_wp2_with fail;refine⟨gI.gF D3,?_⟩;refine gI.one 7 _ κ rfl rfl ?_
 have Em:=C3.free 4;have hc5:=C3.cell 4;have C4:=η (C3.set 4 (.slice pa (ts.length+1) pc));have O4:=η (iJ (a:=⟨C,4,none⟩) iM (.slice pa (ts.length+1) pc) hCB);have R4:=η (R3.other (a:=⟨C,4,none⟩) (aG hbC) (.slice pa (ts.length+1) pc));have K4:=η (K3.set ⟨C,4,none⟩ (.slice pa (ts.length+1) pc) (.inr (.inl rfl)));have S4:gI.cls (λu=>Row u c1 [.pointer (some ⟨b,0,none⟩)]) (w3.setCell ⟨C,4,none⟩ (.slice pa (ts.length+1) pc)):=gI.gF (D3.other (a:=⟨C,4,none⟩) (aG hC1) _);clear iM jF mK D3 C3 R3 K3;try go_frame
 go_wp2_with fail;refine⟨S4,?_⟩;refine fg κ ?_ 0
 try go_frame
 go_wp2_with fail;refine bodyPost_end (fN rfl _ _ _) rfl ?_;rw[HX.o];exact show RPc (.ok t r) b C h n sv av tv ts Bs w _ _ from⟨rfl,⟨_,C4.o,by rw[<-mr];exact O4.o⟩,R4.o,K4.o⟩):p:=h
section
open Go.RowKit iz
def ik.AL{O w w'}(h:ik O w w')(hT:km w)(h0:¬O 0)(h1:¬O 1):km w':=⟨h.row hT.1 h0,h.row hT.2 h1⟩
def ik.own{O w w' B n e z v xs}(hk:ik O w w')(h:w.ownsRow B e z v n xs)(hO:∀k,v.ownBlock=some k->¬O k):w'.ownsRow B e z v n xs:=by refine⟨h.1,?_⟩;rcases h.2 with h|⟨g,cap,cur,rfl,h1,h2,h3⟩;exact .inl h;exact .inr ⟨g,cap,cur,rfl,h1,by rw[hk.block g (ae.1 h2).1 (hO g rfl)];exact h2,h3⟩
def nI{w:World}{B B' n m e e' z z' v u xs ys}(h:w.ownsRow B e z v n xs)(k:w.ownsRow B' e' z' u m ys)(he:e≠e'):v.ownBlock=none∨v.ownBlock≠u.ownBlock:=by
 rcases h.2 with⟨rfl,_⟩|⟨g,cap,cur,rfl,_,hg,_⟩;exact .inl rfl;refine .inr λhh=>?_;rcases k.2 with⟨rfl,_⟩|⟨g',Cc,aEm,rfl,_,Ti,_⟩;cases hh;have:g=g':=by simpa[Value.ownBlock]using hh
 subst this;rw[hg]at Ti;cases Ti;exact he rfl
def cc(h n:List UInt8)(sv av tv:Value):List Value:=[.string (str h),.string (str n),sv,av,tv]
def jC:(prog.info? 87).map (·.size)=some 5:=κ
def Tn(b C:Nat)(tv:Value)(k:Nat):Prop:=k=b∨k=C∨tv.ownBlock=some k
def RPc(x:Wr.R (List UInt8))(b C:Nat)(h n:List UInt8)(sv av tv:Value)(ts:List (List UInt8))(Bs:Nat)(w:World)(e:Ending)(w':World):Prop:=match x with
 |.ok t r=>e=.returned (.tuple #[])/\(∃tv',Row w' C (cc h n sv av tv')/\w'.ownsRow Bs 78 33 tv' (ts.length+1) (il (ts++[t])))/\Row w' b [.string (str r)]/\ik (Tn b C tv) w w'
 |.bad k=>e=.panicked (oF (k:Int))/\ik (Tn b C tv) w w'
def XQ b c1 C Bs l h n sv av tv ts w(hT:km w)(vR:1<b)(hr:Row w b [.string (str l)])(hl:l.length<=9223372036854775807) (qZ:Row w c1 [.pointer (some ⟨b,0,none⟩)]) (hC:Row w C (cc h n sv av tv)) (iB:w.ownsRow Bs 78 33 tv ts.length (il ts)) (hts:ts.length<=1000) (hCB:C<Bs) (hbB:b<Bs) (hcB:c1<Bs) (Mt:Bs<=w.heap.size) (hbC:b≠C) (m0:c1≠b) (hC1:c1≠C):Calls prog 83 #[.pointer (some ⟨C,0,none⟩),.pointer (some ⟨c1,0,none⟩)] w (RPc (Wr.tx l) b C h n sv av tv ts Bs w):=by
 obtain⟨i0,kV,mJ,mC,kS⟩:=fy El;have HI:=η kV;have hb:=hr.lt;have hCl:=hC.lt;have H1:=η qZ;have HC:=η hC;have HO:=η iB;have HR:=η hr;have T0:=η (EG b l w.drew hT vR hr.drew hl);clear kV hr qZ hC iB hT;go_enter func83,ntmps83;have hu:∀u:gI.Of (λu=>Row u c1 [.pointer (some ⟨b,0,none⟩)]),u.w.cell? ⟨c1,0,none⟩=some (.pointer (some ⟨b,0,none⟩)):=λu=>u.h.cell 0;haveI iZ:Nonempty (gI.Of (λu=>Row u c1 [.pointer (some ⟨b,0,none⟩)])):=⟨⟨w,H1.o⟩⟩;refine gI.jl [0,2] 6 mixed κ rfl rfl θ ξ rfl (λu=>Row u c1 [.pointer (some ⟨b,0,none⟩)]) H1.o.drew ?_;show wpQuiet _ _ _ _ [_,_] _;repeat(go_big_quiet_step (fail))
 refine fe ?_;clear hu;have H1d:=η H1.o.drew;have HCd:=η HC.o.drew;have HOd:=η (show w.drew.ownsRow Bs 78 33 tv ts.length (il ts)from HO.o);have HK:=η ((ik.refl (Tn b C tv) w).drew);have hBd:Bs<=w.drew.heap.size:=Mt;have z7:=HCd.o.cell 4;rw[show(cc h n sv av tv)[4]? =some tv from rfl]at z7;have S0:gI.cls (λu=>Row u c1 [.pointer (some ⟨b,0,none⟩)]) w.drew:=gI.gF H1d.o;clear H1 HC HO HR;generalize w.drew=w1 at T0 H1d HCd HOd HK hBd z7 S0|-;refine gI.two 1 3 _ _ κ rfl rfl rfl rfl ?_ ?_
 ·try go_frame
  go_wp2_with fail;refine⟨S0,?_⟩;refine gI.one 3 _ κ rfl rfl ?_
  try go_frame
  go_wp2_with fail;refine T0.o.mono ?_;cases hx:Wr.tx l with
  |bad k=>exact t065|ok t r=>
  rintro e w2⟨rfl,qX,kD⟩;have K2:=η (HK.o.trans (ik.lG kD (.inl rfl)));have R2:=η qX;have O2:=η (ju HOd.o kD hbB);have C2:=η (kD.row HCd.o HCd.o.lt (aG hbC));have D2:=η (kD.row H1d.o H1d.o.lt m0);have zP:Bs<=w2.heap.size:=ak hBd kD.size;have alA:=C2.o.cell 4;rw[show(cc h n sv av tv)[4]? =some tv from rfl]at alA;have alz:=(C2.o.alloc (.cells (gD t).toArray 78)).cell 4;rw[show(cc h n sv av tv)[4]? =some tv from rfl]at alz;have S2:gI.cls (λu=>Row u c1 [.pointer (some ⟨b,0,none⟩)]) w2:=gI.gF D2.o;have S3:gI.cls (λu=>Row u c1 [.pointer (some ⟨b,0,none⟩)]) (w2.alloc (.cells (gD t).toArray 78)):=gI.gF (D2.o.alloc _);have L1:=η (show∀(j:Nat)(u:Value),(gD t)[j]? =some u->(w2.alloc (.cells (gD t).toArray 78)).cell? (Addr.add ⟨w2.heap.size,0,none⟩ j)=some u from λj u hu=>by rw[fJ,aC,(Row.new w2 _ _).cell];exact hu);have HX:=η hx;clear qX kD HK HOd HCd H1d hx z7 T0;try go_frame
  go_wp2_with fail;refine⟨S2,?_⟩;refine gI.one 4 _ κ rfl rfl ?_
  refine qI rfl _ rfl t rfl ?_;exact t01
 try go_frame
 go_wp2_with fail;refine T0.o.mono ?_;cases hx:Wr.tx l with
 |bad k=>exact t065|ok t r=>
 rintro e w2⟨rfl,qX,kD⟩;have K2:=η (HK.o.trans (ik.lG kD (.inl rfl)));have R2:=η qX;have O2:=η (ju HOd.o kD hbB);have C2:=η (kD.row HCd.o HCd.o.lt (aG hbC));have D2:=η (kD.row H1d.o H1d.o.lt m0);have zP:Bs<=w2.heap.size:=ak hBd kD.size;have alA:=C2.o.cell 4;rw[show(cc h n sv av tv)[4]? =some tv from rfl]at alA;have alz:=(C2.o.alloc (.cells (gD t).toArray 78)).cell 4;rw[show(cc h n sv av tv)[4]? =some tv from rfl]at alz;have S2:gI.cls (λu=>Row u c1 [.pointer (some ⟨b,0,none⟩)]) w2:=gI.gF D2.o;have S3:gI.cls (λu=>Row u c1 [.pointer (some ⟨b,0,none⟩)]) (w2.alloc (.cells (gD t).toArray 78)):=gI.gF (D2.o.alloc _);have L1:=η (show∀(j:Nat)(u:Value),(gD t)[j]? =some u->(w2.alloc (.cells (gD t).toArray 78)).cell? (Addr.add ⟨w2.heap.size,0,none⟩ j)=some u from λj u hu=>by rw[fJ,aC,(Row.new w2 _ _).cell];exact hu);have HX:=η hx;clear qX kD HK HOd HCd H1d hx z7 T0;try go_frame
 go_wp2_with fail;refine⟨S2,?_⟩;refine gI.two 1 4 _ _ κ rfl rfl rfl rfl ?_ ?_
 ·try go_frame
  go_wp2_with fail;refine⟨S2,?_⟩;refine gI.one 4 _ κ rfl rfl ?_
  refine qI rfl _ rfl t rfl ?_;exact t01
 refine qI rfl _ rfl t rfl ?_;refine⟨S3,?_⟩;refine gI.one 1 _ κ rfl rfl ?_;try go_frame
 go_wp2_with fail;exact t01
def Bc(b C:Nat)(k:Nat):Prop:=k=b∨k=C
def ik.step{b C Bs:Nat}{w w1 w2 tv}(h:ik (Bc b C) w w1)(k:ik (Tn b C tv) w1 w2)(hB:∀j,tv.ownBlock=some j->w.heap.size<=j):ik (Bc b C) w w2:=⟨k.os.trans h.os,k.tape.trans h.tape,k.output.trans h.output,ak h.size k.size,λj hj ho=>(k.block j (ay hj h.size) (λhh=>by rcases hh with hh|hh|hh;exact ho (.inl hh);exact ho (.inr hh);have:=hB j hh;omega)).trans (h.block j hj ho)⟩
def ik.LM{b C w w1 w2}(h:ik (Bc b C) w w1)(k:Below w.heap.size w1 w2):ik (Bc b C) w w2:=⟨k.os.trans h.os,k.tape.trans h.tape,k.output.trans h.output,ak h.size k.size,λj hj ho=>(k.block j hj).trans (h.block j hj ho)⟩
def ik.TQ{b C w w1 w2}(h:ik (Bc b C) w w1)(k:iL w.heap.size b w1 w2):ik (Bc b C) w w2:=⟨k.os.trans h.os,k.tape.trans h.tape,k.output.trans h.output,ak h.size k.size,λj hj ho=>(k.block j hj (λe=>ho (.inl e))).trans (h.block j hj ho)⟩
def zE(ps:List (Nat×List UInt8)):List Nat:=ps.map (·.1)
def wN(ps:List (Nat×List UInt8)):List (List UInt8):=ps.map (·.2)
def NY ps i t:zE (ps++[(i,t)])=zE ps++[i]:=by simp[zE]
def NV ps i t:wN (ps++[(i,t)])=wN ps++[t]:=by simp[wN]
def RPx(x:Wr.R (List (Nat×List UInt8)))(b C:Nat)(h n:List UInt8)(sv av:Value)(w:World)(e:Ending)(w':World):Prop:=match x with
 |.ok ps r=>∃v tv,e=.returned v/\w'.ownsRow w.heap.size 3 1 v ps.length (yo (zE ps))/\Row w' C (cc h n sv av tv)/\w'.ownsRow w.heap.size 78 33 tv ps.length (il (wN ps))/\Row w' b [.string (str r)]/\ik (Bc b C) w w'
 |.bad k=>e=.panicked (oF (k:Int))/\ik (Bc b C) w w'
def RPx.jn{x:Wr.R (List (Nat×List UInt8))}{b C h n sv av w w' k}(hx:x=.bad k)(h2:ik (Bc b C) w w'):RPx x b C h n sv av w (.panicked (oF (k:Int))) w':=by subst hx;exact⟨rfl,h2⟩
def Ga{w w' b C Bs n m v tv xs ys e e' z z'}(h:w.ownsRow Bs e z v n xs)(k:w.ownsRow Bs e' z' tv m ys)(he:e≠e')(hk:ik (Tn b C tv) w w')(hb:b<Bs)(hC:C<Bs):w'.ownsRow Bs e z v n xs:=hk.own h λj hj ho=>by have:=(h.lt j hj).1;rcases ho with rfl|rfl|ho;omega;omega;rcases nI h k he with h0|h0;rw[hj]at h0;cases h0;rw[hj,ho]at h0;exact h0 rfl
def Gu(b c1 C n B:Nat) l h nn sv0 av0 w(hT:km w)(vR:1<b)(hr:Row w b [.string (str l)])(hl:l.length<=9223372036854775807) (qZ:Row w c1 [.pointer (some ⟨b,0,none⟩)]) (hC:Row w C (cc h nn sv0 av0 (.slice none 0 0))) (hn:n<=1000) (hBd:B<=1000) (h1C:1<C) (hbC:b≠C) (m0:c1≠b) (hC1:c1≠C):Calls prog 82 #[.pointer (some ⟨b,0,none⟩),.int .i64 n,.int .i64 B,.func (.func 83) #[] #[.pointer (some ⟨C,0,none⟩),.pointer (some ⟨c1,0,none⟩)]] w (RPx (Wr.iG B n 0 l) b C h nn sv0 av0 w):=by
 obtain⟨i0,kV,mJ,mC,kS⟩:=fy zO;have HI:=η kV;have hb:=hr.lt;have hCl:=hC.lt;have tu:=qZ.lt;have HR:=η hr;have HC:=η hC;have HT:=η hT;have H1:=η qZ;have q1:U (lO (B:Int))=(B:Int):=by rw[rk];omega
 have q2:IntKind.u64.wrap (B:Int)=(B:Int):=by rw[k6,oO];omega
 clear hr kV hT qZ hC;go_enter func82,ntmps82;go_wp2_with fail;go_loopw [9,10,11,13] (λsv nv dv iv wr=>∃(i nx:Nat)(ps:List (Nat×List UInt8))(ri:List UInt8)(tv:Value),i<=n/\nx<=B/\iv=.int .i64 i/\nv=.int .u64 nx/\ps.length=i/\wr.ownsRow w.heap.size 3 1 sv ps.length (yo (zE ps))/\Row wr C (cc h nn sv0 av0 tv)/\wr.ownsRow w.heap.size 78 33 tv ps.length (il (wN ps))/\Row wr b [.string (str ri)]/\ik (Bc b C) w wr/\ri.length<=l.length/\Wr.iG B n 0 l=(Wr.iG B (n-i) nx ri).map (λus=>ps++us)) (λ_ _ _ iv _=>n-(intOf iv).toNat)
 exact⟨0,0,[],l,_,by omega,by omega,rfl,rfl,rfl,fc _ _ _ _,HC.o,fc _ _ _ _,HR.o,ik.refl _ _,ν,by rw[eH];exact(Wr.R.map_id _).symm⟩;obtain⟨i,nx,ps,ri,tv,hi,Ax,rfl,rfl,Mn,iB,hrC,OP,oH,hB,hle,hE⟩:=hrel;have A1:=η iB;have A2:=η hB;have A3:=η hrC;have A4:=η OP;have ql:=hB.size;by_cases gV:i<n
 ·have p1:(i:Int)< (n:Int):=by omega
  have E1:=η (show Wr.iG B n 0 l=(((Wr.size ri).bind λd r=>if B<=d∨B<=nx+d then .bad 4 else .ok (nx+d) r).bind λx r=>(Wr.tx r).bind λt r=>(Wr.iG B (n-(i+1)) (x+1) r).map λus=>(x,t)::us).map (λus=>ps++us)by rw[hE,show n-i=(n-(i+1))+1 by omega];rfl);have T1:=η (EN b ri wr oH);have hmx:ps.length<1000:=ω;have Lj:=η Mn;clear iB hB hE oH Mn hrC OP;go_wp2_with fail;refine T1.o.mono ?_;clear T1;cases hx:Wr.size ri with
  |bad k=>rintro e w2⟨rfl,hh⟩;rw[hx]at E1;exact⟨rfl,RPx.jn E1.o (A2.o.TQ (hh.mono ql))⟩
  |ok d r2=>
  rintro e w2⟨rfl,h3,h4⟩;rw[hx,Wr.R.jq]at E1;have B1:=η (ju A1.o h4 hb);have B2:=η (A2.o.TQ (h4.mono ql));have B3:=η (h4.row A3.o A3.o.lt (aG hbC));have B4:=η (ju A4.o h4 hb);have R2:=η h3;have zP:=B2.o.size;have ur:=ak ((Wr.AQ ri).le hx) hle;clear h3 h4 A1 A2 A3 A4 hx;by_cases c1':B<=d;rw[if_pos (.inl c1')]at E1;have p2:(d:Int)≥ (B:Int):=by omega
  exact t085;have p2:¬(d:Int)≥ (B:Int):=by omega
  have q3:U (lO ((nx:Int)+(d:Int)))=((nx+d:Nat):Int):=by rw[rk];omega
  by_cases c2:B<=nx+d;rw[if_pos (.inr c2)]at E1;have p3:(nx:Int)+(d:Int)≥ (B:Int):=by omega
  exact t085;rw[if_neg ω]at E1;have p3:¬(nx:Int)+(d:Int)≥ (B:Int):=ω;have q4:U (lO ((d:Int)+1))=(d:Int)+1:=by rw[rk];omega
  have q5:U (lO ((nx:Int)+((d:Int)+1)))=(nx:Int)+((d:Int)+1):=by rw[rk];omega
  have E2:=η (show Wr.iG B n 0 l=((Wr.tx r2).bind λt r=>(Wr.iG B (n-(i+1)) (nx+d+1) r).map λus=>(nx+d,t)::us).map (λus=>ps++us)from E1.o);clear E1;go_wp2_with (at_builtin;refine wpList_append_own _ rfl _ _ 25 rfl w.heap.size 3 i0 (.int .i64 0) 1 8 fC HI.o mJ mC kS rfl ψ _ _ _ rfl (B1.o.alloc _) ⟨w2.heap.size,0,none⟩ 1 1 [.int .i64 ((nx:Int)+(d:Int))] rfl rfl (cell_one_new _ _ _) aF8 ι ω χ ?_;intro XO w3 iM jF _;have mQ:Below w.heap.size w2 w3:=((Below.refl w.heap.size w2).alloc zP _).grown jF χ (λk hk=>(B1.o.lt k hk).1);have O3:=η iM;have H2:=η mQ;have G3:=η jF;clear iM jF mQ);have O4:=η ((B4.o.alloc (.cells #[.int .i64 ((nx:Int)+(d:Int))] 3)).kept G3.o (nI (B4.o.alloc (.cells #[.int .i64 ((nx:Int)+(d:Int))] 3)) (B1.o.alloc (.cells #[.int .i64 ((nx:Int)+(d:Int))] 3)) ψ));have K3:=η (B2.o.LM H2.o);have RC3:=η (B3.o.below H2.o hCl);have RB3:=η (R2.o.below H2.o hb);have rn:=K3.o.size;have T2:=η (XQ b c1 C w.heap.size r2 h nn sv0 av0 tv (wN ps) w3 (K3.o.AL HT.o aGJ aGJ) vR RB3.o ω (K3.o.row H1.o aGJ) RC3.o (by have:=O4.o;rw[show(wN ps).length=ps.length from bk _];exact this) (by rw[show(wN ps).length=ps.length from bk _];omega) hCl hb tu rn hbC m0 hC1);refine T2.o.mono ?_;clear T2;cases hx:Wr.tx r2 with
  |bad k=>rintro e w4⟨rfl,hh⟩;rw[hx]at E2;exact⟨rfl,RPx.jn E2.o (K3.o.step (Bs:=0) hh (λj hj=>(O4.o.lt j hj).1))⟩
  |ok t r4=>
  rintro e w4⟨rfl,⟨tv',hC4,ho4⟩,tA,hk4⟩;rw[hx,Wr.R.jq]at E2;have E3:=η (show Wr.iG B n 0 l=(Wr.iG B (n-(i+1)) (nx+d+1) r4).map (λus=>(ps++[(nx+d,t)])++us)by rw[E2.o,Wr.R.map_map];congr 1;funext us;simp);have F1:=η (Ga O3.o O4.o ψ hk4 hb hCl);have F2:=η (K3.o.step (Bs:=0) hk4 (λj hj=>(O4.o.lt j hj).1));have F3:=η hC4;have F4:=η ho4;have F5:=η tA;have ag7:=ak ((Wr.Ef r2).le hx) ur;clear hC4 ho4 tA hk4 hx O3 O4 K3 RC3 RB3 E2 B1 B2 B3 B4 R2 H2;go_wp2_with fail;go_roundw
  ·exact⟨i+1,nx+d+1,ps++[(nx+d,t)],r4,tv',by omega,by omega,by go_num,by go_num,by rw[ai,Lj.o];rfl,by rw[ai,NY,<-yZ];exact F1.o,F3.o,by have:=F4.o;rw[show(wN ps).length=ps.length from bk _]at this;rw[ai,NV];exact this,F5.o,F2.o,ag7,E3.o⟩
  simp[intOf];omega
 obtain rfl:i=n:=by omega
 go_wp2_with fail;go_ret;have e0:Wr.iG B i 0 l=.ok ps ri:=by rw[hE,bh];show Wr.R.ok (ps++[]) ri=_;rw[aO]
 rw[e0];exact⟨_,tv,rfl,A1.o,A3.o,A4.o,oH,A2.o⟩
end
def t0127{p:Prop}(h:p:=by rintro e w4⟨rfl,hh⟩;rw[hx]at E2;exact⟨rfl,Wn.jn E2.o (D2.o.bad hh)⟩):p:=h
def t0103{p:Prop}(h:p:=by rintro e w4⟨rfl,hh⟩;rw[hx]at EQ;exact⟨rfl,Wn.jn EQ.o (N3.o.trans (hh.mono N3.o.size))⟩):p:=h
def t0102{p:Prop}(h:p:=by rintro e w3⟨rfl,hh⟩;rw[hx]at EQ;exact⟨rfl,Wn.jn EQ.o (N2.o.trans (hh.mono N2.o.size))⟩):p:=h
def t03{p:Prop}(h:p:=by
 refine gJ rfl _ _ _ rfl C kN (cc t1 t2 (.slice none 0 0) (.slice none 0 0) (.slice none 0 0)) rfl rfl W4.o (jC.trans rfl) rfl rfl ?_;have W5:=η (W4.o.setRow (cc t1 t2 (.slice none 0 0) (.slice none 0 0) (.slice none 0 0)));have C5:=η (C4.o.gX (g:=C) ω (cc t1 t2 (.slice none 0 0) (.slice none 0 0) (.slice none 0 0)).toArray);have X5:=η (X4.o.gX (g:=C) ω (cc t1 t2 (.slice none 0 0) (.slice none 0 0) (.slice none 0 0)).toArray);have R5:=η (R4.o.gX (g:=C) ω (cc t1 t2 (.slice none 0 0) (.slice none 0 0) (.slice none 0 0)).toArray);have N5:=η (N4.o.trans (iL.gL (below_setRow (g:=C) (Below.refl w.heap.size w4) ω (cc t1 t2 (.slice none 0 0) (.slice none 0 0) (.slice none 0 0)).toArray)));refine⟨gI.gF (S:=λu=>Row u w.heap.size [.pointer (some ⟨b,0,none⟩)]) X5.o,?_⟩;refine fg κ ?_ 0;go_wp2_with fail;go_meet
 refine⟨C,t1,t2,r2,rfl,EQ.o,C5.o,X5.o,R5.o,W5.o,GK,N5.o,ur⟩):p:=h
def t02{p:Prop}(h:p:=by
 go_wp2_with fail;refine⟨S3,?_⟩;refine gI.one 7 _ κ rfl rfl ?_
 refine wpList_append_own _ rfl _ _ 28 rfl w2.heap.size 9 is (.string ByteArray.empty) 1 16 underlying28 HI1.o Aw Gx zU rfl ψ _ _ _ rfl (F1.o.alloc _) ⟨w4.heap.size,0,none⟩ 1 1 [.string (str t)] rfl rfl (cell_one_new _ _ _) (kh [t]) ι ω χ ?_;intro sv2 w5 kU so _;have acW:=(F1.o.alloc (.cells #[.string (str t)] 9)).lt;have oN:Below w2.heap.size w4 w5:=((Below.refl w2.heap.size w4).alloc Em _).grown so χ (λk hk=>(acW k hk).1);obtain⟨pa,pc,rfl⟩:=gZ kU;have G2:=F2.o.below oN hC2 hb;refine⟨gI.gF G2.box,?_⟩;refine gI.one 8 _ κ rfl rfl ?_;try go_frame
 go_wp2_with fail;refine⟨gI.gF G2.box,?_⟩;refine gI.one 9 _ κ rfl rfl ?_
 have hz6:=G2.row.free 2;have hc6:=G2.row.cell 2;have H2:=η (G2.ajQ hb (.slice pa (ss.length+1) pc));have H1:=η (iJ (a:=⟨C,2,none⟩) kU (.slice pa (ss.length+1) pc) hC2);have hz7:w2.heap.size<=(w5.setCell ⟨C,2,none⟩ (.slice pa (ss.length+1) pc)).heap.size:=by have:=oN.size;simp[World.setCell];omega
 clear kU so oN G2;try go_frame
 go_wp2_with fail;refine⟨gI.gF H2.o.box,?_⟩;refine fg κ ?_ 0
 try go_frame
 go_wp2_with fail;go_roundw
 ·exact⟨i+1,ss++[t],r4,_,by omega,by go_num,by rw[ai,Lj.o];rfl,by rw[ai,<-kZ];exact H1.o,H2.o,hz7,E2.o⟩
 simp[intOf];omega):p:=h
section
open Go.RowKit iz
namespace Wr
def R.bind_map{α β γ}(x:R α) f(g:β->List UInt8->R γ):(x.map f).bind g=x.bind λa r=>g (f a) r:=by cases x<;>rfl
def cbT(h nc:List UInt8)(ss:List (List UInt8))(r:List UInt8):R Cb:=(kK 0 (16-ss.length) r).bind λm r=>if m+ss.length=0 then .bad 3 else(iG (m+ss.length) m 0 r).map λps=>⟨h,nc,ss,ps⟩
def cbS(h nc:List UInt8)(r:List UInt8):R Cb:=(kK 0 16 r).bind λn r=>(jK 6 n r).bind λss r=>cbT h nc ss r
def cbR(l:List UInt8):R Cb:=(take 80 l).bind λh r=>(take 8 r).bind λnc r=>cbS h nc r
end Wr
def Wn(x:Wr.R Wr.Cb)(b:Nat)(w:World)(e:Ending)(w':World):Prop:=match x with
 |.ok c r=>∃sv av tv,e=.returned (.agg (cc c.header c.ie sv av tv).toArray)/\w'.ownsRow w.heap.size 9 1 sv c.gA.length (wt c.gA)/\w'.ownsRow w.heap.size 3 1 av c.gB.length (yo (zE c.gB))/\w'.ownsRow w.heap.size 78 33 tv c.gB.length (il (wN c.gB))/\Row w' b [.string (str r)]/\iL w.heap.size b w w'
 |.bad k=>e=.panicked (oF (k:Int))/\iL w.heap.size b w w'
def Wn.jn{x:Wr.R Wr.Cb}{b w w' k}(hx:x=.bad k)(h2:iL w.heap.size b w w'):Wn x b w (.panicked (oF (k:Int))) w':=by subst hx;exact⟨rfl,h2⟩
def kN:List Value:=cc [] [] (.slice none 0 0) (.slice none 0 0) (.slice none 0 0)
def TZ s n:prog.built 87 [(0,.string s),(1,.string n)]=some #[.string s,.string n,.slice none 0 0,.slice none 0 0,.slice none 0 0]:=κ
def uy{ops rest o a w Q}(pn:o.guard=none) x y(ho:o.op=.build 87 #[(0,x),(1,y)]) s n (hx:a.eval x=.string (str s)) (hy:a.eval y=.string (str n)) (h:wpList prog ops Q rest (a.put o.dst (.agg (cc s n (.slice none 0 0) (.slice none 0 0) (.slice none 0 0)).toArray)) w):wpList prog ops Q (o::rest) a w:=by refine wpList_buildTo pn 87 _ ho _ rfl _ ?_ h;simp only[bN,List.map_cons,bP,hx,hy];exact TZ (str s) (str n)
structure CI(w:World)(b C:Nat)(nl:Nat)(h nn:List UInt8)(sv av tv:Value)(lk:List UInt8)(wk:World):Prop where
 cur:Row wk b [.string (str lk)]
 box:Row wk w.heap.size [.pointer (some ⟨b,0,none⟩)]
 res:Row wk (w.heap.size+1) kN
 row:Row wk C (cc h nn sv av tv)
 gt:w.heap.size+1<C
 but:iL w.heap.size b w wk
 le:lk.length<=nl
def CI.step{w b C nl h nn sv av tv lk SD wk u9}(k:CI w b C nl h nn sv av tv lk wk)(hb:b<w.heap.size)(h1:Row u9 b [.string (str SD)])(h2:iL wk.heap.size b wk u9)(hl:SD.length<=lk.length):CI w b C nl h nn sv av tv SD u9:=⟨h1,h2.row k.box k.box.lt ω,h2.row k.res k.res.lt ω,h2.row k.row k.row.lt aHF,k.gt,k.but.trans (h2.mono k.but.size),ak hl k.le⟩
def CI.bad{w b C nl h nn sv av tv lk wk u9}(k:CI w b C nl h nn sv av tv lk wk)(h2:iL wk.heap.size b wk u9):iL w.heap.size b w u9:=k.but.trans (h2.mono k.but.size)
theorem CI.drew{w b C nl h nn sv av tv lk wk}(k:CI w b C nl h nn sv av tv lk wk):CI w b C nl h nn sv av tv lk wk.drew:=⟨k.cur.drew,k.box.drew,k.res.drew,k.row.drew,k.gt,k.but.drew,k.le⟩
theorem CI.below{w b C nl B h nn sv av tv lk wk u9}(k:CI w b C nl h nn sv av tv lk wk)(h2:Below B wk u9)(hB:C<B)(hb:b<w.heap.size):CI w b C nl h nn sv av tv lk u9:=⟨k.cur.below h2 aHF,k.box.below h2 aHF,k.res.below h2 aHF,k.row.below h2 hB,k.gt,k.but.trans (iL.gL (h2.mono aHF)),k.le⟩
def CI.ajQ{w b C nl h nn sv av tv lk wk}(k:CI w b C nl h nn sv av tv lk wk)(hb:b<w.heap.size) v:CI w b C nl h nn v av tv lk (wk.setCell ⟨C,2,none⟩ v):=⟨k.cur.other (a:=⟨C,2,none⟩) (show C≠b by have:=k.gt;omega) v,k.box.other (a:=⟨C,2,none⟩) (show C≠_ by have:=k.gt;omega) v,k.res.other (a:=⟨C,2,none⟩) (show C≠_ by have:=k.gt;omega) v,k.row.set 2 v,k.gt,k.but.trans (iL.gL ((Below.refl _ _).setCell (p:=⟨C,2,none⟩) (by show _<=C;have:=k.gt;omega) v)),k.le⟩
def CI.atX{w b C nl h nn sv av tv lk wk}(k:CI w b C nl h nn sv av tv lk wk)(hb:b<w.heap.size) v:CI w b C nl h nn sv v tv lk (wk.setCell ⟨C,3,none⟩ v):=⟨k.cur.other (a:=⟨C,3,none⟩) (show C≠b by have:=k.gt;omega) v,k.box.other (a:=⟨C,3,none⟩) (show C≠_ by have:=k.gt;omega) v,k.res.other (a:=⟨C,3,none⟩) (show C≠_ by have:=k.gt;omega) v,k.row.set 3 v,k.gt,k.but.trans (iL.gL ((Below.refl _ _).setCell (p:=⟨C,3,none⟩) (by show _<=C;have:=k.gt;omega) v)),k.le⟩
def CI.keep{w b C nl h nn sv av tv tv' lk SD wk u9}(k:CI w b C nl h nn sv av tv lk wk)(h2:ik (Bc b C) wk u9)(hb:b<w.heap.size)(h1:Row u9 b [.string (str SD)])(hC:Row u9 C (cc h nn sv av tv'))(hl:SD.length<=lk.length):CI w b C nl h nn sv av tv' SD u9:=⟨h1,h2.row k.box aG6,h2.row k.res aG6,hC,k.gt,k.but.trans ⟨h2.os,h2.tape,h2.output,h2.size,λj hj iZ=>h2.block j (by have:=k.but.size;omega) aG6⟩,ak hl k.le⟩
def CI.agP{w b C nl h nn sv av tv lk wk u9}(k:CI w b C nl h nn sv av tv lk wk)(h2:ik (Bc b C) wk u9):iL w.heap.size b w u9:=k.but.trans ⟨h2.os,h2.tape,h2.output,h2.size,λj hj iZ=>h2.block j (by have:=k.but.size;omega) aG6⟩
def Hu b l w(hT:km w)(vR:1<b)(hr:Row w b [.string (str l)])(hl:l.length<=9223372036854775807):Calls prog 80 #[.pointer (some ⟨b,0,none⟩)] w (Wn (Wr.cbR l) b w):=by
 have hb:=hr.lt;have yM:=hT.lt;have c0:=(hr.alloc (.cells #[.pointer (some ⟨b,0,none⟩)] 131)).alloc (.cells kN.toArray 87);have x0:=(Row.new w [.pointer (some ⟨b,0,none⟩)] 131).alloc (.cells kN.toArray 87);have r0:=Row.new (w.alloc (.cells #[.pointer (some ⟨b,0,none⟩)] 131)) kN 87;have n0:iL w.heap.size b w ((w.alloc (.cells #[.pointer (some ⟨b,0,none⟩)] 131)).alloc (.cells kN.toArray 87)):=((iL.refl _ _ _).alloc ν _).alloc ζ _;rw[World.size_alloc]at r0;rw[show([Value.pointer (some ⟨b,0,none⟩)]:List Value).toArray=#[Value.pointer (some ⟨b,0,none⟩)]from rfl]at x0;rw[show kN.toArray=#[Value.string (str []),.string (str []),.slice none 0 0,.slice none 0 0,.slice none 0 0]from rfl]at c0 x0 r0 n0;have HT:=η hT;have EQ:=η (show Wr.cbR l=(Wr.take 80 l).bind λh r=>(Wr.take 8 r).bind λnc r=>Wr.cbS h nc r from rfl);clear hr hT;go_enter func80,ntmps80;go_upto_region 1 with fail;generalize World.alloc _ _=w0 at c0 x0 r0 n0|-;have C0:=η c0;have X0:=η x0;have R0:=η r0;have N0:=η n0;clear c0 x0 r0 n0;go_cut [3]from 5 to 13 (λcv wx=>∃(C:Nat)(h nn r2:List UInt8),cv=.pointer (some ⟨C,0,none⟩)/\Wr.cbR l=Wr.cbS h nn r2/\CI w b C l.length h nn (.slice none 0 0) (.slice none 0 0) (.slice none 0 0) r2 wx)
 case first=>
  have hu:∀u:gI.Of (λu=>Row u w.heap.size [.pointer (some ⟨b,0,none⟩)]),u.w.cell? ⟨w.heap.size,0,none⟩=some (.pointer (some ⟨b,0,none⟩)):=λu=>u.h.cell 0;haveI iZ:Nonempty (gI.Of (λu=>Row u w.heap.size [.pointer (some ⟨b,0,none⟩)])):=⟨⟨w0,X0.o⟩⟩;refine gI.jl [0,1,2,4,5,6] 5 mixed κ rfl rfl θ ξ rfl (λu=>Row u w.heap.size [.pointer (some ⟨b,0,none⟩)]) X0.o.drew ?_;show wpQuiet _ _ _ _ [_,_,_,_,_,_] _;repeat(go_big_quiet_step (fail))
  refine fe ?_;clear hu;have C1:=η C0.o.drew;have X1:=η X0.o.drew;have R1:=η R0.o.drew;have N1:=η N0.o.drew;clear C0 X0 R0 N0;generalize w0.drew=w1 at C1 X1 R1 N1|-;refine gI.two 3 9 _ _ κ rfl rfl rfl rfl ?_ ?_
  ·try go_frame
   have T2:=η (jr b 80 l w1 C1.o ω);go_wp2_with fail;refine T2.o.mono ?_;clear T2;cases hx:Wr.take 80 l with
   |bad k=>rintro e w2⟨rfl,hh⟩;rw[hx]at EQ;exact⟨rfl,Wn.jn EQ.o (N1.o.trans (hh.mono N1.o.size))⟩
   |ok t1 r1=>
   rintro e w2⟨rfl,h3,h4⟩;rw[hx,Wr.R.jq]at EQ;have C2:=η h3;have X2:=η (h4.row X1.o X1.o.lt ω);have R2:=η (h4.row R1.o R1.o.lt ω);have N2:=η (N1.o.trans (h4.mono N1.o.size));have ag8:=(Wr.jc 80 l).le hx;clear h3 h4 hx C1 X1 R1 N1;go_wp2_with fail;refine⟨gI.gF (S:=λu=>Row u w.heap.size [.pointer (some ⟨b,0,none⟩)]) X2.o,?_⟩;refine gI.two 7 9 _ _ κ rfl rfl rfl rfl ?_ ?_
   ·try go_frame
    have T3:=η (jr b 8 r1 w2 C2.o ω);go_wp2_with fail;refine T3.o.mono ?_;clear T3;cases hx:Wr.take 8 r1 with
    |bad k=>exact t0102|ok t2 r2=>
    rintro e w3⟨rfl,h3,h4⟩;rw[hx,Wr.R.jq]at EQ;have C3:=η h3;have X3:=η (h4.row X2.o X2.o.lt ω);have R3:=η (h4.row R2.o R2.o.lt ω);have N3:=η (N2.o.trans (h4.mono N2.o.size));have ur:=ak ((Wr.jc 8 r1).le hx) ag8;clear h3 h4 hx C2 X2 R2 N2;go_wp2_with fail;refine⟨gI.gF (S:=λu=>Row u w.heap.size [.pointer (some ⟨b,0,none⟩)]) X3.o,?_⟩;refine gI.two 8 9 _ _ κ rfl rfl rfl rfl ?_ ?_
    ·refine uy rfl _ _ rfl t1 t2 rfl rfl ?_;refine⟨gI.gF (S:=λu=>Row u w.heap.size [.pointer (some ⟨b,0,none⟩)]) X3.o,?_⟩;refine gI.one 9 _ κ rfl rfl ?_;try go_frame
     have c4:=C3.o.alloc (.cells kN.toArray 87);have x4:=X3.o.alloc (.cells kN.toArray 87);have r4':=R3.o.alloc (.cells kN.toArray 87);have n4:=N3.o.alloc N3.o.size (.cells kN.toArray 87);have GJ:=Row.new w3 kN 87;rw[show kN.toArray=#[Value.string (str []),.string (str []),.slice none 0 0,.slice none 0 0,.slice none 0 0]from rfl]at c4 x4 r4' n4 GJ;have GK:=R3.o.lt;go_wp2_with fail;refine⟨gI.gF (S:=λu=>Row u w.heap.size [.pointer (some ⟨b,0,none⟩)]) x4,?_⟩;generalize World.alloc _ _=w4 at c4 x4 r4' n4 GJ|-;have C4:=η c4;have X4:=η x4;have R4:=η r4';have N4:=η n4;obtain⟨C,hCe⟩:∃C,w3.heap.size=C:=⟨_,rfl⟩;rw[hCe]at GJ GK|-;have W4:=η GJ;clear c4 x4 r4' n4 GJ hCe C3 X3 R3 N3;refine gI.one 10 _ κ rfl rfl ?_;exact t03
    try go_frame
    have c4:=C3.o.alloc (.cells kN.toArray 87);have x4:=X3.o.alloc (.cells kN.toArray 87);have r4':=R3.o.alloc (.cells kN.toArray 87);have n4:=N3.o.alloc N3.o.size (.cells kN.toArray 87);have GJ:=Row.new w3 kN 87;rw[show kN.toArray=#[Value.string (str []),.string (str []),.slice none 0 0,.slice none 0 0,.slice none 0 0]from rfl]at c4 x4 r4' n4 GJ;have GK:=R3.o.lt;go_wp2_with fail;refine⟨gI.gF (S:=λu=>Row u w.heap.size [.pointer (some ⟨b,0,none⟩)]) x4,?_⟩;generalize World.alloc _ _=w4 at c4 x4 r4' n4 GJ|-;have C4:=η c4;have X4:=η x4;have R4:=η r4';have N4:=η n4;obtain⟨C,hCe⟩:∃C,w3.heap.size=C:=⟨_,rfl⟩;rw[hCe]at GJ GK|-;have W4:=η GJ;clear c4 x4 r4' n4 GJ hCe C3 X3 R3 N3;refine gI.one 8 _ κ rfl rfl ?_;refine uy rfl _ _ rfl t1 t2 rfl rfl ?_;refine⟨gI.gF (S:=λu=>Row u w.heap.size [.pointer (some ⟨b,0,none⟩)]) X4.o,?_⟩;refine gI.one 10 _ κ rfl rfl ?_;exact t03
   try go_frame
   have c3:=C2.o.alloc (.cells kN.toArray 87);have x3:=X2.o.alloc (.cells kN.toArray 87);have r3':=R2.o.alloc (.cells kN.toArray 87);have n3:=N2.o.alloc N2.o.size (.cells kN.toArray 87);have GJ:=Row.new w2 kN 87;rw[show kN.toArray=#[Value.string (str []),.string (str []),.slice none 0 0,.slice none 0 0,.slice none 0 0]from rfl]at c3 x3 r3' n3 GJ;have GK:=R2.o.lt;go_wp2_with fail;refine⟨gI.gF (S:=λu=>Row u w.heap.size [.pointer (some ⟨b,0,none⟩)]) x3,?_⟩;generalize World.alloc _ _=w3 at c3 x3 r3' n3 GJ|-;have C3:=η c3;have X3:=η x3;have R3:=η r3';have N3:=η n3;obtain⟨C,hCe⟩:∃C,w2.heap.size=C:=⟨_,rfl⟩;rw[hCe]at GJ GK|-;have W3:=η GJ;clear c3 x3 r3' n3 GJ hCe C2 X2 R2 N2;refine gI.one 7 _ κ rfl rfl ?_;try go_frame
   have T4:=η (jr b 8 r1 w3 C3.o ω);go_wp2_with fail;refine T4.o.mono ?_;clear T4;cases hx:Wr.take 8 r1 with|bad k=>exact t0103|ok t2 r2=>rintro e w4⟨rfl,h3,h4⟩;rw[hx,Wr.R.jq]at EQ;have C4:=η h3;have X4:=η (h4.row X3.o X3.o.lt ω);have R4:=η (h4.row R3.o R3.o.lt ω);have N4:=η (N3.o.trans (h4.mono N3.o.size));have W4:=η (h4.row W3.o W3.o.lt ω);have ur:=ak ((Wr.jc 8 r1).le hx) ag8;clear h3 h4 hx C3 X3 R3 N3;go_wp2_with fail;refine⟨gI.gF (S:=λu=>Row u w.heap.size [.pointer (some ⟨b,0,none⟩)]) X4.o,?_⟩;refine gI.one 8 _ κ rfl rfl ?_;refine uy rfl _ _ rfl t1 t2 rfl rfl ?_;refine⟨gI.gF (S:=λu=>Row u w.heap.size [.pointer (some ⟨b,0,none⟩)]) X4.o,?_⟩;refine gI.one 10 _ κ rfl rfl ?_;exact t03
  try go_frame
  have c2:=C1.o.alloc (.cells kN.toArray 87);have x2:=X1.o.alloc (.cells kN.toArray 87);have r2':=R1.o.alloc (.cells kN.toArray 87);have n2:=N1.o.alloc N1.o.size (.cells kN.toArray 87);have GJ:=Row.new w1 kN 87;rw[show kN.toArray=#[Value.string (str []),.string (str []),.slice none 0 0,.slice none 0 0,.slice none 0 0]from rfl]at c2 x2 r2' n2 GJ;have GK:=R1.o.lt;go_wp2_with fail;refine⟨gI.gF (S:=λu=>Row u w.heap.size [.pointer (some ⟨b,0,none⟩)]) x2,?_⟩;generalize World.alloc _ _=w2 at c2 x2 r2' n2 GJ|-;have C2:=η c2;have X2:=η x2;have R2:=η r2';have N2:=η n2;obtain⟨C,hCe⟩:∃C,w1.heap.size=C:=⟨_,rfl⟩;rw[hCe]at GJ GK|-;have W2:=η GJ;clear c2 x2 r2' n2 GJ hCe C1 X1 R1 N1;refine gI.one 3 _ κ rfl rfl ?_;try go_frame
  have T3:=η (jr b 80 l w2 C2.o ω);go_wp2_with fail;refine T3.o.mono ?_;clear T3;cases hx:Wr.take 80 l with
  |bad k=>exact t0102|ok t1 r1=>
  rintro e w3⟨rfl,h3,h4⟩;rw[hx,Wr.R.jq]at EQ;have C3:=η h3;have X3:=η (h4.row X2.o X2.o.lt ω);have R3:=η (h4.row R2.o R2.o.lt ω);have N3:=η (N2.o.trans (h4.mono N2.o.size));have W3:=η (h4.row W2.o W2.o.lt ω);have ag8:=(Wr.jc 80 l).le hx;clear h3 h4 hx C2 X2 R2 N2;go_wp2_with fail;refine⟨gI.gF (S:=λu=>Row u w.heap.size [.pointer (some ⟨b,0,none⟩)]) X3.o,?_⟩;refine gI.one 7 _ κ rfl rfl ?_;try go_frame
  have T4:=η (jr b 8 r1 w3 C3.o ω);go_wp2_with fail;refine T4.o.mono ?_;clear T4;cases hx:Wr.take 8 r1 with|bad k=>exact t0103|ok t2 r2=>rintro e w4⟨rfl,h3,h4⟩;rw[hx,Wr.R.jq]at EQ;have C4:=η h3;have X4:=η (h4.row X3.o X3.o.lt ω);have R4:=η (h4.row R3.o R3.o.lt ω);have N4:=η (N3.o.trans (h4.mono N3.o.size));have W4:=η (h4.row W3.o W3.o.lt ω);have ur:=ak ((Wr.jc 8 r1).le hx) ag8;clear h3 h4 hx C3 X3 R3 N3;go_wp2_with fail;refine⟨gI.gF (S:=λu=>Row u w.heap.size [.pointer (some ⟨b,0,none⟩)]) X4.o,?_⟩;refine gI.one 8 _ κ rfl rfl ?_;refine uy rfl _ _ rfl t1 t2 rfl rfl ?_;refine⟨gI.gF (S:=λu=>Row u w.heap.size [.pointer (some ⟨b,0,none⟩)]) X4.o,?_⟩;refine gI.one 10 _ κ rfl rfl ?_;exact t03
 case rest=>
 obtain⟨C,h,nn,r2,rfl,hE,hI⟩:=hcut;have E1:=η (show Wr.cbR l=(Wr.kK 0 16 r2).bind λn r=>(Wr.jK 6 n r).bind λss r=>Wr.cbT h nn ss r from hE);have I1:=η hI;have hgt:=hI.gt;have hx0:=hI.box.cell 0;have T1:=η (oR b 0 16 r2 wc hI.cur ω ω);clear hE hI EQ;go_wp2_with fail;refine T1.o.mono ?_;clear T1 hx0;cases hx:Wr.kK 0 16 r2 with
 |bad k=>rintro e w2⟨rfl,hh⟩;rw[hx]at E1;exact⟨rfl,Wn.jn E1.o (I1.o.bad hh)⟩
 |ok n r3=>
 rintro e w2⟨rfl,h3,h4⟩;rw[hx,Wr.R.jq]at E1;have hn:=(Wr.nA hx).2;have I2:=η (I1.o.step hb h3 h4 ((Wr.mq 0 16 r2).le hx));clear h3 h4 hx I1;go_wp2_with fail;obtain⟨is,apX,Aw,Gx,zU⟩:=(let⟨i1,h1,h2,h3,h4⟩:=fy mZ;⟨i1,h1,h2,h3,h4⟩:∃i1,_/\_/\_/\_);have HI1:=η apX;clear apX;go_loopw [18] (λiv wr=>∃(i:Nat)(ss:List (List UInt8))(ri:List UInt8)(sv:Value),i<=n/\iv=.int .i64 i/\ss.length=i/\wr.ownsRow w2.heap.size 9 1 sv ss.length (wt ss)/\CI w b C l.length h nn sv (.slice none 0 0) (.slice none 0 0) ri wr/\w2.heap.size<=wr.heap.size/\Wr.cbR l=(Wr.jK 6 (n-i) ri).bind λus r=>Wr.cbT h nn (ss++us) r) (λiv _=>n-(intOf iv).toNat);exact⟨0,[],r3,_,by omega,rfl,rfl,fc _ _ _ _,I2.o,ν,by rw[eH];exact E1.o⟩;obtain⟨i,ss,ri,sv,hi,rfl,Mn,iB,hI,ql,hE⟩:=hrel;have A1:=η iB;have A2:=η hI;have hC2:=I2.o.row.lt;by_cases gV:i<n
 ·have p1:(i:Int)< (n:Int):=by omega
  have E2:=η (show Wr.cbR l=(Wr.take 6 ri).bind λt r=>(Wr.jK 6 (n-(i+1)) r).bind λus r=>Wr.cbT h nn ((ss++[t])++us) r by rw[hE,show n-i=(n-(i+1))+1 by omega,Wr.jK,Wr.R.Cf];congr 1;funext t r;rw[Wr.R.bind_map];congr 1;funext us r;rw[aL];rfl);have hmx:ss.length<1000:=ω;have Lj:=η Mn;clear iB hI hE Mn E1;go_upto_region 4 with fail;have hu:∀u:gI.Of (λu=>Row u w.heap.size [.pointer (some ⟨b,0,none⟩)]),u.w.cell? ⟨w.heap.size,0,none⟩=some (.pointer (some ⟨b,0,none⟩)):=λu=>u.h.cell 0;haveI iZ:Nonempty (gI.Of (λu=>Row u w.heap.size [.pointer (some ⟨b,0,none⟩)])):=⟨⟨wr,A2.o.box⟩⟩;refine gI.jl [0,2,3,4] 6 mixed κ rfl rfl θ ξ rfl (λu=>Row u w.heap.size [.pointer (some ⟨b,0,none⟩)]) A2.o.box.drew ?_;show wpQuiet _ _ _ _ [_,_,_,_] _;repeat(go_big_quiet_step (fail))
  refine fe ?_;clear hu;have D1:=η (show wr.drew.ownsRow w2.heap.size 9 1 sv ss.length (wt ss)from A1.o);have D2:=η A2.o.drew;have Ar:w2.heap.size<=wr.drew.heap.size:=ql;have pM:=D2.o.row.cell 2;rw[show(cc h nn sv (.slice none 0 0) (.slice none 0 0))[2]? =some sv from rfl]at pM;have S0:gI.cls (λu=>Row u w.heap.size [.pointer (some ⟨b,0,none⟩)]) wr.drew:=gI.gF D2.o.box;have T0:=η (jr b 6 ri wr.drew D2.o.cur ω);clear A1 A2 ql;generalize wr.drew=w3 at D1 D2 Ar pM S0 T0|-;refine gI.two 1 5 _ _ κ rfl rfl rfl rfl ?_ ?_
  ·try go_frame
   go_wp2_with fail;refine⟨S0,?_⟩;refine gI.one 5 _ κ rfl rfl ?_
   try go_frame
   go_wp2_with fail;refine T0.o.mono ?_;cases hx:Wr.take 6 ri with
   |bad k=>exact t0127|ok t r4=>
   rintro e w4⟨rfl,h3,h4⟩;rw[hx,Wr.R.jq]at E2;have F1:=η (ju D1.o h4 ω);have F2:=η (D2.o.step hb h3 h4 ((Wr.jc 6 ri).le hx));have Em:w2.heap.size<=w4.heap.size:=ak Ar h4.size;have alC:=F2.o.row.cell 2;rw[show(cc h nn sv (.slice none 0 0) (.slice none 0 0))[2]? =some sv from rfl]at alC;have alB:=(F2.o.row.alloc (.cells #[.string (str t)] 9)).cell 2;rw[show(cc h nn sv (.slice none 0 0) (.slice none 0 0))[2]? =some sv from rfl]at alB;have S2:gI.cls (λu=>Row u w.heap.size [.pointer (some ⟨b,0,none⟩)]) w4:=gI.gF F2.o.box;have S3:gI.cls (λu=>Row u w.heap.size [.pointer (some ⟨b,0,none⟩)]) (w4.alloc (.cells #[.string (str t)] 9)):=gI.gF (F2.o.box.alloc _);clear h3 h4 hx pM T0 D1 D2;go_wp2_with fail;refine⟨S2,?_⟩;refine gI.one 6 _ κ rfl rfl ?_;try go_frame
   exact t02
  try go_frame
  go_wp2_with fail;refine T0.o.mono ?_;cases hx:Wr.take 6 ri with
  |bad k=>exact t0127|ok t r4=>
  rintro e w4⟨rfl,h3,h4⟩;rw[hx,Wr.R.jq]at E2;have F1:=η (ju D1.o h4 ω);have F2:=η (D2.o.step hb h3 h4 ((Wr.jc 6 ri).le hx));have Em:w2.heap.size<=w4.heap.size:=ak Ar h4.size;have alC:=F2.o.row.cell 2;rw[show(cc h nn sv (.slice none 0 0) (.slice none 0 0))[2]? =some sv from rfl]at alC;have alB:=(F2.o.row.alloc (.cells #[.string (str t)] 9)).cell 2;rw[show(cc h nn sv (.slice none 0 0) (.slice none 0 0))[2]? =some sv from rfl]at alB;have S2:gI.cls (λu=>Row u w.heap.size [.pointer (some ⟨b,0,none⟩)]) w4:=gI.gF F2.o.box;have S3:gI.cls (λu=>Row u w.heap.size [.pointer (some ⟨b,0,none⟩)]) (w4.alloc (.cells #[.string (str t)] 9)):=gI.gF (F2.o.box.alloc _);clear h3 h4 hx pM T0 D1 D2;go_wp2_with fail;refine⟨S2,?_⟩;refine gI.two 1 6 _ _ κ rfl rfl rfl rfl ?_ ?_
  ·try go_frame
   go_wp2_with fail;refine⟨S2,?_⟩;refine gI.one 6 _ κ rfl rfl ?_
   try go_frame
   exact t02
  try go_frame
  go_wp2_with fail;refine⟨S3,?_⟩;refine gI.one 1 _ κ rfl rfl ?_
  try go_frame
  exact t02
 obtain rfl:i=n:=by omega
 subst Mn;have E2:=η (show Wr.cbR l=Wr.cbT h nn ss ri by rw[hE,bh];show Wr.cbT h nn (ss++[]) ri=_;rw[aO]);have E3:=η (show Wr.cbR l=(Wr.kK 0 (16-ss.length) ri).bind λm r=>if m+ss.length=0 then .bad 3 else(Wr.iG (m+ss.length) m 0 r).map λps=>⟨h,nn,ss,ps⟩from E2.o);obtain⟨sa,sc,rfl⟩:=gZ iB;have BJ:ss.length<=16:=ω;have A0:=η ql;clear hE iB hI E1 E2 ql;go_upto_region 6 with fail;have hu:∀u:gI.Of (λu=>Row u w.heap.size [.pointer (some ⟨b,0,none⟩)]/\Row u C (cc h nn (.slice sa ss.length sc) (.slice none 0 0) (.slice none 0 0))),u.w.cell? ⟨w.heap.size,0,none⟩=some (.pointer (some ⟨b,0,none⟩)):=λu=>u.h.1.cell 0;have pZ:∀u:gI.Of (λu=>Row u w.heap.size [.pointer (some ⟨b,0,none⟩)]/\Row u C (cc h nn (.slice sa ss.length sc) (.slice none 0 0) (.slice none 0 0))),u.w.cell? ⟨C,2,none⟩=some (.slice sa ss.length sc):=λu=>u.h.2.cell 2;obtain⟨kk,OW⟩:∃kk,16-ss.length=kk:=⟨_,rfl⟩;rw[OW]at E3;have q1:wrap64 ((16:Int) -(ss.length:Int))=(kk:Int):=by unfold wrap64;omega
 have q2:(16:Int) -(ss.length:Int)=(kk:Int):=ω;have Ln:kk+ss.length=16:=ω;have HKL:=η Ln;clear OW Ln;haveI iZ:Nonempty (gI.Of (λu=>Row u w.heap.size [.pointer (some ⟨b,0,none⟩)]/\Row u C (cc h nn (.slice sa ss.length sc) (.slice none 0 0) (.slice none 0 0)))):=⟨⟨wr,A2.o.box,A2.o.row⟩⟩;refine gI.jl [0,1,2,3,4,5,6] 2 mixed κ rfl rfl θ ξ rfl (λu=>Row u w.heap.size [.pointer (some ⟨b,0,none⟩)]/\Row u C (cc h nn (.slice sa ss.length sc) (.slice none 0 0) (.slice none 0 0))) ⟨A2.o.box.drew,A2.o.row.drew⟩ ?_;show wpQuiet _ _ _ _ [_,_,_,_,_,_,_] _;repeat(go_big_quiet_step (fail))
 refine fe ?_;clear hu pZ q1 q2;have D1:=η (show wr.drew.ownsRow w2.heap.size 9 1 (.slice sa ss.length sc) ss.length (wt ss)from A1.o);have D2:=η A2.o.drew;have D0:=η (show w2.heap.size<=wr.drew.heap.size from A0.o);have T1:=η (oR b 0 kk ri wr.drew D2.o.cur ω (by have:=HKL.o;omega));clear A0 A1 A2;generalize wr.drew=w3 at D0 D1 D2 T1|-;refine gI.one 7 _ κ rfl rfl ?_;try go_frame
 go_wp2_with fail;refine T1.o.mono ?_;clear T1;cases hx:Wr.kK 0 kk ri with
 |bad k=>rintro e w4⟨rfl,hh⟩;rw[hx]at E3;exact⟨rfl,Wn.jn E3.o (D2.o.bad hh)⟩
 |ok m r5=>
 rintro e w4⟨rfl,h3,h4⟩;rw[hx,Wr.R.jq]at E3;have hm:m+ss.length<=16:=by have:=(Wr.nA hx).2;have:=HKL.o;omega
 have F1:=η (ju D1.o h4 ω);have F2:=η (D2.o.step hb h3 h4 ((Wr.mq 0 kk ri).le hx));have F0:=η (ak D0.o h4.size);have S4:gI.cls (λu=>Row u w.heap.size [.pointer (some ⟨b,0,none⟩)]/\Row u C (cc h nn (.slice sa ss.length sc) (.slice none 0 0) (.slice none 0 0))) w4:=gI.gF ⟨F2.o.box,F2.o.row⟩;clear h3 h4 hx D0 D1 D2;go_wp2_with fail;refine⟨S4,?_⟩;refine gI.one 8 _ κ rfl rfl ?_;try go_frame
 go_wp2_with fail;refine⟨S4,?_⟩;refine fg κ ?_ 0
 try go_frame
 have pM:=F2.o.row.cell 2;rw[show(cc h nn (.slice sa ss.length sc) (.slice none 0 0) (.slice none 0 0))[2]? =some (.slice sa ss.length sc)from rfl]at pM;by_cases hz:m+ss.length=0
 ·rw[if_pos hz]at E3;have p1:(m:Int)+(ss.length:Int)=0:=by omega
  go_wp2_with fail;refine(lq 3 _).mono ?_;rintro e w5⟨rfl,rfl⟩;exact⟨rfl,Wn.jn (k:=3) E3.o F2.o.but⟩
 rw[if_neg hz]at E3;have p1:¬(m:Int)+(ss.length:Int)=0:=by omega
 have hx0:=F2.o.box.cell 0;have aCC:=F2.o.gt;have T2:=η (Gu b w.heap.size C m (m+ss.length) r5 h nn (.slice sa ss.length sc) (.slice none 0 0) w4 (F2.o.but.AL HT.o yM vR) vR F2.o.cur (ak F2.o.le hl) F2.o.box F2.o.row ω ω ω ω ω ω);go_wp2_with fail;refine T2.o.mono ?_;clear T2;cases hx:Wr.iG (m+ss.length) m 0 r5 with
 |bad k=>rintro e w5⟨rfl,hh⟩;rw[hx]at E3;exact⟨rfl,Wn.jn E3.o (F2.o.agP hh)⟩
 |ok ps r6=>
 rintro e w5⟨av,tv,rfl,Ze,hC5,ho2,oN,hk5⟩;rw[hx]at E3;obtain⟨aa,ac,rfl⟩:=gZ Ze;have hs5:=hk5.own F1.o (λj hj=>by have:=(F1.o.lt j hj).1;unfold Bc;omega);have G2:=F2.o.keep hk5 hb oN hC5 ((Wr.FZ (m+ss.length) m 0 r5).le hx);have apg:=hk5.size;have aBH:=F0.o;have SQ:=G2.row.free 3;have hc5:=G2.row.cell 3;have K2:=η (G2.atX hb (.slice aa ps.length ac));have K1:=η (iJ (a:=⟨C,3,none⟩) hs5 (.slice aa ps.length ac) hC2);have K3:=η (iJ (a:=⟨C,3,none⟩) Ze (.slice aa ps.length ac) (by show C<_;omega));have K4:=η (iJ (a:=⟨C,3,none⟩) ho2 (.slice aa ps.length ac) (by show C<_;omega));clear Ze ho2 hC5 oN hk5 hs5 G2 pM hx0 F1 F2;have hrC:=K2.o.row;have hrA:=K2.o.res;have aqi:=K2.o.cur;have aqq:=K2.o.but;have agW:w5.heap.size=(w5.setCell ⟨C,3,none⟩ (.slice aa ps.length ac)).heap.size:=aGi;have h1c:(cc h nn (.slice sa ss.length sc) (.slice aa ps.length ac) tv).all (·.oneCell')=true:=by have:=pC K4.o;unfold cc;simp only[bV,List.all_nil,this,eW];rfl
 go_wp2_with (first|(refine l0 (o:=⟨some 55,_,_,_,_,_⟩) rfl _ _ rfl C (cc h nn (.slice sa ss.length sc) (.slice aa ps.length ac) tv) rfl hrC _ fK (jC.trans rfl) _ rfl ?_)|(with_reducible refine gJ (o:=⟨none,_,_,_,_,_⟩) rfl _ _ _ rfl (w.heap.size+1) kN (cc h nn (.slice sa ss.length sc) (.slice aa ps.length ac) tv) rfl rfl hrA (jC.trans rfl) rfl h1c ?_))
 obtain⟨T2,GH⟩:=hrA.setRow (cc h nn (.slice sa ss.length sc) (.slice aa ps.length ac) tv);refine bodyPost_ret (v:=.agg (cc h nn (.slice sa ss.length sc) (.slice aa ps.length ac) tv).toArray) (fH (fn:=Tryz.f80) rfl _ _ (w.heap.size+1) T2 _ (0,0) _ rfl GH fK rfl (jC.trans rfl)) rfl ?_;rw[show Wr.cbR l=.ok ⟨h,nn,ss,ps⟩ r6 from E3.o];exact⟨_,_,_,rfl,lC (kB (S:=w.heap.size+1) K1.o _ ω) ω,lC (kB (S:=w.heap.size+1) K3.o _ ω) ω,lC (by have:=kB (S:=w.heap.size+1) K4.o (cc h nn (.slice sa ss.length sc) (.slice aa ps.length ac) tv).toArray ω;exact this) ω,aqi.gX ω _,aqq.trans (iL.gL (below_setRow (Below.refl _ _) ω _))⟩
end
