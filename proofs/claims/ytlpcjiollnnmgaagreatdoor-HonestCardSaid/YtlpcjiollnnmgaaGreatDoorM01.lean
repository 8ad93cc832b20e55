import Derived.Test.YtlpcjiollnnmgaaGreatDoorM00
import Derived.Great.BuildSlice
set_option maxRecDepth 100000
set_option maxHeartbeats 8000000
set_option linter.all false
namespace Go.Proofs.YtlpcjiollnnmgaaGreatDoor
open Go.Proofs.Tryz
section
open ba
namespace cC
def jo:List UInt8->Nat
 |[]=>0|b::t=>jo t*256+b.toNat
def le(l:List UInt8):UInt64:=UInt64.ofNat (jo l)
def Wc l b:jo (l++[b])=2^ (8*l.length)*b.toNat+jo l:=by induction l with|nil=>simp[jo]|cons x l ih=>simp only[List.cons_append,jo,ih,List.length_cons];rw[show 8*(l.length+1)=8*l.length+8 by omega,Nat.pow_add];generalize 2^ (8*l.length)=p;rw[Nat.add_mul,Nat.mul_assoc p b.toNat 256,Nat.mul_assoc p 256 b.toNat,Nat.mul_comm b.toNat 256];omega
def vQ l:jo l<2^ (8*l.length):=by induction l with|nil=>simp[jo]|cons x l ih=>simp only[jo,List.length_cons];rw[show 8*(l.length+1)=8*l.length+8 by omega,Nat.pow_add];have:=x.toNat_lt;generalize 2^ (8*l.length)=p at *;omega
def aao l b(h:l.length<8):le (l++[b])=le l ||| shl b.toUInt64 (8*l.length):=by have h1:=vQ l;have h2:=vQ (l++[b]);have h3:2^ (8*l.length)<=2^64:=Nat.pow_le_pow_right (by decide) (by omega);have h4:2^ (8*(l++[b]).length)<=2^64:=Nat.pow_le_pow_right (by decide) (by simp;omega);apply UInt64.toNat_inj.1;unfold le shl;rw[Wc]at *;rw[UInt64.toNat_or,UInt64.toNat_ofNat',UInt64.toNat_ofNat',UInt64.toNat_ofNat',UInt8.toNat_toUInt64];rw[Nat.mul_comm b.toNat];rw[Nat.mod_eq_of_lt (Nat.lt_of_lt_of_le h2 h4),Nat.mod_eq_of_lt (Nat.lt_of_lt_of_le h1 h3),Nat.mod_eq_of_lt (by omega),Nat.or_comm];exact Nat.two_pow_add_eq_or_of_lt h1 _
def aap b l:le (b::l)=le l*iM 256+b.toUInt64:=by apply UInt64.toNat_inj.1;rw[UInt64.toNat_add,UInt64.toNat_mul];have e:jo (b::l)=jo l*256+b.toNat:=rfl;unfold le;rw[e,UInt64.toNat_ofNat',UInt64.toNat_ofNat',UInt8.toNat_toUInt64,show(iM 256).toNat=256 from rfl];generalize jo l=x;generalize b.toNat=y;omega
def uX l k(h:k<l.length):l.take (k+1)=l.take k++[nth l k]:=by rw[List.take_succ_eq_append_getElem h];unfold nth;rw[List.getD_eq_getElem?_getD,List.getElem?_eq_getElem h];rfl
def drop_cons l k(h:k<l.length):l.drop k=nth l k::l.drop (k+1):=by rw[List.drop_eq_getElem_cons h];unfold nth;rw[List.getD_eq_getElem?_getD,List.getElem?_eq_getElem h];rfl
def tZ l k(h:k<l.length)(h8:k<8):le (l.take (k+1))=le (l.take k) ||| shl (nth l k).toUInt64 (8*k):=by
 have e:(l.take k).length=k:=by rw[List.length_take];omega
 rw[uX l k h,aao _ _ (by omega),e]
structure St where
 (a b c d:UInt64)
def round(s:St):St:=
 let a:=s.a+s.b;let b:=rotl s.b 13 ^^^ a;let a:=rotl a 32;let c:=s.c+s.d;let d:=rotl s.d 16 ^^^ c;let a:=a+d;let d:=rotl d 21 ^^^ a;let c:=c+b;let b:=rotl b 17 ^^^ c;let c:=rotl c 32
 ⟨a,b,c,d⟩
def round_eq{A B C D a1 c1 b1 d1 a2 c2 a3 b2 d2}(h1:A+B=a1)(h2:C+D=c1)(h3:rotl B 13 ^^^ a1=b1)(h4:rotl D 16 ^^^ c1=d1)(h5:rotl a1 32=a2) (h6:c1+b1=c2) (h7:a2+d1=a3) (h8:rotl b1 17 ^^^ c2=b2) (h9:rotl d1 21 ^^^ a3=d2):round ⟨A,B,C,D⟩=⟨a3,b2,rotl c2 32,d2⟩:=by subst h1 h2 h3 h4 h5 h6 h7 h8 h9;rfl
def rounds:Nat->St->St
 |0,s=>s|n+1,s=>round (rounds n s)
def word(s:St)(m:UInt64):St:=
 let t:=rounds 2 ⟨s.a,s.b,s.c,s.d ^^^ m⟩
 ⟨t.a ^^^ m,t.b,t.c,t.d⟩
def words:Nat->St->List UInt8->St
 |0,s,_=>s|n+1,s,l=>word (words n s l) (le ((l.drop (8*n)).take 8))
def start(k l:UInt64):St:=⟨k ^^^ iM 8317987319222330741,l ^^^ iM 7237128888997146477,k ^^^ iM 7816392313619706465,l ^^^ iM 8387220255154660723⟩
def last(s:St):UInt64:=
 let t:=rounds 4 ⟨s.a,s.b,s.c ^^^ iM 255,s.d⟩
 t.a ^^^ t.b ^^^ t.c ^^^ t.d
def tail(n:Nat)(l:List UInt8):UInt64:=shl (UInt64.ofNat n) 56 ||| le l
def Lt(k l:UInt64)(s:List UInt8):UInt64:=last (word (words (s.length/8) (start k l) s) (tail s.length (s.drop (8*(s.length/8)))))
def pad(s:List UInt8):List UInt8:=s++List.replicate (7-s.length % 8) 0++[UInt8.ofNat s.length]
end cC
namespace Wr
inductive R(α:Type) where
 |ok (a:α) (r:List UInt8)
 |bad (e:Nat)
namespace R
variable{α β γ:Type}
def bind(x:R α)(f:α->List UInt8->R β):R β:=match x with
 |.ok a r=>f a r
 |.bad e=>.bad e
def map(f:α->β)(x:R α):R β:=match x with
 |.ok a r=>.ok (f a) r
 |.bad e=>.bad e
def void(x:R α):R Unit:=match x with
 |.ok _ r=>.ok () r
 |.bad e=>.bad e
def qQ(x:R α) f(g:β->List UInt8->R γ):(x.bind f).bind g=x.bind λa r=>(f a r).bind g:=by cases x<;>rfl
def aQ a r(f:α->List UInt8->R β):(R.ok a r).bind f=f a r:=rfl
def map_bind(x:R α)(f:α->β):x.map f=x.bind λa r=>.ok (f a) r:=by cases x<;>rfl
end R
def take(n:Nat)(l:List UInt8):R (List UInt8):=if l.length<n then .bad 1 else .ok (l.take n) (l.drop n)
def more(b:UInt8):Nat:=if b=253 then 2 else if b=254 then 4 else 8
def least(b:UInt8):Nat:=if b=253 then 253 else if b=254 then 65536 else 4294967296
def rest(b:UInt8)(r:List UInt8):R Nat:=(take (more b) r).bind λu r'=>if cC.jo u<least b then .bad 2 else .ok (cC.jo u) r'
def size(l:List UInt8):R Nat:=(take 1 l).bind λt r=>if nth t 0<253 then .ok (nth t 0).toNat r else rest (nth t 0) r
def cM(lo hi:Nat)(l:List UInt8):R Nat:=(size l).bind λx r=>if x<lo∨hi<x then .bad 3 else .ok x r
def script(l:List UInt8):R Unit:=(cM 0 40 l).bind λn r=>(take n r).void
def nA(l:List UInt8):R Unit:=(take 36 l).bind λ_ r=>(script r).bind λ_ r=>(take 4 r).void
def fN(l:List UInt8):R Unit:=(take 8 l).bind λ_ r=>script r
def rep(p:List UInt8->R Unit):Nat->List UInt8->R Unit
 |0,l=>.ok () l|n+1,l=>(p l).bind λ_ r=>rep p n r
def body(l:List UInt8):R Unit:=(take 4 l).bind λ_ r=>(cM 1 4 r).bind λn r=>(rep nA n r).bind λ_ r=>(cM 1 4 r).bind λn r=>(rep fN n r).bind λ_ r=>(take 4 r).void
def tx(l:List UInt8):R (List UInt8):=(body l).bind λ_ r=>.ok (l.take (l.length-r.length)) r
def bE:Nat->List UInt8->R (List (List UInt8))
 |0,l=>.ok [] l|n+1,l=>(tx l).bind λt r=>(bE n r).map λts=>t::ts
def fin{α:Type}(x:R α):R α:=x.bind λa r=>if r=[]then .ok a r else .bad 5
def cN(l:List UInt8):R (List UInt8):=fin (tx l)
def dx(l:List UInt8):R (List UInt8×List (List UInt8)):=fin ((take 80 l).bind λh r=>(cM 1 16 r).bind λn r=>(bE n r).map λts=>(h,ts))
def dO(l:List UInt8):R (List UInt8×List (List UInt8)):=fin ((take 32 l).bind λh r=>(cM 1 16 r).bind λn r=>(bE n r).map λts=>(h,ts))
def index(next bound:Nat)(l:List UInt8):R Nat:=(size l).bind λd r=>if bound<=d∨bound<=next+d then .bad 4 else .ok (next+d) r
def indexes(bound:Nat):Nat->Nat->List UInt8->R (List Nat)
 |0,_,l=>.ok [] l|n+1,next,l=>(index next bound l).bind λi r=>(indexes bound n (i+1) r).map λis=>i::is
def dp(l:List UInt8):R (List UInt8×List Nat):=fin ((take 32 l).bind λh r=>(cM 1 16 r).bind λn r=>(indexes 16 n 0 r).map λis=>(h,is))
def fE(bound:Nat):Nat->Nat->List UInt8->R (List (Nat×List UInt8))
 |0,_,l=>.ok [] l|n+1,next,l=>(index next bound l).bind λi r=>(tx r).bind λt r=>(fE bound n (i+1) r).map λps=>(i,t)::ps
def iN(k:Nat):Nat->List UInt8->R (List (List UInt8))
 |0,l=>.ok [] l|n+1,l=>(take k l).bind λt r=>(iN k n r).map λts=>t::ts
structure Cb where
 header:List UInt8
 aI:List UInt8
 ae:List (List UInt8)
 ah:List (Nat×List UInt8)
def cg(l:List UInt8):R Cb:=fin ((take 80 l).bind λh r=>(take 8 r).bind λnc r=>(cM 0 16 r).bind λn r=>(iN 6 n r).bind λss r=>(cM 0 (16-ss.length) r).bind λm r=>if m+ss.length=0 then .bad 3 else(fE (m+ss.length) m 0 r).map λps=>⟨h,nc,ss,ps⟩)
def ei{α:Type}(l:List UInt8)(x:R α):Prop:=∀a r,x=.ok a r->∃k,k<=l.length/\r=l.drop k
def ei.le{α l}{x:R α}(h:ei l x){a r}(e:x=.ok a r):r.length<=l.length:=by obtain⟨k,_,rfl⟩:=h a r e;simp
def ei.ok{α} l(a:α):ei l (.ok a l):=λ_ _ h=>by cases h;exact⟨0,Nat.zero_le _,rfl⟩
theorem ei.bad{α} l e:ei (α:=α) l (.bad e):=λ_ _ h=>by cases h
def ei.bind{α β l x}{f:α->List UInt8->R β}(h:ei l x)(k:∀a r,x=.ok a r->ei r (f a r)):ei l (x.bind f):=by cases x with|bad e=>exact ei.bad _ _|ok a r=>obtain⟨i,hi,rfl⟩:=h a r rfl;intro b s hs;obtain⟨j,hj,rfl⟩:=k a _ rfl b s hs;rw[List.length_drop]at hj;exact⟨i+j,by omega,by rw[List.drop_drop]⟩
def ei.map{α β l x}(f:α->β)(h:ei l x):ei l (x.map f):=by rw[R.map_bind];exact h.bind λa r _=>ei.ok _ _
def ei.void{α l}{x:R α}(h:ei l x):ei l x.void:=by cases x with|bad e=>exact ei.bad _ _|ok a r=>intro b s hs;cases hs;exact h a r rfl
def bG n l:ei l (take n l):=by unfold take;split;exact ei.bad _ _;intro a r h;cases h;exact⟨n,by omega,rfl⟩
def QH b l:ei l (rest b l):=(bG _ l).bind λu r _=>by split;exact ei.bad _ _;exact ei.ok _ _
def u6 l:ei l (size l):=(bG 1 l).bind λt r _=>by split;exact ei.ok _ _;exact QH _ _
def ew lo hi l:ei l (cM lo hi l):=(u6 l).bind λx r _=>by split;exact ei.bad _ _;exact ei.ok _ _
def lU l:ei l (script l):=(ew _ _ l).bind λn r _=>(bG n r).void
def Bi l:ei l (nA l):=(bG _ l).bind λ_ r _=>(lU r).bind λ_ r _=>(bG 4 r).void
def vI l:ei l (fN l):=(bG _ l).bind λ_ r _=>lU r
theorem k8{p}(hp:∀l,ei l (p l)):∀n l,ei l (rep p n l)
 |0,_=>ei.ok _ _|n+1,l=>(hp l).bind λ_ r _=>k8 hp n r
def Tf l:ei l (body l):=(bG _ l).bind λ_ r _=>(ew _ _ r).bind λn r _=>(k8 Bi n r).bind λ_ r _=>(ew _ _ r).bind λn r _=>(k8 vI n r).bind λ_ r _=>(bG 4 r).void
def yH l:ei l (tx l):=by unfold tx;cases h:body l with|bad e=>exact ei.bad _ _|ok a r=>intro b s hs;cases hs;exact Tf l a _ h
theorem zi:∀n l,ei l (bE n l)
 |0,_=>ei.ok _ _|n+1,l=>(yH l).bind λ_ r _=>(zi n r).map _
def Bo next bound l:ei l (index next bound l):=(u6 l).bind λx r _=>by split;exact ei.bad _ _;exact ei.ok _ _
theorem uf bound:∀n next l,ei l (indexes bound n next l)
 |0,_,_=>ei.ok _ _|n+1,_,l=>(Bo _ _ l).bind λi r _=>(uf bound n (i+1) r).map _
theorem AB bound:∀n next l,ei l (fE bound n next l)
 |0,_,_=>ei.ok _ _|n+1,_,l=>(Bo _ _ l).bind λi r _=>(yH r).bind λ_ r _=>(AB bound n (i+1) r).map _
def low(n:Nat):Nat->List UInt8
 |0=>[]|k+1=>UInt8.ofNat (n % 256)::low (n/256) k
def bo n k:(low n k).length=k:=by induction k generalizing n with|zero=>rfl|succ k ih=>simp[low,ih]
def aam l:low (cC.jo l) l.length=l:=by induction l with|nil=>rfl|cons b l ih=>have hb:=b.toNat_lt;simp only[cC.jo,List.length_cons,low];rw[show(cC.jo l*256+b.toNat) % 256=b.toNat by omega,show(cC.jo l*256+b.toNat) / 256=cC.jo l by omega,ih];simp
def OZ n k:cC.jo (low n k)=n % 2^ (8*k):=by induction k generalizing n with|zero=>simp[low,cC.jo];omega|succ k ih=>simp only[low,cC.jo,ih];rw[show 8*(k+1)=8+8*k by omega,Nat.pow_add,UInt8.toNat_ofNat',show(2:Nat)^8=256 from rfl,Nat.mod_mul];omega
def Gg n k i(h:i<k):nth (low n k) i=UInt8.ofNat (n/256^i % 256):=by induction k generalizing n i with|zero=>omega|succ k ih=>cases i with|zero=>simp[low,nth]|succ i=>have:=ih (n/256) i (by omega);simp only[nth,low,List.getD_cons_succ]at this|-;rw[this,Nat.div_div_eq_div_mul,Nat.pow_succ,Nat.mul_comm 256]
def dD(n:Nat):List UInt8:=if n<253 then [UInt8.ofNat n]else if n<65536 then 253::low n 2 else if n<4294967296 then 254::low n 4 else 255::low n 8
def aaq u(h:u.length=2):cC.jo u<65536:=by have:=cC.vQ u;rw[h]at this;exact this
def Wd u(h:u.length=4):cC.jo u<4294967296:=by have:=cC.vQ u;rw[h]at this;exact this
def RL u(h:u.length=8):cC.jo u<18446744073709551616:=by have:=cC.vQ u;rw[h]at this;exact this
def UU b u(hb:¬b<253)(hu:u.length=more b):dD (cC.jo u)=b::u↔least b<=cC.jo u:=by
 have ym:=aam u;have hbn:b=253∨b=254∨b=255:=by
  have h1:¬b.toNat<253:=λh=>hb (UInt8.lt_iff_toNat_lt.2 h);have h2:=b.toNat_lt;have h3:b.toNat=253∨b.toNat=254∨b.toNat=255:=by omega
  rcases h3 with h|h|h;exact .inl (UInt8.toNat_inj.1 h);exact .inr (.inl (UInt8.toNat_inj.1 h));exact .inr (.inr (UInt8.toNat_inj.1 h))
 unfold dD;rcases hbn with rfl|rfl|rfl;have EL:u.length=2:=hu;have hl:=aaq u EL;rw[EL]at ym;show _↔253<=_;by_cases h:cC.jo u<253;rw[if_pos h];exact⟨λe=>by have:=congrArg List.length e;simp[EL]at this,λe=>by omega⟩;rw[if_neg h,if_pos hl,ym];exact⟨λ_=>by omega,λ_=>rfl⟩;have EL:u.length=4:=hu;have hl:=Wd u EL;rw[EL]at ym;show _↔65536<=_;by_cases h:cC.jo u<253;rw[if_pos h];exact⟨λe=>by have:=congrArg List.length e;simp[EL]at this,λe=>by omega⟩;rw[if_neg h];by_cases h2:cC.jo u<65536;rw[if_pos h2];exact⟨λe=>by have:=congrArg List.length e;simp[EL,bo]at this,λe=>by omega⟩;rw[if_neg h2,if_pos hl,ym];exact⟨λ_=>by omega,λ_=>rfl⟩;have EL:u.length=8:=hu;have hl:=RL u EL;rw[EL]at ym;show _↔4294967296<=_;by_cases h:cC.jo u<253;rw[if_pos h];exact⟨λe=>by have:=congrArg List.length e;simp[EL]at this,λe=>by omega⟩;rw[if_neg h];by_cases h2:cC.jo u<65536;rw[if_pos h2];exact⟨λe=>by have:=congrArg List.length e;simp[EL,bo]at this,λe=>by omega⟩;rw[if_neg h2];by_cases h3:cC.jo u<4294967296;rw[if_pos h3];exact⟨λe=>by have:=congrArg List.length e;simp[EL,bo]at this,λe=>by omega⟩;rw[if_neg h3,ym];exact⟨λ_=>by omega,λ_=>rfl⟩
end Wr
namespace Rf
open Wr
abbrev St:=List UInt8×Nat
def Ih(e:Nat)(st:St):St:=if st.2=0 then(st.1,e)else st
def take(n:Nat)(st:St):List UInt8×St:=if st.2≠0 then([],st)else if st.1.length<n then([],(st.1,1))else(st.1.take n,(st.1.drop n,0))
def zx(b:UInt8)(st:St):Nat×St:=
 let p:=take (more b) st
 (cC.jo p.1,if p.2.2=0/\dD (cC.jo p.1)≠b::p.1 then Ih 2 p.2 else p.2)
def size(st:St):Nat×St:=
 let p:=take 1 st
 if p.2.2≠0 then(0,p.2)else if nth p.1 0<253 then((nth p.1 0).toNat,p.2)else zx (nth p.1 0) p.2
def bound(lo hi:Nat)(p:Nat×St):St:=if p.2.2=0/\(p.1<lo∨hi<p.1)then Ih 3 p.2 else p.2
def within(lo hi:Nat)(st:St):Nat×St:=
 let q:=bound lo hi (size st)
 if q.2≠0 then(0,q)else((size st).1,q)
def done(st:St):Nat:=if st.2=0/\st.1≠ []then 5 else st.2
def script(st:St):St:=(take (within 0 40 st).1 (within 0 40 st).2).2
def nA(st:St):St:=(take 4 (script (take 36 st).2)).2
def fN(st:St):St:=script (take 8 st).2
def rep(f:St->St):Nat->St->St
 |0,st=>st|n+1,st=>rep f n (f st)
def ins(st:St):St:=rep nA (within 1 4 st).1 (within 1 4 st).2
def outs(st:St):St:=rep fN (within 1 4 st).1 (within 1 4 st).2
def body(st:St):St:=(take 4 (outs (ins (take 4 st).2))).2
def tx(st:St):List UInt8×St:=(st.1.take (st.1.length-(body st).1.length),body st)
def bE:Nat->St->List (List UInt8)×St
 |0,st=>([],st)|n+1,st=>if st.2≠0 then([],st)else((tx st).1::(bE n (tx st).2).1,(bE n (tx st).2).2)
def index(next bound:Nat)(st:St):Nat×St:=
 let p:=size st;let q:=if p.2.2=0/\(bound<=p.1∨bound<=next+p.1)then Ih 4 p.2 else p.2
 if q.2≠0 then(0,q)else(next+p.1,q)
def indexes(bound:Nat):Nat->Nat->St->List Nat×St
 |0,_,st=>([],st)|n+1,next,st=>if st.2≠0 then([],st)else
  let p:=index next bound st
  let q:=indexes bound n (p.1+1) p.2
  (p.1::q.1,q.2)
def fE(bound:Nat):Nat->Nat->St->List (Nat×List UInt8)×St
 |0,_,st=>([],st)|n+1,next,st=>if st.2≠0 then([],st)else
  let p:=index next bound st
  let t:=tx p.2;let q:=fE bound n (p.1+1) t.2
  ((p.1,t.1)::q.1,q.2)
def iN(k:Nat):Nat->St->List (List UInt8)×St
 |0,st=>([],st)|n+1,st=>if st.2≠0 then([],st)else
  let p:=take k st;let q:=iN k n p.2
  (p.1::q.1,q.2)
def fW n st(h:st.2≠0):take n st=([],st):=by unfold take;rw[if_pos h]
def UT st(h:st.2≠0):size st=(0,st):=by unfold size;simp only[fW 1 st h];rw[if_pos h]
def kX lo hi st(h:st.2≠0):within lo hi st=(0,st):=by unfold within bound;simp only[UT st h];rw[if_neg (by omega:¬(st.2=0/\_)),if_pos h]
def nI st(h:st.2≠0):script st=st:=by unfold script;rw[kX _ _ st h,fW _ _ h]
def Pc st(h:st.2≠0):nA st=st:=by unfold nA;rw[fW _ st h,nI st h,fW _ st h]
def Jq st(h:st.2≠0):fN st=st:=by unfold fN;rw[fW _ st h,nI st h]
def aav st(h:st.2≠0):ins st=st:=by unfold ins;rw[kX _ _ st h];rfl
def Jp st(h:st.2≠0):outs st=st:=by unfold outs;rw[kX _ _ st h];rfl
theorem yJ f(hf:∀st,st.2≠0->f st=st):∀n st,st.2≠0->rep f n st=st
 |0,_,_=>rfl|n+1,st,h=>by rw[rep,hf st h,yJ f hf n st h]
def Fj n st(h:st.2≠0):bE n st=([],st):=by cases n with|zero=>rfl|succ n=>rw[bE,if_pos h]
def pG b n next st(h:st.2≠0):indexes b n next st=([],st):=by cases n with|zero=>rfl|succ n=>rw[indexes,if_pos h]
def Ag{α β:Type}(x:R α)(f:α->β)(p:β×St):Prop:=match x with
 |.ok a r=>p=(f a,(r,0))
 |.bad e=>p.2.2=e/\e≠0
def As{α:Type}(x:R α)(st:St):Prop:=match x with
 |.ok _ r=>st=(r,0)
 |.bad e=>st.2=e/\e≠0
def Ag.asx{α β:Type}{x:R α}{f:α->β}{p:β×St}(h:Ag x f p):As x p.2:=by cases x with|ok a r=>have:p=_:=h;rw[this];rfl|bad e=>exact h
def As.void{α}{x:R α}{st}(h:As x st):As x.void st:=by cases x<;>exact h
theorem Ag.bind{α β γ δ x f}{p:β×St}{k:α->List UInt8->R γ}{g}{q:δ×St}(h:Ag x f p) (dR:∀a r,x=.ok a r->p=(f a,(r,0))->Ag (k a r) g q) (Nb:p.2.2≠0->q.2.2=p.2.2):Ag (x.bind k) g q:=by cases x with|ok a r=>exact dR a r rfl h|bad e=>have h':p.2.2=e/\e≠0:=h;exact⟨by rw[Nb (by rw[h'.1];exact h'.2),h'.1],h'.2⟩
def Ag.qb{α β γ x f}{p:β×St}{k:α->List UInt8->R γ}{st}(h:Ag x f p) (dR:∀a r,x=.ok a r->p=(f a,(r,0))->As (k a r) st) (Nb:p.2.2≠0->st.2=p.2.2):As (x.bind k) st:=by cases x with|ok a r=>exact dR a r rfl h|bad e=>have h':p.2.2=e/\e≠0:=h;exact⟨by rw[Nb (by rw[h'.1];exact h'.2),h'.1],h'.2⟩
theorem As.bind{α γ δ x st}{k:α->List UInt8->R γ}{g}{q:δ×St}(h:As x st) (dR:∀a r,x=.ok a r->st=(r,0)->Ag (k a r) g q) (Nb:st.2≠0->q.2.2=st.2):Ag (x.bind k) g q:=by cases x with|ok a r=>exact dR a r rfl h|bad e=>have h':st.2=e/\e≠0:=h;exact⟨by rw[Nb (by rw[h'.1];exact h'.2),h'.1],h'.2⟩
def As.qb{α γ x st st'}{k:α->List UInt8->R γ}(h:As x st) (dR:∀a r,x=.ok a r->st=(r,0)->As (k a r) st') (Nb:st.2≠0->st'.2=st.2):As (x.bind k) st':=by cases x with|ok a r=>exact dR a r rfl h|bad e=>have h':st.2=e/\e≠0:=h;exact⟨by rw[Nb (by rw[h'.1];exact h'.2),h'.1],h'.2⟩
def jH n l:Ag (Wr.take n l) id (take n (l,0)):=by unfold Wr.take take;by_cases h:l.length<n;simp[h,Ag];simp[h,Ag]
def take_len{n l a r}(h:Wr.take n l=.ok a r):a.length=n:=by unfold Wr.take at h;split at h;cases h;cases h;rw[List.length_take];omega
def Iw b(hb:¬b<253) l:Ag (Wr.rest b l) id (zx b (l,0)):=by unfold Wr.rest zx;refine(jH (more b) l).bind (λu r hu hp=>?_) (λh=>?_);rw[hp];have hl:=take_len hu;have he:=UU b u hb hl;dsimp only[id];by_cases h:cC.jo u<least b;rw[if_pos h,if_pos ⟨rfl,λe=>by have:=he.1 e;omega⟩];exact⟨rfl,by decide⟩;rw[if_neg h,if_neg (λhh=>hh.2 (he.2 (by omega)))];rfl;dsimp only;rw[if_neg (λhh=>h hh.1)]
def Ol l:Ag (Wr.size l) id (size (l,0)):=by
 unfold Wr.size size;refine(jH 1 l).bind (λt r ht hp=>?_) (λh=>?_);rw[hp];dsimp only[id];have e0:¬((0:Nat)≠0):=by simp
 rw[if_neg e0];by_cases h:nth t 0<253;rw[if_pos h,if_pos h];rfl;rw[if_neg h,if_neg h];exact Iw _ h r;dsimp only;rw[if_pos h]
def mM lo hi l:Ag (Wr.cM lo hi l) id (within lo hi (l,0)):=by unfold Wr.cM within bound;refine(Ol l).bind (λx r hx hp=>?_) (λh=>?_);rw[hp];dsimp only[id];by_cases h:x<lo∨hi<x;simp[h,Ih,Ag];simp[h,Ag];simp[h]
def Ee l:As (Wr.script l) (script (l,0)):=by unfold Wr.script script;refine(mM 0 40 l).qb (λn r hx hp=>?_) (λh=>?_);rw[hp];exact(jH n r).asx.void;rw[fW _ _ h]
def ahI l:As (Wr.nA l) (nA (l,0)):=by unfold Wr.nA nA;refine(jH 36 l).qb (λa r hx hp=>?_) (λh=>?_);rw[hp];refine(Ee r).qb (λa r hx hp=>?_) (λh=>?_);rw[hp];exact(jH 4 r).asx.void;rw[fW _ _ h];rw[nI _ h,fW _ _ h]
def ZW l:As (Wr.fN l) (fN (l,0)):=by unfold Wr.fN fN;refine(jH 8 l).qb (λa r hx hp=>?_) (λh=>?_);rw[hp];exact Ee r;rw[nI _ h]
theorem LF{p f}(hp:∀l,As (p l) (f (l,0)))(hf:∀st,st.2≠0->f st=st):∀n l,As (Wr.rep p n l) (rep f n (l,0))
 |0,_=>rfl|n+1,l=>by rw[Wr.rep,rep];refine(hp l).qb (λa r hx hs=>?_) (λh=>?_);rw[hs];exact LF hp hf n r;rw[yJ f hf n _ h]
def abx l:As (Wr.body l) (body (l,0)):=by
 unfold Wr.body body;refine(jH 4 l).qb (λa r hx hp=>?_) (λh=>?_);rw[hp];have h1:∀r,As ((Wr.cM 1 4 r).bind λn r=>Wr.rep Wr.nA n r) (ins (r,0)):=λr=>by refine(mM 1 4 r).qb (λn r' hx hp=>?_) (λh=>?_);unfold ins;rw[hp];exact LF ahI Pc n r';unfold ins;rw[yJ nA Pc _ _ h]
 have h2:∀r,As ((Wr.cM 1 4 r).bind λn r=>Wr.rep Wr.fN n r) (outs (r,0)):=λr=>by refine(mM 1 4 r).qb (λn r' hx hp=>?_) (λh=>?_);unfold outs;rw[hp];exact LF ZW Jq n r';unfold outs;rw[yJ fN Jq _ _ h]
 have h3:=h1 r;have e:((Wr.cM 1 4 r).bind λn r=>(Wr.rep Wr.nA n r).bind λ_ r=>(Wr.cM 1 4 r).bind λn r=>(Wr.rep Wr.fN n r).bind λ_ r=>(Wr.take 4 r).void) =
   ((Wr.cM 1 4 r).bind λn r=>Wr.rep Wr.nA n r).bind λ_ r=>((Wr.cM 1 4 r).bind λn r=>Wr.rep Wr.fN n r).bind λ_ r=>(Wr.take 4 r).void:=by
  rw[R.qQ];congr 1;funext n r;congr 1;funext _ r;rw[R.qQ]
 rw[e];refine h3.qb (λ_ r' hx hp=>?_) (λh=>?_);dsimp only[id];rw[hp];refine(h2 r').qb (λ_ r'' hx hp=>?_) (λh=>?_);rw[hp];exact(jH 4 r'').asx.void;rw[fW _ _ h];dsimp only[id];rw[Jp _ h,fW _ _ h];rw[aav _ h,Jp _ h,fW _ _ h]
def aca l:Ag (Wr.tx l) id (tx (l,0)):=by unfold Wr.tx tx;refine(abx l).bind (λa r hx hp=>?_) (λh=>rfl);rw[hp];rfl
theorem Uz:∀n l,Ag (Wr.bE n l) id (bE n (l,0))
 |0,_=>rfl|n+1,l=>by
  rw[Wr.bE,bE,if_neg (show¬((l,0):St).2≠0 by simp)];refine(aca l).bind (λt r hx hp=>?_) (λh=>?_);rw[hp];have ih:=Uz n r;dsimp only[id];generalize Wr.bE n r=x at ih;cases x with|ok a r'=>have:bE n (r,0)=_:=ih;rw[this];rfl|bad e=>exact ih
  rw[Fj _ _ h]
def Wm next b l:Ag (Wr.index next b l) id (index next b (l,0)):=by
 unfold Wr.index index;refine(Ol l).bind (λx r hx hp=>?_) (λh=>?_)
 ·rw[hp];dsimp only[id];by_cases h:b<=x∨b<=next+x
  simp[h,Ih,Ag];simp[h,Ag]
 simp[h]
theorem Bl b:∀n next l,Ag (Wr.indexes b n next l) id (indexes b n next (l,0))
 |0,_,_=>rfl|n+1,next,l=>by
  rw[Wr.indexes,indexes,if_neg (show¬((l,0):St).2≠0 by simp)];refine(Wm next b l).bind (λi r hx hp=>?_) (λh=>?_);rw[hp];have ih:=Bl b n (i+1) r;dsimp only[id];generalize Wr.indexes b n (i+1) r=x at ih;cases x with|ok a r'=>have:indexes b n (i+1) (r,0)=_:=ih;rw[this];rfl|bad e=>exact ih
  dsimp only;rw[pG _ _ _ _ h]
theorem Cd{α β}{x:R α}{f}{p:β×St}(h:Ag x f p):match fin x with
  |.ok a _=>done p.2=0/\p.1=f a
  |.bad e=>done p.2=e/\e≠0:=by
 cases x with
 |ok a r=>
  have h':p=_:=h;rw[h'];unfold fin done;dsimp only[R.bind];by_cases hr:r=[]
  ·rw[if_pos hr];dsimp only;exact⟨by rw[if_neg (λhh=>hh.2 hr)],rfl⟩
  ·rw[if_neg hr];dsimp only;exact⟨by rw[if_pos ⟨rfl,hr⟩],by decide⟩
 |bad e=>
  have h':p.2.2=e/\e≠0:=h;unfold fin done;dsimp only[R.bind];exact⟨by rw[if_neg (λhh=>h'.2 (by rw[<-h'.1];exact hh.1)),h'.1],h'.2⟩
end Rf
namespace En
open Wr
def yj(d:List UInt8):UInt64:=cC.le (d.take 8)
def yh(d:List UInt8):UInt64:=cC.le ((d.drop 8).take 8)
def Hr(x:UInt64):List UInt8:=low x.toNat 6
def short(h n t:List UInt8):List UInt8:=Hr (cC.Lt (yj (aR.sum (h++n))) (yh (aR.sum (h++n))) (aR.sum (aR.sum t)))
def ee(n:Nat):Int->List Int->Nat
 |_,[]=>0|lo,i::l=>if i<0∨(n:Int)<=i then 4 else if i<lo then 11 else ee n (i+1) l
def chk(n:Nat)(l:List Int):Nat:=if ee n 0 l≠0 then ee n 0 l else if l.headD 1=0 then 0 else 11
def ah(al:List Int)(bE:List (List UInt8)):Nat->List (List UInt8)
 |0=>[]|i+1=>if(i:Int)∈al then ah al bE i++[bE.getD i []]else ah al bE i
def kept(f:List UInt8->List UInt8)(al:List Int)(bE:List (List UInt8)):Nat->List (List UInt8)
 |0=>[]|i+1=>if(i:Int)∈al then kept f al bE i else kept f al bE i++[f (bE.getD i [])]
def dz:Int->List Int->List (List UInt8)
 |_,[]=>[]|next,i::l=>dD (i-next).toNat::dz (i+1) l
def told:List (List UInt8)->List (List UInt8)->List UInt8
 |g::gs,t::ts=>g++t++told gs ts|_,_=>[]
def bytes(h n:List UInt8)(ae:List (List UInt8))(al:List Int)(ts:List (List UInt8)):List UInt8:=h++n++(dD ae.length++ae.flatten)++(dD al.length++told (dz 0 al) ts)
def qh(n:Nat):Int->List Int->Prop
 |_,[]=>True|lo,i::l=>lo<=i/\i<n/\qh n (i+1) l
theorem wQ n:∀l lo,ee n lo l=0->qh n lo l
 |[],_,_=>trivial|i::l,lo,h=>by rw[ee]at h;by_cases h1:i<0∨(n:Int)<=i;rw[if_pos h1]at h;cases h;rw[if_neg h1]at h;by_cases h2:i<lo;rw[if_pos h2]at h;cases h;rw[if_neg h2]at h;exact⟨by omega,by omega,wQ n l (i+1) h⟩
def Gi(i:Nat)(al:List Int):List Int:=al.filter λj=>decide (j< (i:Int))
theorem FG n:∀al lo,qh n lo al->∀j∈al,lo<=j
 |[],_,_,j,h=>by cases h
 |i::l,lo,h,j,hj=>by obtain⟨h1,h2,h3⟩:=h;rcases List.mem_cons.1 hj with rfl|hj;exact h1;have:=FG n l _ h3 j hj;omega
theorem JA n i:∀al lo,qh n lo al->Gi (i+1) al=Gi i al++(if(i:Int)∈al then [(i:Int)]else [])
 |[],_,_=>by simp[Gi]|j::l,lo,h=>by
  obtain⟨h1,h2,h3⟩:=h;have ih:=JA n i l _ h3;have hge:=FG n l _ h3;unfold Gi at ih|-;rw[List.filter_cons,List.filter_cons];by_cases aS:j< (i:Int);have e1:decide (j< ((i+1:Nat):Int))=true:=by simp;omega
  have e2:decide (j< (i:Int))=true:=by simpa using aS
  rw[if_pos e1,if_pos e2,ih,List.cons_append];have e3:(i:Int)∈j::l->(i:Int)∈l:=λhh=>by rcases List.mem_cons.1 hh with hh|hh;omega;exact hh
  by_cases h4:(i:Int)∈l;rw[if_pos h4,if_pos (List.mem_cons_of_mem _ h4)];rw[if_neg h4,if_neg (λhh=>h4 (e3 hh))];have e2:¬(decide (j< (i:Int))=true):=by simpa using aS
  rw[if_neg e2];have hl:∀k:Nat,k<=i+1->l.filter (λx=>decide (x< (k:Int)))=[]:=λk hk=>by rw[List.filter_eq_nil_iff];intro x hx;have:=hge x hx;simp;omega
  rw[hl i (by omega),hl (i+1) (by omega)];by_cases h5:j=(i:Int);subst h5;simp;omega;have e1:¬(decide (j< ((i+1:Nat):Int))=true):=by simp;omega
  rw[if_neg e1,if_neg];rfl;intro hh;rcases List.mem_cons.1 hh with hh|hh;omega;have:=hge _ hh;omega
def jq(next:Int):List Int->Int
 |[]=>next|i::l=>jq (i+1) l
theorem EV i:∀l next,dz next (l++[i])=dz next l++[dD (i-jq next l).toNat]
 |[],_=>rfl|j::l,next=>by rw[List.cons_append,dz,EV i l,dz];rfl
theorem Be i:∀l next,jq next (l++[i])=i+1
 |[],_=>rfl|j::l,next=>by rw[List.cons_append,jq,Be i l]
theorem DY g t:∀gs ts,gs.length=ts.length->told (gs++[g]) (ts++[t])=told gs ts++(g++t)
 |[],[],_=>by simp[told]|[],_::_,h=>by simp at h|_::_,[],h=>by simp at h|a::gs,b::ts,h=>by rw[List.cons_append,List.cons_append,told,DY g t gs ts (by simpa using h),told];simp only[List.append_assoc]
theorem gn:∀l next,(dz next l).length=l.length
 |[],_=>rfl|i::l,next=>by simp[dz,gn l]
theorem wM n al bE(h:qh n 0 al):∀i,(ah al bE i).length=(Gi i al).length
 |0=>by
  have:Gi 0 al=[]:=by unfold Gi;rw[List.filter_eq_nil_iff];intro x hx;have:=FG n al 0 h x hx;simp;omega
  rw[this];rfl|i+1=>by rw[JA n i al 0 h,ah,List.length_append];have ih:=wM n al bE h i;split;rw[List.length_append,ih];rfl;rw[ih];rfl
theorem FF n:∀al lo,qh n lo al->∀j∈al,j< (n:Int)
 |[],_,_,j,h=>by cases h
 |i::l,lo,h,j,hj=>by obtain⟨h1,h2,h3⟩:=h;rcases List.mem_cons.1 hj with rfl|hj;exact h2;exact FF n l _ h3 j hj
theorem zN n:∀al lo,0<=lo->qh n lo al->lo+al.length<=n∨al=[]
 |[],_,_,_=>.inr rfl|i::l,lo,h0,h=>by obtain⟨h1,h2,h3⟩:=h;rcases zN n l (i+1) (by omega) h3 with h4|rfl;left;rw[List.length_cons];omega;left;simp;omega
def encode(block:List UInt8)(aI:UInt64)(al:List Int):List UInt8×Nat:=
 match dx block with
 |.bad e=>([],e)
 |.ok (h,bE) _=>
  if chk bE.length al≠0 then([],chk bE.length al)else
  (bytes h (low aI.toNat 8) (kept (short h (low aI.toNat 8)) al bE bE.length) al (ah al bE bE.length),0)
def pick(bE:List (List UInt8)):List Nat->Option (List (List UInt8))
 |[]=>some []|i::l=>if bE.length<=i then none else(pick bE l).map λts=>bE.getD i []::ts
def serve(block request:List UInt8):List UInt8×Nat:=
 match dx block with
 |.bad e=>([],e)
 |.ok (h,bE) _=>match dp request with
  |.bad e=>([],e)
  |.ok (n,l) _=>if n≠aR.sum (aR.sum h)then([],6)else match pick bE l with
   |none=>([],4)
   |some ts=>(n++(dD ts.length++ts.flatten),0)
end En
namespace Mk
def dG l:(ak l).length=32:=aR.fO _
def up:List (List UInt8)->List (List UInt8)
 |[]=>[]|[a]=>[ak (a++a)]|a::b::t=>ak (a++b)::up t
def qU:List (List UInt8)->Bool
 |a::b::t=>a==b || qU t|_=>false
theorem mP:∀l,(up l).length=(l.length+1) / 2
 |[]=>rfl|[_]=>by simp[up]|a::b::t=>by simp[up,mP t];omega
def run:Nat->List (List UInt8)->Bool->List UInt8×Bool
 |0,l,m=>(l.headD [],m)|n+1,l,m=>if l.length<=1 then(l.headD [],m)else run n (up l) (m || qU l)
def zK:∀n k l m,l.length<=n->l.length<=k->run n l m=run k l m:=by
 intro n;induction n with
 |zero=>intro k l m h _;cases k with|zero=>rfl|succ k=>rw[run,run,if_pos (by omega)]
 |succ n ih=>intro k l m hn hk;cases k with|zero=>rw[run,run,if_pos (by omega)]|succ k=>rw[run,run];split;rfl;have:=mP l;exact ih k _ _ (by omega) (by omega)
def root(l:List (List UInt8))(m:Bool):List UInt8×Bool:=run l.length l m
def Vb l m(h:l.length<=1):root l m=(l.headD [],m):=by unfold root;rw[zK _ 1 _ _ ν h,run,if_pos h]
def ZK l m(h:1<l.length):root l m=root (up l) (m || qU l):=by have hl:=mP l;unfold root;rw[zK _ (l.length-1+1) _ _ ν (by omega),run,if_neg (by omega)];exact zK _ _ _ _ (by omega) ν
def qO(l:List (List UInt8)) i(h:i<l.length):l.drop i=l.getD i []::l.drop (i+1):=by rw[List.drop_eq_getElem_cons h,List.getD_eq_getElem?_getD,List.getElem?_eq_getElem h];rfl
def Zp(l:List (List UInt8)) i(h:i+1<l.length):up (l.drop i)=ak (l.getD i []++l.getD (i+1) [])::up (l.drop (i+2)):=by rw[qO l i (by omega),qO l (i+1) h];rfl
def Zq(l:List (List UInt8)) i(h:i+1=l.length):up (l.drop i)=ak (l.getD i []++l.getD i [])::up (l.drop (i+2)):=by rw[qO l i (by omega),List.drop_of_length_le (by omega),List.drop_of_length_le (by omega)];rfl
def Qk(l:List (List UInt8)) i(h:i+1<l.length):qU (l.drop i)=(l.getD i []==l.getD (i+1) [] || qU (l.drop (i+2))):=by rw[qO l i (by omega),qO l (i+1) h];rfl
def Ir(l:List (List UInt8)) i(h:l.length<=i+1):qU (l.drop i)=false:=by by_cases hi:i<l.length;rw[qO l i hi,List.drop_of_length_le (by omega)];rfl;rw[List.drop_of_length_le (by omega)];rfl
theorem Il:∀l,∀x∈up l,x.length=32
 |[],_,h=>by simp[up]at h|[a],x,h=>by simp[up]at h;rw[h];exact dG _|a::b::t,x,h=>by simp only[up,List.mem_cons]at h;rcases h with rfl|h;exact dG _;exact Il t x h
end Mk
namespace Cp
open Wr En
abbrev B:=List UInt8
structure RS where
 header:B
 bE:List B
 missing:List Nat
def idle:RS:=⟨[],[],[]⟩
def sM(f:B->B)(P:List B)(s:B):List B:=P.filter λt=>f t==s
def fill(f:B->B)(P:List B)(ah:List (Nat×B)):Nat->Nat->List B->List B×List Nat
 |0,_,_=>([],[])|n+1,i,ss=>match ah.lookup i with
  |some t=>(t::(fill f P ah n (i+1) ss).1,(fill f P ah n (i+1) ss).2)
  |none=>match sM f P (ss.headD [])with
   |[t]=>(t::(fill f P ah n (i+1) ss.tail).1,(fill f P ah n (i+1) ss.tail).2)
   |_=>([]::(fill f P ah n (i+1) ss.tail).1,i::(fill f P ah n (i+1) ss.tail).2)
def finish(h:B)(ts:List B):Nat×B:=if(Mk.root (ts.map Mk.ak) false).2=true∨(Mk.root (ts.map Mk.ak) false).1≠(h.drop 36).take 32 then(3,[])else(2,h++(dD ts.length++ts.flatten))
def request(h:B)(is:List Nat):B:=Mk.ak h++dD is.length++(dz 0 (is.map λ(i:Nat)=>(i:Int))).flatten
def compact(P:List B)(l:B):(Nat×B)×Nat×RS:=
 match cg l with
 |.bad e=>((0,[]),e,idle)
 |.ok c _=>if¬c.ae.Nodup then((3,[]),0,idle)else
  let r:=fill (short c.header c.aI) P c.ah (c.ae.length+c.ah.length) 0 c.ae
  if r.2=[]then(finish c.header r.1,0,idle)else((1,request c.header r.2),0,⟨c.header,r.1,r.2⟩)
def put(ts:List B):List Nat->List B->List B
 |i::is,t::us=>put (ts.set i t) is us|_,_=>ts
def eK(s:RS)(l:B):(Nat×B)×Nat×RS:=
 match dO l with
 |.bad e=>((0,[]),e,s)
 |.ok (n,ts) _=>if s.missing=[]then((0,[]),8,s)else if n≠Mk.ak s.header then((0,[]),6,s)else if ts.length≠s.missing.length then((0,[]),7,s)else
  (finish s.header (put s.bE s.missing ts),0,idle)
theorem gd:∀is us ts,(put ts is us).length=ts.length
 |[],us,ts=>by cases us<;>rfl
 |_::_,[],_=>rfl|i::is,t::us,ts=>by rw[put,gd is us];simp
end Cp
namespace ax
section
variable{P:Program}{ops:Array Oper}{w:World}
def tn(ops:Array Oper)(m n:Nat):Bool:=(List.range n).all λi=>decide (i<m) ||(List.range (n+1)).any λj=>decide (i<j)&&Region.waitsFor .any ops j i
def sW(m:Nat)(listed:Array Bool):Prop:=∀i,i<m->listed.getD i true=true
def sW.set{m i listed}(h:sW m listed):sW m (listed.setIfInBounds i true):=λj hj=>by by_cases kx:i=j;subst kx;have:=h i hj;simp only[Array.getD_eq_getD_getElem?,Array.getElem?_setIfInBounds_self]at this|-;split<;>simp_all;rw[getD_set_ne true kx];exact h j hj
def waits{m n listed}(hs:tn ops m n=true)(hc:Region.chainB .any ops n=true)(inv:HeadInv .any ops n listed)(hf:sW m listed){t}(ht:n<=t)(hr:t∈Region.ready .any ops listed):∀i,i<n->listed.getD i true=true:=by
 obtain⟨_,ot,Ps,gQ⟩:=mem_ready.1 hr;have as7:t<ops.size:=(Array.getElem?_eq_some_iff.1 Ps).1;have TN:t=n:=by apply Classical.byContradiction;intro cE;have h1:=List.all_eq_true.1 hc t (List.mem_range.2 as7);simp only[Bool.or_eq_true,decide_eq_true_eq]at h1;rcases h1 with h1|h1;omega;obtain⟨o',ho',e,he,hb,hon⟩:=Region.waitsFor_spec h1;obtain rfl:o'=ot:=Option.some.inj (ho'.symm.trans Ps);have h2:=gQ e he hb;rw[hon,getD_both (inv.tail (t-1) (by omega) (by omega))]at h2;cases h2
 subst TN;intro i;generalize hd:t-i=d;induction d using Nat.strongRecOn generalizing i with
 |_ d ih=>
 intro hi;cases hl:listed.getD i true with
 |true=>rfl|false=>
 exfalso;have h1:=List.all_eq_true.1 hs i (List.mem_range.2 hi);simp only[Bool.or_eq_true,decide_eq_true_eq]at h1;rcases h1 with h1|h1;rw[hf i h1]at hl;cases hl;obtain⟨j,hj,hj2⟩:=List.any_eq_true.1 h1;simp only[Bool.and_eq_true,decide_eq_true_eq]at hj2;obtain⟨oj,hoj,e,he,hb,hon⟩:=Region.waitsFor_spec hj2.2;have aBC:=List.mem_range.1 hj;rcases Nat.lt_or_ge j t with hjt|hjt;have h3:=ih (t-j) (by omega) j rfl hjt;have h4:listed.getD j false=true:=by cases h5:listed.getD j false with|true=>rfl|false=>rw[getD_in (by rw[inv.size];omega) h5]at h3;cases h3
 have h5:=inv.closed j oj hoj h4 e he hb;rw[hon,getD_both hl]at h5;cases h5;obtain rfl:j=t:=by omega
 obtain rfl:oj=ot:=Option.some.inj (hoj.symm.trans Ps);have h2:=gQ e he hb;rw[hon,getD_both hl]at h2;cases h2
def first{m n i oi v L}(hi:ops[i]? =some oi)(mD:Region.noSelect ops=true)(hs:tn ops m n=true)(hc:Region.chainB .any ops n=true)(TY:i<n) (amp:∀listed a,L listed a->∀j∈Region.ready .any ops listed,n<=j):∀f listed a,HeadInv .any ops n listed->sW m listed->(∀j oj,ops[j]? =some oj->j≠i->listed.getD j true=false->(∀e∈oj.after,Region.binds .any e=true->e.on≠i)->oi.apart ops oj=true)->i∈Region.ready .any ops listed->YieldsAt P ops w oi v a->wpAnyL P .any ops w n L f (listed.setIfInBounds i true) (a.put oi.dst v)->wpAnyL P .any ops w n L (f+1) listed a:=by
 intro f;induction f with
 |zero=>intro listed a inv Gt _ hr hy H;refine⟨λh=>by simp[h]at hr,λj hj=>?_⟩;have Wx:=(mem_ready.1 hr).1;by_cases aS:j=i;rw[aS];exact⟨TY,hy.stOp hi H⟩;have h1:=amp _ _ H j (ready_mono hj aS);have h2:=waits hs hc inv Gt h1 hj i TY;rw[Wx]at h2;cases h2
 |succ f ih=>
 intro listed a inv Gt ac3 hr hy H;refine⟨λh=>by simp[h]at hr,λj hj=>?_⟩;have Wx:=(mem_ready.1 hr).1;have hjn:j<n:=Nat.lt_of_not_le λh1=>by have h2:=waits hs hc inv Gt h1 hj i TY;rw[Wx]at h2;cases h2
 refine⟨hjn,?_⟩;by_cases aS:j=i;rw[aS];exact hy.stOp hi H;obtain⟨al7,oj,hoj,gQ⟩:=mem_ready.1 hj;have hap:oi.apart ops oj=true:=ac3 j oj hoj aS al7 λe he hb heq=>by have h1:=gQ e he hb;rw[heq,getD_both Wx]at h1;cases h1
 refine stOp_mono (λa' h3=>?_) (stOp_put hoj hap (λcs b=>Region.noSelect_spec mD i oi cs b hi) (λcs b=>Region.noSelect_spec mD j oj cs b hoj) hy (H.2 j (ready_mono hj aS)).2);refine ih _ a' (inv.set hj hjn) Gt.set (λk ok hk Lb atK um=>ac3 k ok hk Lb ?_ um) (ready_mono hr (Ne.symm aS)) h3.1 ?_;by_cases Y9:j=k;rw[<-Y9];exact al7;rwa[getD_set_ne true Y9]at atK;rw[Array.setIfInBounds_comm _ _ aS];exact h3.2
def lex{m n g Lq}(mD:Region.noSelect ops=true)(hs:tn ops m n=true)(hc:Region.chainB .any ops n=true):∀l k listed a,(∀j,j<l.length->l[j]? =ops[k+j]?)->k+l.length=n->HeadInv .any ops n listed->sW m listed->Region.lexHead .any ops g l.length k listed=true->wpStill P ops w Lq l a->wpAnyL P .any ops w n (λOY a'=>Region.seqB .any ops g n OY=true/\Lq a') l.length listed a:=by
 intro l;induction l with
 |nil=>
 intro k listed a _ hk _ _ hB h;obtain rfl:k=n:=by simpa using hk
 exact⟨by simpa[Region.lexHead]using hB,h⟩|cons o l ih=>
 intro k listed a hl hk inv Gt hB h;have h0:ops[k]? =some o:=(hl 0 (by simp)).symm.trans rfl |>.symm▸rfl;simp only[List.length_cons,Region.lexHead,Bool.and_eq_true]at hB;have hkn:k<n:=by rw[List.length_cons]at hk;omega
 have hr:k∈Region.ready .any ops listed:=by simpa using hB.1.1
 obtain⟨v,hy,hK⟩:=yieldsAt_of_stOp (K:=wpStill P ops w Lq l) h0 (by unfold stOp;rw[h0];exact h);refine first h0 mD hs hc hkn (λOY a' hL=>seqB_ready hL.1) l.length listed a inv Gt (Region.free_spec h0 hB.1.2) hr hy ?_
 refine ih (k+1) _ _ (λj hj=>?_) (by rw[List.length_cons]at hk;omega) (inv.set hr hkn) Gt.set hB.2 hK;have:=hl (j+1) (by rw[List.length_cons];omega);rw[show k+1+j=k+(j+1)by omega];exact this
end
def vZ(ops:Array Oper):Nat->Nat->Array Bool->Bool
 |0,_,_=>true|f+1,k,listed=>(Region.ready .any ops listed).contains k&&Region.free .any ops listed k&&vZ ops f (k+1) (listed.setIfInBounds k true)
def mover(o:Oper):Bool:=match o.op,o.guard with
 |.move _,none=>true
 |_,_=>false
def pD(a:Act)(o:Oper):Act:=match o.op with
 |.move x=>a.put o.dst (a.eval x)
 |_=>a
def marks:Nat->Nat->Array Bool->Array Bool
 |0,_,listed=>listed|f+1,k,listed=>marks f (k+1) (listed.setIfInBounds k true)
def float{P ops Q}(mD:Region.noSelect ops=true)(hQ:∀c (a:Act) d v w,Q (.panic c) (a.put d v) w->Q (.panic c) a w) fuel w:∀(l:List Oper)(k)(listed)(a),(∀j,j<l.length->l[j]? =ops[k+j]?)->l.all mover=true->vZ ops l.length k listed=true->wpAny P .any ops Q fuel (marks l.length k listed) (l.foldl pD a) w->wpAny P .any ops Q (fuel+l.length) listed a w:=by
 intro l;induction l with
 |nil=>intro k listed a _ _ _ h;exact h|cons o l ih=>
 intro k listed a hl hm hB h;have h0:ops[k]? =some o:=(hl 0 (by simp)).symm.trans rfl |>.symm▸rfl;simp only[List.length_cons,vZ,Bool.and_eq_true]at hB;simp only[List.all_cons,Bool.and_eq_true]at hm;have hy:∃v,Yields P ops o v a/\pD a o=a.put o.dst v:=by have Xd:=hm.1;unfold mover at Xd;split at Xd;rename_i x ho hg;refine⟨a.eval x,.inl ⟨by simp[Region.wanted,hg],λw=>?_⟩,by unfold pD;rw[ho]⟩;simp[execOp,ho,Sem.run_pure];cases Xd
 obtain⟨v,hy,hv⟩:=hy;refine wpAny_take (fuel:=fuel+l.length) h0 mD hB.1.2 hB.1.1 (λc a w hq=>hQ c _ _ _ w hq) hy ?_;refine ih (k+1) _ _ (λj hj=>?_) hm.2 hB.2 ?_;have:=hl (j+1) (by rw[List.length_cons];omega);rw[show k+1+j=k+(j+1)by omega];exact this;rw[<-hv];exact h
def UI(ops:Array Oper)(m n:Nat):Bool:=Region.noSelect ops&&decide (m<=n)&&decide (n<ops.size)&&tn ops m n&&Region.chainB .any ops n&&vZ ops m 0 (Array.replicate ops.size false)&&Region.lexHead .any ops (ops.size-n) (n-m) m (marks m 0 (Array.replicate ops.size false))
theorem ED:∀f k listed j,(marks f k listed).size=listed.size/\(∀d,(marks f k listed).getD j d=if k<=j/\j<k+f/\j<listed.size then true else listed.getD j d)
 |0,k,listed,j=>⟨rfl,λd=>by rw[if_neg (by omega)];rfl⟩|f+1,k,listed,j=>by obtain⟨h1,h2⟩:=ED f (k+1) (listed.setIfInBounds k true) j;refine⟨by rw[marks,h1];simp,λd=>?_⟩;rw[marks,h2 d];by_cases hkj:k=j;subst hkj;rw[if_neg (by omega)];by_cases hs:k<listed.size;rw[if_pos ⟨ν,by omega,hs⟩];simp[Array.getD_eq_getD_getElem?,hs];rw[if_neg (by omega)];simp[Array.getD_eq_getD_getElem?,hs];rw[getD_set_ne d hkj];by_cases hc:k+1<=j/\j<k+1+f/\j< (listed.setIfInBounds k true).size;rw[if_pos hc,if_pos];simp at hc;omega;rw[if_neg hc,if_neg];simp at hc;omega
def RY{ops n}:∀f k listed,k+f<=n->vZ ops f k listed=true->HeadInv .any ops n listed->HeadInv .any ops n (marks f k listed):=by intro f;induction f with|zero=>intro k listed _ _ h;exact h|succ f ih=>intro k listed hk hB h;simp only[vZ,Bool.and_eq_true]at hB;exact ih (k+1) _ (by omega) hB.2 (h.set (by simpa using hB.1.1) (by omega))
def acf{P id Q a w}{l:List Oper} m n(hm:P.follows .mixedOrders=true)(hB:UI l.toArray m n=true) (Y7:(l.take m).all mover=true) (hp:((l.take n).drop m).all (λo=>plain o.op)=true) (hQ:∀c (a:Act) d v w,Q (.panic c) (a.put d v) w->Q (.panic c) a w) (h:wpQuiet P l.toArray (λw'=>∃k,w'=w.drewN k) (λa'=>wpList P l.toArray Q (l.drop n) a' w.drew) ((l.take n).drop m) ((l.take m).foldl pD a)):(Code.region id l.toArray true).wp P Q a w:=by
 simp only[UI,Bool.and_eq_true,decide_eq_true_eq]at hB;obtain⟨⟨⟨⟨⟨⟨mD,hmn⟩,hn⟩,hs⟩,hc⟩,Gt⟩,atG⟩:=hB;have hn':n<l.length:=by simpa using hn
 have yL:(l.take m).length=m:=by simp;omega
 have hdm:((l.take n).drop m).length=n-m:=by simp;omega
 have hdl:(l.drop n).length=l.toArray.size-n:=by simp
 have asI:HeadInv .any l.toArray n (Array.replicate l.toArray.size false):=⟨by simp,λj oj _ hl=>(by rw[getD_replicate_false]at hl;cases hl),λt _ ht=>getD_in (by simpa using ht) (getD_replicate_false _ _)⟩;have inv1:=RY m 0 _ (by omega) Gt asI;have fl1:sW m (marks m 0 (Array.replicate l.toArray.size false)):=λi hi=>by rw[(ED m 0 _ i).2 true,if_pos ⟨by omega,by omega,by simp;omega⟩]
 have aT:=eO (w:=w.drew) (C:=λw'=>∃k,w'=w.drewN k) ⟨1,rfl⟩ _ _ hp h;have H:=lex (P:=P) (ops:=l.toArray) (w:=w.drew) (g:=l.toArray.size-n) mD hs hc ((l.take n).drop m) m _ ((l.take m).foldl pD a) (λj hj=>by rw[hdm]at hj;rw[List.getElem?_drop,List.getElem?_take_of_lt (by omega)];simp) (by rw[hdm];omega) inv1 fl1 (by rw[hdm];exact atG) aT;refine wp_region_any hm ?_;have H2:=wpAny_of_head (Q':=Q) (g:=l.toArray.size-n) (λlisted a' hL=>by have:=wpAny_of_seq (md:=.any) (Q':=Q) (l.drop n) n listed a' w.drew (λj=>by simp[List.getElem?_drop]) (by rw[hdl];exact hL.1) hL.2;rwa[hdl]at this) _ _ _ H;rw[hdm]at H2;have H3:=float (P:=P) (ops:=l.toArray) (Q:=Q) mD hQ (n-m+(l.toArray.size-n)) w.drew (l.take m) 0 (Array.replicate l.toArray.size false) a (λj hj=>by rw[yL]at hj;rw[List.getElem?_take_of_lt hj];simp) Y7 (by rw[yL];exact Gt) (by rw[yL];exact H2);rw[yL,show n-m+(l.toArray.size-n)+m=l.toArray.size by omega]at H3;exact H3
end ax
namespace ax
def Mu{P w w' s}:(s >>= λv=>pure (Next.value v):Sem Next).run P w≠.ok .skip w':=by intro h;rw[Sem.run_bind]at h;cases hr:s.run P w with|ok v w1=>rw[hr]at h;simp[Result.andThen,Sem.run_pure]at h|halt x w1=>rw[hr]at h;simp[Result.andThen]at h
def pZ{α P w w' s}{g:α->Sem Next}(h:∀v w1,(g v).run P w1≠.ok .skip w'):(s >>= g).run P w≠.ok .skip w':=by intro hr;rw[Sem.run_bind]at hr;cases hs:s.run P w with|ok v w1=>rw[hs]at hr;exact h v w1 hr|halt x w1=>rw[hs]at hr;simp[Result.andThen]at hr
def jJ:Op->Bool
 |.move _|.assign _|.load _ _|.binOp _ _ _ _ _|.unOp _ _ _|.convert _ _ _|.fieldAddr _ _ _|.indexAddr _ _ _|.index _ _ _|.slice _ _ _ _ _|.build _ _|.extract _ _|.nilCheck _=>true|.call c=>match c.callee with
  |.builtin .len|.builtin .min|.builtin .max=>true
  |_=>false
 |_=>false
def LI{P ev o w w' f args}(h:jJ o.op=true):(execOp ev o).run P w≠.ok (.enter f args) w':=by
 cases ho:o.op<;>rw[ho]at h<;>simp only[jJ,Bool.false_eq_true]at h;case call c=>obtain⟨callee,asx,ts⟩:=c;cases callee<;>simp only[Bool.false_eq_true]at h;rename_i b;cases b<;>simp only[Bool.false_eq_true]at h<;>(unfold execOp;simp only[ho];simp only[resolve,invoke,builtin,Sem.run_bind,Sem.run_pure,Result.andThen];intro hr;split at hr<;>simp_all)
 case extract t i=>unfold execOp;simp only[ho];first|exact qz|exact VZ
 all_goals exact Je (by rw[ho];rfl)
def zX{P ev o w w'}(h:jJ o.op=true):(execOp ev o).run P w≠.ok .skip w':=by
 cases ho:o.op<;>rw[ho]at h<;>simp only[jJ,Bool.false_eq_true]at h;case call c=>obtain⟨callee,asx,ts⟩:=c;cases callee<;>simp only[Bool.false_eq_true]at h;rename_i b;cases b<;>simp only[Bool.false_eq_true]at h<;>(unfold execOp;simp only[ho];simp only[resolve,invoke,builtin,Sem.run_bind,Sem.run_pure,Result.andThen];intro hr;split at hr<;>simp_all)
 case nilCheck x=>
  unfold execOp;simp only[ho];intro hr;split at hr;all_goals first|(simp[runtimePanic,Sem.run_bind]at hr;done)|skip
  split at hr;simp[runtimePanic,Sem.run_bind]at hr;exact pZ (λ_ _=>pZ λ_ _=>by split;exact pZ (λ_ _=>by simp[Sem.run_pure]);simp[Sem.run_pure]) hr;simp[Sem.run_pure]at hr
 all_goals (unfold execOp;simp only[ho];first|(simp[Sem.run_pure];done)|exact Mu)
def tf(ops:Array Oper):List Nat->Array Bool->Bool
 |[],_=>true|i::r,listed=>(Region.ready .any ops listed).contains i&&Region.free .any ops listed i&&tf ops r (listed.setIfInBounds i true)
def sH:List Nat->Array Bool->Array Bool
 |[],listed=>listed|i::r,listed=>sH r (listed.setIfInBounds i true)
section
variable{P:Program}{ops:Array Oper}{Q:Exit->Act->World->Prop}{S:World->Prop}
def sY{o a K}(hp:jJ o.op=true)(hw:Region.wanted o (yielded ops a.tmps)=true)(h:o.quiet P a S K):∃v,YieldsIf P ops S o v a/\K (a.put o.dst v):=by
 obtain⟨v,h1,h2⟩:=h;refine⟨v,.inl ⟨hw,λw hS=>?_⟩,h2⟩;have h3:=h1 w hS;unfold Oper.quietAt at h3;have cE:=λf args w'=>LI (P:=P) (ev:=a.eval) (o:=o) (w:=w) (w':=w') (f:=f) (args:=args) hp;have hns:=λw'=>zX (P:=P) (ev:=a.eval) (o:=o) (w:=w) (w':=w') hp;generalize(execOp a.eval o).run P w=r at *;cases r with
 |ok n w'=>
 cases n<;>simp only[Oper.quietUpon]at h3;case value u=>obtain⟨e1,e2⟩:=h3;rw[e1,e2]
 case skip=>exact absurd rfl (hns w')
 case enter f args=>exact absurd rfl (cE f args w')
 |halt x w'=>simp only[Oper.quietUpon]at h3
def iN(mD:Region.noSelect ops=true)(hQ:∀c (a:Act) d v w,Q (.panic c) (a.put d v) w->Q (.panic c) a w) fuel w(hS:S w):∀is os listed a,is.map (λi=>ops[i]?)=os.map some->tf ops is listed=true->os.all (λo=>jJ o.op)=true->wpQuiet P ops S (λa'=>wpAnyH P .any ops Q S fuel (sH is listed) a' w) os a->wpAnyH P .any ops Q S (fuel+is.length) listed a w:=by
 intro is;induction is with
 |nil=>
 intro os listed a hi _ _ h;have:os=[]:=by simpa using hi.symm
 subst this;exact h|cons i is ih=>
 intro os listed a hi hB hp h;cases os with
 |nil=>simp at hi|cons o os=>
 simp only[List.map_cons,List.cons.injEq]at hi;simp only[tf,Bool.and_eq_true]at hB;simp only[List.all_cons,Bool.and_eq_true]at hp;have hy:∃v,YieldsIf P ops S o v a/\wpQuiet P ops S (λa'=>wpAnyH P .any ops Q S fuel (sH is (listed.setIfInBounds i true)) a' w) os (a.put o.dst v):=by unfold wpQuiet at h;split at h;rename_i hw;exact sY hp.1 hw h;rename_i hw;exact⟨undef,.inr ⟨by simpa using hw,rfl⟩,h⟩
 obtain⟨v,hy,h2⟩:=hy;exact wpAnyH_take (fuel:=fuel+is.length) hi.1 mD hB.1.2 hB.1.1 (λc a w hq=>hQ c _ _ _ w hq) hy hS (ih os _ _ hi.2 hB.2 hp.2 h2)
structure Of(S:World->Prop) where
 w:World
 h:S w
def cls(S:World->Prop):World->Prop:=λw'=>∃u:Of S,w'=u.w
def aq{S w}(h:S w):cls S w:=⟨⟨w,h⟩,rfl⟩
def start{id a w} is os fuel(hm:P.follows .mixedOrders=true)(mD:Region.noSelect ops=true)(hl:fuel+is.length=ops.size) (hQ:∀c (a:Act) d v w,Q (.panic c) (a.put d v) w->Q (.panic c) a w) (hi:is.map (λi=>ops[i]?)=os.map some) (hB:tf ops is (Array.replicate ops.size false)=true) (hp:os.all (λo=>jJ o.op)=true) S (hS:S w.drew) (h:wpQuiet P ops (λw'=>∃u:Of S,w'=u.w) (λa'=>wpAnyH P .any ops Q (cls S) fuel (sH is (Array.replicate ops.size false)) a' w.drew) os a):(Code.region id ops true).wp P Q a w:=by
 refine wp_region_held (S:=cls S) hm ?_;rw[<-hl];have hz:(Array.replicate (fuel+is.length) false:Array Bool)=Array.replicate ops.size false:=by rw[hl]
 rw[hz];exact iN mD hQ fuel w.drew (aq hS) is os _ a hi hB hp h
def sq{l:List Oper} n(h:n<=l.length):(List.range n).map (λi=>l.toArray[i]?)=(l.take n).map some:=by apply List.ext_getElem?;intro i;by_cases hi:i<n;simp[hi,List.getElem?_take_of_lt hi,List.getElem?_eq_getElem (show i<l.length by omega)];simp[hi];omega
def UO{id a w}{l:List Oper} n fuel(hm:P.follows .mixedOrders=true)(mD:Region.noSelect l.toArray=true)(hl:fuel+n=l.length) (hQ:∀c (a:Act) d v w,Q (.panic c) (a.put d v) w->Q (.panic c) a w) (hB:tf l.toArray (List.range n) (Array.replicate l.toArray.size false)=true) (hp:(l.take n).all (λo=>jJ o.op)=true) S (hS:S w.drew) (h:wpQuiet P l.toArray (λw'=>∃u:Of S,w'=u.w) (λa'=>wpAnyH P .any l.toArray Q (cls S) fuel (sH (List.range n) (Array.replicate l.toArray.size false)) a' w.drew) (l.take n) a):(Code.region id l.toArray true).wp P Q a w:=start (List.range n) (l.take n) fuel hm mD (by simp;omega) hQ (sq n (by omega)) hB hp S hS h
theorem filter_some{l:List Oper}:∀(is:List Nat),is.all (λi=>decide (i<l.length))=true->is.map (λi=>l.toArray[i]?)=(is.filterMap λi=>l[i]?).map some
 |[],_=>rfl|i::is,h=>by simp only[List.all_cons,Bool.and_eq_true,decide_eq_true_eq]at h;have:=filter_some (l:=l) is h.2;rw[List.map_cons,this,List.filterMap_cons];have e:l[i]? =some l[i]:=List.getElem?_eq_getElem h.1;simp[e]
def bM{id a w}{l:List Oper} is fuel(hm:P.follows .mixedOrders=true)(mD:Region.noSelect l.toArray=true)(hl:fuel+is.length=l.length)(hi:is.all (λi=>decide (i<l.length))=true) (hQ:∀c (a:Act) d v w,Q (.panic c) (a.put d v) w->Q (.panic c) a w) (hB:tf l.toArray is (Array.replicate l.toArray.size false)=true) (hp:(is.filterMap λi=>l[i]?).all (λo=>jJ o.op)=true) S (hS:S w.drew) (h:wpQuiet P l.toArray (λw'=>∃u:Of S,w'=u.w) (λa'=>wpAnyH P .any l.toArray Q (cls S) fuel (sH is (Array.replicate l.toArray.size false)) a' w.drew) (is.filterMap λi=>l[i]?) a):(Code.region id l.toArray true).wp P Q a w:=start is _ fuel hm mD (by simp;omega) hQ (filter_some is hi) hB hp S hS h
def iQ{a w}{l:List Oper}{Q S n L} is fuel(hn:n=fuel+is.length)(mD:Region.noSelect l.toArray=true)(hi:is.all (λi=>decide (i<l.length))=true) (hQ:∀c (a:Act) d v w,Q (.panic c) (a.put d v) w->Q (.panic c) a w) (hB:tf l.toArray is L=true) (hp:(is.filterMap λi=>l[i]?).all (λo=>jJ o.op)=true) (hS:cls S w) (h:wpQuiet P l.toArray (λw'=>∃u:Of S,w'=u.w) (λa'=>wpAnyH P .any l.toArray Q (cls S) fuel (sH is L) a' w) (is.filterMap λi=>l[i]?) a):wpAnyH P .any l.toArray Q (cls S) n L a w:=by subst hn;exact iN mD hQ fuel w hS is _ L a (filter_some is hi) hB hp h
def next(S:World->Prop)(Q:Exit->Act->World->Prop)(K:Act->World->Prop):Exit->Act->World->Prop
 |.normal,a,w=>S w/\K a w|e,a,w=>Q e a w
def sF{i o K a w}(ho:ops[i]? =some o)(hg:o.guard=none)(h:wpList P ops (next S Q K) [o] a w):wpOp P ops Q i (λa' w'=>S w'/\K a' w') a w:=by
 unfold wpOp;simp only[ho];have hw:Region.wanted o (yielded ops a.tmps)=true:=by simp[Region.wanted,hg]
 rw[if_pos hw];unfold wpList at h;rw[if_pos hw]at h;refine h.imp (λh=>?_) (λh=>⟨h.1,h.2⟩);unfold Oper.wp at h|-;generalize(execOp a.eval o).run P w=r at h|-;cases r with
 |ok n w'=>
 cases n<;>simp only[Oper.upon]at h|-;case enter f args=>exact h.mono λe uR he=>by cases e<;>exact he
 all_goals exact h|halt x w'=>cases x<;>simp only[Oper.upon]at h|-;exact h
def one{fuel L a w} i o(hr:Region.ready .any ops L=[i])(ho:ops[i]? =some o)(hg:o.guard=none) (h:wpList P ops (next S Q (wpAnyH P .any ops Q S fuel (L.setIfInBounds i true))) [o] a w):wpAnyH P .any ops Q S (fuel+1) L a w:=wpAnyH_all hr (by simp) λj hj=>by
 obtain rfl:j=i:=by simpa using hj
 exact sF ho hg h
def two{fuel L a w} i j oi oj(hr:Region.ready .any ops L=[i,j])(hi:ops[i]? =some oi)(Le:oi.guard=none)(hj:ops[j]? =some oj)(xB:oj.guard=none) (h1:wpList P ops (next S Q (wpAnyH P .any ops Q S fuel (L.setIfInBounds i true))) [oi] a w) (h2:wpList P ops (next S Q (wpAnyH P .any ops Q S fuel (L.setIfInBounds j true))) [oj] a w):wpAnyH P .any ops Q S (fuel+1) L a w:=wpAnyH_all hr (by simp) λk hk=>by
 rcases List.mem_cons.1 hk with rfl|hk;exact sF hi Le h1;obtain rfl:k=j:=by simpa using hk
 exact sF hj xB h2
end
end ax
end
section
open Go.RowKit ba
def fI(n:Int):List PanicEntry:=[{v:=.iface 146 (.agg #[.int .i64 n]),recovered:=false}]
def RP{α:Type}(x:Wr.R α)(val:α->Value)(b:Nat)(w:World)(e:Ending)(w':World):Prop:=match x with
 |.ok a r=>e=.returned (val a)/\Row w' b [.string (str r)]/\cA w.heap.size b w w'
 |.bad n=>e=.panicked (fI (n:Int))/\cA w.heap.size b w w'
def RP.ko{α}{x:Wr.R α}{val b w w' a r}(hx:x=.ok a r)(h1:Row w' b [.string (str r)])(h2:cA w.heap.size b w w'):RP x val b w (.returned (val a)) w':=by subst hx;exact⟨rfl,h1,h2⟩
def RP.bh{α}{x:Wr.R α}{val b w w' n}(hx:x=.bad n)(h2:cA w.heap.size b w w'):RP x val b w (.panicked (fI (n:Int))) w':=by subst hx;exact⟨rfl,h2⟩
def dX(n:Int)(w:World):Calls prog 60 #[.int .i64 n] w λe w'=>e=.panicked (fI n)/\w'=w:=by go_enter func60,ntmps60;go_wp2_with fail;exact⟨rfl,rfl,rfl⟩
def bV(b n:Nat)(l:List UInt8)(w:World)(hr:Row w b [.string (str l)])(_:n<4611686018427387904):Calls prog 52 #[.pointer (some ⟨b,0,none⟩),.int .i64 n] w (RP (Wr.take n l) (λt=>.string (str t)) b w):=by
 have hc:=hr.cell 0;have hz:=hr.free 0;by_cases h:l.length<n
 ·have e0:Wr.take n l=.bad 1:=if_pos h;rw[e0];have p1:(l.length:Int)< (n:Int):=by omega
  clear e0 hr;go_enter func52,ntmps52;go_wp2_with fail;refine(dX 1 w).mono ?_;rintro e w1⟨rfl,rfl⟩;exact⟨rfl,rfl,cA.refl _ _ _⟩
 have e0:Wr.take n l=.ok (l.take n) (l.drop n):=if_neg h;rw[e0];have p1:¬(l.length:Int)< (n:Int):=by omega
 have p2:(n:Int)<=(l.length:Int):=by omega
 have HR:=η (hr.set 0 (.string (str (l.drop n))));clear e0 hr;go_enter func52,ntmps52;go_wp2_with fail;go_ret;exact⟨rfl,HR.o,(cA.refl _ _ _).et _ _⟩
def nt(b:Nat)(l:List UInt8)(w:World)(hr:Row w b [.string (str l)]):Calls prog 80 #[.pointer (some ⟨b,0,none⟩)] w λe w'=>(if l=[]then e=.returned (.tuple #[])else e=.panicked (fI 5))/\w'=w:=by
 have hc:=hr.cell 0;by_cases h:l=[]
 ·simp only[if_pos h];subst h;go_enter func80,ntmps80;go_wp2_with fail;go_end0;exact⟨rfl,rfl⟩
 simp only[if_neg h];have cE:l.isEmpty=false:=by cases l with
  |nil=>exact absurd rfl h
  |cons=>rfl
 go_enter func80,ntmps80;go_wp2_with fail;refine(dX 5 w).mono ?_;rintro e w1⟨rfl,rfl⟩;exact⟨rfl,rfl,rfl⟩
def ajg u(h:u.length<=8):U (cC.le u)=(cC.jo u:Int):=by have h1:=cC.vQ u;have h2:2^ (8*u.length)<=2^64:=Nat.pow_le_pow_right (by decide) (by omega);unfold cC.le;rw[lK,Nat.mod_eq_of_lt (by omega)]
def sm(b:Nat)(l:List UInt8)(w:World)(hr:Row w b [.string (str l)]):Calls prog 94 #[.pointer (some ⟨b,0,none⟩)] w (RP (Wr.size l) (λn=>.int .u64 (n:Int)) b w):=by
 have T1:=η (bV b 1 l w hr (by omega));have hb:=hr.lt;clear hr;cases l with
 |nil=>go_enter func94,ntmps94;go_wp2_with fail;refine T1.o.mono ?_;rintro e w1⟨rfl,h1⟩;exact⟨rfl,rfl,h1⟩
 |cons x r=>
 have e0:Wr.take 1 (x::r)=.ok [x] r:=by simp[Wr.take]
 have e1:Wr.size (x::r)=if x<253 then .ok x.toNat r else Wr.rest x r:=by unfold Wr.size;rw[e0];rfl
 rw[e0]at T1;have EQ:=η e1;clear e0 e1;have hY:Y x=(x.toNat:Int):=rfl;have hx:=x.toNat_lt;by_cases aM:x<253
 ·have h':=UInt8.lt_iff_toNat_lt.1 aM;have h3:x.toNat<253:=h';rw[if_pos aM]at EQ;have n1:¬Y (nth [x] 0)=253:=by show¬Y x=253;omega
  have n2:¬Y (nth [x] 0)=254:=by show¬Y x=254;omega
  have n3:¬Y (nth [x] 0)=255:=by show¬Y x=255;omega
  clear aM h' hY hx;go_enter func94,ntmps94;go_wp2_with fail;refine T1.o.mono ?_;rintro e w1⟨rfl,h1,h2⟩;go_wp2_with fail;go_ret;exact RP.ko EQ.o h1 h2
 have h':¬x.toNat<253:=λh=>aM (UInt8.lt_iff_toNat_lt.2 h);rw[if_neg aM]at EQ;have hc:x=253∨x=254∨x=255:=by
  have h3:x.toNat=253∨x.toNat=254∨x.toNat=255:=by omega
  rcases h3 with h|h|h;exact .inl (UInt8.toNat_inj.1 h);exact .inr (.inl (UInt8.toNat_inj.1 h));exact .inr (.inr (UInt8.toNat_inj.1 h))
 clear aM h' hY hx;rcases hc with rfl|rfl|rfl
 ·have iH:=η (show Wr.size (253::r)=(Wr.take 2 r).bind λu r'=>if cC.jo u<253 then .bad 2 else .ok (cC.jo u) r' from EQ.o);clear EQ;go_enter func94,ntmps94;go_wp2_with fail;refine T1.o.mono ?_;rintro e w1⟨rfl,h1,h2⟩;have T2:=η (bV b 2 r w1 h1 (by omega))
  have B1:=η h2;have z1:=h2.size;clear h1 h2 T1;go_wp2_with fail;refine T2.o.mono ?_;clear T2;by_cases hk:r.length<2;rw[show Wr.take 2 r=.bad 1 from if_pos hk]at iH|-;rintro e w2⟨rfl,h3⟩;exact⟨rfl,RP.bh iH.o (B1.o.trans (h3.mono z1))⟩;rw[show Wr.take 2 r=.ok (r.take 2) (r.drop 2)from if_neg hk]at iH|-;rintro e w2⟨rfl,h3,h4⟩;have Br:(r.take 2).length=2:=by rw[List.length_take];omega
  have fT:b<w2.heap.size:=by have:=h4.size;omega
  have B2:=η (B1.o.trans (h4.mono z1));have R2:=η h3;have z2:=B2.o.size;clear h3 h4 B1 z1 hk;obtain⟨cap,wc,oA,uw,yo,lC⟩:=uI (P:=prog) w2 9 64 5 (r.take 2) underlying9 underlying64 underlying5;rw[Br]at oA;have B3:=η (B2.o.trans ((cA.aH (S:=b) uw).mono z2));have R3:=η (R2.o.below uw fT);have CJ:=η (λ(j:Nat) (hj:j<2)=>(show wc.cell? ⟨w2.heap.size,j,none⟩=some (.int .u8 (Y (nth (r.take 2) j)))by have:=yo j (by omega);simpa using this));clear uw yo B2 R2 fT;generalize r.take 2=u at Br oA CJ iH|-;have HL:=η Br;clear Br;go_wp2_with fail;clear oA;go_loopw [6,26] (λxv iv wr=>∃i:Nat,i<=2/\iv=.int .i64 i/\xv=.int .u64 (U (cC.le (u.take i)))/\wr=wc) (λ_ iv _=>2-(intOf iv).toNat);exact⟨0,by omega,rfl,rfl,rfl⟩;obtain⟨k,hk,rfl,rfl,rfl⟩:=hrel;by_cases aM:k<2
  ·have p1:(k:Int)<2:=by omega
   have hd:=η (cC.tZ u k (by rw[HL.o];exact aM) (by omega));have cc:=CJ.o k aM;have h8:0<=8*(k:Int):=by omega
   go_wp2_with fail;go_roundw
   ·exact⟨k+1,by omega,by go_num,by rw[hd.o],by first|trivial|rfl⟩
   simp[intOf];omega
  obtain rfl:k=2:=by omega
  have e3:U (cC.le (u.take 2))=(cC.jo u:Int):=by rw[List.take_of_length_le (by rw[HL.o];omega),ajg u (by rw[HL.o];omega)]
  rw[e3];clear e3 aM hk;by_cases hs:cC.jo u<253
  ·have p2:(cC.jo u:Int)<253:=by omega
   go_wp2_with fail;refine(dX 2 wr).mono ?_;rintro e w3⟨rfl,rfl⟩;exact⟨rfl,RP.bh (n:=2) (iH.o.trans (if_pos hs)) B3.o⟩
  have p2:¬(cC.jo u:Int)<253:=by omega
  go_wp2_with fail;go_ret;exact RP.ko (iH.o.trans (if_neg hs)) R3.o B3.o
 ·have iH:=η (show Wr.size (254::r)=(Wr.take 4 r).bind λu r'=>if cC.jo u<65536 then .bad 2 else .ok (cC.jo u) r' from EQ.o);clear EQ;go_enter func94,ntmps94;go_wp2_with fail;refine T1.o.mono ?_;rintro e w1⟨rfl,h1,h2⟩;have T2:=η (bV b 4 r w1 h1 (by omega))
  have B1:=η h2;have z1:=h2.size;clear h1 h2 T1;go_wp2_with fail;refine T2.o.mono ?_;clear T2;by_cases hk:r.length<4;rw[show Wr.take 4 r=.bad 1 from if_pos hk]at iH|-;rintro e w2⟨rfl,h3⟩;exact⟨rfl,RP.bh iH.o (B1.o.trans (h3.mono z1))⟩;rw[show Wr.take 4 r=.ok (r.take 4) (r.drop 4)from if_neg hk]at iH|-;rintro e w2⟨rfl,h3,h4⟩;have Br:(r.take 4).length=4:=by rw[List.length_take];omega
  have fT:b<w2.heap.size:=by have:=h4.size;omega
  have B2:=η (B1.o.trans (h4.mono z1));have R2:=η h3;have z2:=B2.o.size;clear h3 h4 B1 z1 hk;obtain⟨cap,wc,oA,uw,yo,lC⟩:=uI (P:=prog) w2 9 64 5 (r.take 4) underlying9 underlying64 underlying5;rw[Br]at oA;have B3:=η (B2.o.trans ((cA.aH (S:=b) uw).mono z2));have R3:=η (R2.o.below uw fT);have CJ:=η (λ(j:Nat) (hj:j<4)=>(show wc.cell? ⟨w2.heap.size,j,none⟩=some (.int .u8 (Y (nth (r.take 4) j)))by have:=yo j (by omega);simpa using this));clear uw yo B2 R2 fT;generalize r.take 4=u at Br oA CJ iH|-;have HL:=η Br;clear Br;go_wp2_with fail;clear oA;go_loopw [6,26] (λxv iv wr=>∃i:Nat,i<=4/\iv=.int .i64 i/\xv=.int .u64 (U (cC.le (u.take i)))/\wr=wc) (λ_ iv _=>4-(intOf iv).toNat);exact⟨0,by omega,rfl,rfl,rfl⟩;obtain⟨k,hk,rfl,rfl,rfl⟩:=hrel;by_cases aM:k<4
  ·have p1:(k:Int)<4:=by omega
   have hd:=η (cC.tZ u k (by rw[HL.o];exact aM) (by omega));have cc:=CJ.o k aM;have h8:0<=8*(k:Int):=by omega
   go_wp2_with fail;go_roundw
   ·exact⟨k+1,by omega,by go_num,by rw[hd.o],by first|trivial|rfl⟩
   simp[intOf];omega
  obtain rfl:k=4:=by omega
  have e3:U (cC.le (u.take 4))=(cC.jo u:Int):=by rw[List.take_of_length_le (by rw[HL.o];omega),ajg u (by rw[HL.o];omega)]
  rw[e3];clear e3 aM hk;by_cases hs:cC.jo u<65536
  ·have p2:(cC.jo u:Int)<65536:=by omega
   go_wp2_with fail;refine(dX 2 wr).mono ?_;rintro e w3⟨rfl,rfl⟩;exact⟨rfl,RP.bh (n:=2) (iH.o.trans (if_pos hs)) B3.o⟩
  have p2:¬(cC.jo u:Int)<65536:=by omega
  go_wp2_with fail;go_ret;exact RP.ko (iH.o.trans (if_neg hs)) R3.o B3.o
 have iH:=η (show Wr.size (255::r)=(Wr.take 8 r).bind λu r'=>if cC.jo u<4294967296 then .bad 2 else .ok (cC.jo u) r' from EQ.o);clear EQ;go_enter func94,ntmps94;go_wp2_with fail;refine T1.o.mono ?_;rintro e w1⟨rfl,h1,h2⟩;have T2:=η (bV b 8 r w1 h1 (by omega))
 have B1:=η h2;have z1:=h2.size;clear h1 h2 T1;go_wp2_with fail;refine T2.o.mono ?_;clear T2;by_cases hk:r.length<8;rw[show Wr.take 8 r=.bad 1 from if_pos hk]at iH|-;rintro e w2⟨rfl,h3⟩;exact⟨rfl,RP.bh iH.o (B1.o.trans (h3.mono z1))⟩;rw[show Wr.take 8 r=.ok (r.take 8) (r.drop 8)from if_neg hk]at iH|-;rintro e w2⟨rfl,h3,h4⟩;have Br:(r.take 8).length=8:=by rw[List.length_take];omega
 have fT:b<w2.heap.size:=by have:=h4.size;omega
 have B2:=η (B1.o.trans (h4.mono z1));have R2:=η h3;have z2:=B2.o.size;clear h3 h4 B1 z1 hk;obtain⟨cap,wc,oA,uw,yo,lC⟩:=uI (P:=prog) w2 9 64 5 (r.take 8) underlying9 underlying64 underlying5;rw[Br]at oA;have B3:=η (B2.o.trans ((cA.aH (S:=b) uw).mono z2));have R3:=η (R2.o.below uw fT);have CJ:=η (λ(j:Nat) (hj:j<8)=>(show wc.cell? ⟨w2.heap.size,j,none⟩=some (.int .u8 (Y (nth (r.take 8) j)))by have:=yo j (by omega);simpa using this));clear uw yo B2 R2 fT;generalize r.take 8=u at Br oA CJ iH|-;have HL:=η Br;clear Br;go_wp2_with fail;clear oA;go_loopw [6,26] (λxv iv wr=>∃i:Nat,i<=8/\iv=.int .i64 i/\xv=.int .u64 (U (cC.le (u.take i)))/\wr=wc) (λ_ iv _=>8-(intOf iv).toNat);exact⟨0,by omega,rfl,rfl,rfl⟩;obtain⟨k,hk,rfl,rfl,rfl⟩:=hrel;by_cases aM:k<8
 ·have p1:(k:Int)<8:=by omega
  have hd:=η (cC.tZ u k (by rw[HL.o];exact aM) (by omega));have cc:=CJ.o k aM;have h8:0<=8*(k:Int):=by omega
  go_wp2_with fail;go_roundw
  ·exact⟨k+1,by omega,by go_num,by rw[hd.o],by first|trivial|rfl⟩
  simp[intOf];omega
 obtain rfl:k=8:=by omega
 have e3:U (cC.le (u.take 8))=(cC.jo u:Int):=by rw[List.take_of_length_le (by rw[HL.o];omega),ajg u (by rw[HL.o];omega)]
 rw[e3];clear e3 aM hk;by_cases hs:cC.jo u<4294967296
 ·have p2:(cC.jo u:Int)<4294967296:=by omega
  go_wp2_with fail;refine(dX 2 wr).mono ?_;rintro e w3⟨rfl,rfl⟩;exact⟨rfl,RP.bh (n:=2) (iH.o.trans (if_pos hs)) B3.o⟩
 have p2:¬(cC.jo u:Int)<4294967296:=by omega
 go_wp2_with fail;go_ret;exact RP.ko (iH.o.trans (if_neg hs)) R3.o B3.o
def fU(b lo hi:Nat)(l:List UInt8)(w:World)(hr:Row w b [.string (str l)])(h1:lo<4611686018427387904)(h2:hi<4611686018427387904):Calls prog 54 #[.pointer (some ⟨b,0,none⟩),.int .i64 lo,.int .i64 hi] w (RP (Wr.cM lo hi l) (λn=>.int .i64 (n:Int)) b w):=by
 have T1:=η (sm b l w hr);have e1:IntKind.u64.wrap (lo:Int)=lo:=by rw[fV,lK];omega
 have e2:IntKind.u64.wrap (hi:Int)=hi:=by rw[fV,lK];omega
 clear hr;go_enter func54,ntmps54;go_wp2_with fail;refine T1.o.mono ?_;clear T1;cases hx:Wr.size l with
 |bad n=>rintro e w1⟨rfl,h⟩;exact⟨rfl,RP.bh (by unfold Wr.cM;rw[hx];rfl) h⟩
 |ok n r=>
 rintro e w1⟨rfl,h3,h4⟩;have EQ:=η (show Wr.cM lo hi l=if n<lo∨hi<n then .bad 3 else .ok n r by unfold Wr.cM;rw[hx];rfl);clear hx;by_cases c1:n<lo
 ·have p1:(n:Int)< (lo:Int):=by omega
  go_wp2_with fail;refine(dX 3 _).mono ?_;rintro e w2⟨rfl,rfl⟩;exact⟨rfl,RP.bh (n:=3) (EQ.o.trans (if_pos (.inl c1))) h4⟩
 have p1:¬(n:Int)< (lo:Int):=by omega
 by_cases c2:hi<n
 ·have p2:(n:Int)>(hi:Int):=by omega
  go_wp2_with fail;refine(dX 3 _).mono ?_;rintro e w2⟨rfl,rfl⟩;exact⟨rfl,RP.bh (n:=3) (EQ.o.trans (if_pos (.inr c2))) h4⟩
 have p2:¬(n:Int)>(hi:Int):=by omega
 have e3:IntKind.i64.wrap (n:Int)=n:=IntWalk.i64_in _ (by omega);go_wp2_with fail;go_ret;exact RP.ko (EQ.o.trans (if_neg (by omega))) h3 h4
namespace Wr
def gL{α:Type}(k:Nat)(l:List UInt8)(x:R α):Prop:=∀a r,x=.ok a r->l.length<=r.length+k
def gL.ok{α} l(a:α):gL 0 l (.ok a l):=λ_ _ h=>by cases h;exact ν
theorem gL.bad{α} k l e:gL (α:=α) k l (.bad e):=λ_ _ h=>by cases h
def gL.mono{α k m l}{x:R α}(h:gL k l x)(hk:k<=m):gL m l x:=λa r e=>by have:=h a r e;omega
def gL.bind{α β k m l x}{f:α->List UInt8->R β}(h:gL k l x)(hf:∀a r,x=.ok a r->gL m r (f a r)):gL (k+m) l (x.bind f):=by cases x with|bad e=>exact gL.bad _ _ _|ok a r=>intro b s hs;have h1:=h a r rfl;have h2:=hf a r rfl b s hs;omega
def gL.void{α k l}{x:R α}(h:gL k l x):gL k l x.void:=by cases x with|bad e=>exact gL.bad _ _ _|ok a r=>intro b s hs;cases hs;exact h a r rfl
def iB n l:gL n l (take n l):=by unfold take;split;exact gL.bad _ _ _;intro a r h;cases h;rw[List.length_drop];omega
def aah b:more b<=8:=by unfold more;split<;>(try split)<;>omega
def QI b l:gL 8 l (rest b l):=((iB _ l).bind (m:=0) λu r _=>by split;exact gL.bad _ _ _;exact gL.ok _ _).mono (aah b)
def Qv l:gL 9 l (size l):=((iB 1 l).bind (m:=8) λt r _=>by split;exact(gL.ok _ _).mono (by omega);exact QI _ _).mono (by omega)
def uV lo hi l:gL 9 l (cM lo hi l):=(Qv l).bind (m:=0) λx r _=>by split;exact gL.bad _ _ _;exact gL.ok _ _
def eL{lo hi l n r}(h:cM lo hi l=.ok n r):lo<=n/\n<=hi:=by
 unfold cM at h;cases hx:size l with
 |bad e=>rw[hx]at h;cases h
 |ok x s=>rw[hx]at h;by_cases c:x<lo∨hi<x;have:(R.ok x s).bind (λx r=>if x<lo∨hi<x then(.bad 3:R Nat)else .ok x r)=.bad 3:=if_pos c;rw[this]at h;cases h;have:(R.ok x s).bind (λx r=>if x<lo∨hi<x then(.bad 3:R Nat)else .ok x r)=.ok x s:=if_neg c;rw[this]at h;cases h;omega
def wN l:gL 49 l (script l):=(uV _ _ l).bind (m:=40) λn r h=>((iB n r).void).mono (eL h).2
def Wk l:gL 89 l (nA l):=(iB 36 l).bind (m:=53) λ_ r _=>(wN r).bind (m:=4) λ_ r _=>(iB 4 r).void
def Rp l:gL 57 l (fN l):=(iB 8 l).bind (m:=49) λ_ r _=>wN r
theorem zU{p k}(hp:∀l,gL k l (p l)):∀n l,gL (n*k) l (rep p n l)
 |0,l=>by rw[Nat.zero_mul];exact gL.ok _ _|n+1,l=>by rw[Nat.succ_mul,Nat.add_comm];exact(hp l).bind λ_ r _=>zU hp n r
def wD l:gL 610 l (body l):=
 (iB 4 l).bind (m:=606) λ_ r _=>(uV _ _ r).bind (m:=597) λn r h=>((zU Wk n r).mono (show n*89<=356 by have:=(eL h).2;omega)).bind (m:=241) λ_ r _=>
  (uV _ _ r).bind (m:=232) λn r h=>((zU Rp n r).mono (show n*57<=228 by have:=(eL h).2;omega)).bind (m:=4) λ_ r _=>(iB 4 r).void
def Ip{l t r}(h:tx l=.ok t r):t.length<=610:=by
 unfold tx at h;cases hx:body l with
 |bad e=>rw[hx]at h;cases h
 |ok a s=>rw[hx]at h;cases h;have:=wD l a _ hx;rw[List.length_take];omega
def txF(l:List UInt8)(x:R Unit):R (List UInt8):=x.bind λ_ r=>.ok (l.take (l.length-r.length)) r
def outs(r:List UInt8):R Unit:=(cM 1 4 r).bind λn r=>(rep fN n r).bind λ_ r=>(take 4 r).void
def ins(r:List UInt8):R Unit:=(cM 1 4 r).bind λn r=>(rep nA n r).bind λ_ r=>outs r
def akN l:tx l=txF l ((take 4 l).bind λ_ r=>ins r):=rfl
end Wr
def cA.sj{B S w w'}(h:cA B S w w')(hT:cG w)(hB:1<B)(hS:1<S):cG w':=⟨h.row hT.1 (by omega) (by omega),h.row hT.2 hB (by omega)⟩
def tq(b:Nat)(l:List UInt8)(w:World)(hr:Row w b [.string (str l)]):Calls prog 81 #[.pointer (some ⟨b,0,none⟩)] w (RP (Wr.script l) (λ_=>.tuple #[]) b w):=by
 have T1:=η (fU b 0 40 l w.drew hr.drew (by omega) (by omega));have B0:=η ((cA.refl w.heap.size b w).drew);clear hr;go_enter func81,ntmps81;haveI cE:Nonempty (ax.Of (λ_=>True)):=⟨⟨w,trivial⟩⟩;refine ax.bM [0,1,2,3,4,5] 2 mixed (by kernel_rfl) rfl rfl (λc a d v w h=>by cases d<;>exact h) (by as_aux_lemma=>kernel_rfl) rfl (λ_=>True) trivial ?_;show wpQuiet _ _ _ _ [_,_,_,_,_,_] _;repeat(go_big_quiet_step (fail))
 refine wpQuiet_nil ?_;generalize w.drew=w0 at T1 B0|-;refine ax.one 6 _ (by kernel_rfl) rfl rfl ?_;try go_frame
 go_wp2_with fail;refine T1.o.mono ?_;clear T1;cases hx:Wr.cM 0 40 l with
 |bad n=>rintro e w1⟨rfl,h⟩;exact⟨rfl,RP.bh (by unfold Wr.script;rw[hx];rfl) (B0.o.trans (h.mono B0.o.size))⟩
 |ok n r=>
 rintro e w1⟨rfl,h3,h4⟩;have hn:=Wr.eL hx;have T2:=η (bV b n r w1 h3 (by omega));have B1:=η (B0.o.trans (h4.mono B0.o.size));clear h3 h4 B0;go_wp2_with fail;refine⟨ax.aq trivial,?_⟩;refine ax.one 7 _ (by kernel_rfl) rfl rfl ?_;try go_frame
 go_wp2_with fail;refine T2.o.mono ?_;clear T2;cases hx2:Wr.take n r with
 |bad n=>rintro e w2⟨rfl,h⟩;exact⟨rfl,RP.bh (by unfold Wr.script;rw[hx,Wr.R.aQ,hx2];rfl) (B1.o.trans (h.mono B1.o.size))⟩
 |ok t r2=>
 rintro e w2⟨rfl,h3,h4⟩;go_wp2_with fail;refine⟨ax.aq trivial,?_⟩;refine wpAnyH_done (by kernel_rfl) ?_ 0;go_wp2_with fail;first|go_end0|refine bodyPost_ret (results_none rfl _ _ _) rfl ?_
 exact RP.ko (a:=()) (by unfold Wr.script;rw[hx,Wr.R.aQ,hx2];rfl) h3 (B1.o.trans (h4.mono B1.o.size))
def ai(t:List UInt8):List Value:=.string (str t)::w8 (Mk.ak t)
def Fp(t:List UInt8):Value:=.agg (ai t).toArray
def dc:List Value:=.string (str [])::w8 (List.replicate 32 0)
def Tryz.gI:dc.toArray=#[.string (str []),.int .u8 0,.int .u8 0,.int .u8 0,.int .u8 0,.int .u8 0,.int .u8 0,.int .u8 0,.int .u8 0,.int .u8 0,.int .u8 0,.int .u8 0,.int .u8 0,.int .u8 0,.int .u8 0,.int .u8 0,.int .u8 0,.int .u8 0,.int .u8 0,.int .u8 0,.int .u8 0,.int .u8 0,.int .u8 0,.int .u8 0,.int .u8 0,.int .u8 0,.int .u8 0,.int .u8 0,.int .u8 0,.int .u8 0,.int .u8 0,.int .u8 0,.int .u8 0]:=by kernel_rfl
def aE t:(ai t).length=33:=by unfold ai;rw[List.length_cons,aW];unfold Mk.ak;rw[aR.fO]
def bq:dc.length=33:=by unfold dc;rw[List.length_cons,aW];simp
def cW:(prog.info? 69).map (·.size)=some 33:=by kernel_rfl
def aY t:(ai t).all (·.oneCell')=true:=by unfold ai;rw[List.all_cons,Bool.and_eq_true];exact⟨rfl,List.all_eq_true.2 (nG _)⟩
def Nw(s:ByteArray)(a0 a1 a2 a3 a4 a5 a6 a7 a8 a9 Hi Hh a12 Hg He Hd Hc Ha G9 G8 a20 a21 G7 G6 a24 G0 GZ GY a28 GX GV a31:UInt8):prog.built 69 [(0,.string s),(1,.agg (w8 [a0,a1,a2,a3,a4,a5,a6,a7,a8,a9,Hi,Hh,a12,Hg,He,Hd,Hc,Ha,G9,G8,a20,a21,G7,G6,a24,G0,GZ,GY,a28,GX,GV,a31]).toArray)]=some (.string s::w8 [a0,a1,a2,a3,a4,a5,a6,a7,a8,a9,Hi,Hh,a12,Hg,He,Hd,Hc,Ha,G9,G8,a20,a21,G7,G6,a24,G0,GZ,GY,a28,GX,GV,a31]).toArray:=by kernel_rfl
def Yk(s:ByteArray)(d:List UInt8)(hd:d.length=32):prog.built 69 [(0,.string s),(1,.agg (w8 d).toArray)]=some (.string s::w8 d).toArray:=
 match d,hd with
 |[a0,a1,a2,a3,a4,a5,a6,a7,a8,a9,Hi,Hh,a12,Hg,He,Hd,Hc,Ha,G9,G8,a20,a21,G7,G6,a24,G0,GZ,GY,a28,GX,GV,a31],_=>Nw s a0 a1 a2 a3 a4 a5 a6 a7 a8 a9 Hi Hh a12 Hg He Hd Hc Ha G9 G8 a20 a21 G7 G6 a24 G0 GZ GY a28 GX GV a31
def Yl{ops:Array Oper}{rest:List Oper}{o:Oper}{a:Act}{w:World}{Q:Exit->Act->World->Prop}(jk:o.guard=none)(x y:Operand)(ho:o.op=.build 69 #[(0,x),(1,y)]) (s d:List UInt8) (hd:d.length=32) (hx:a.eval x=.string (str s)) (hy:a.eval y=.agg (w8 d).toArray) (h:wpList prog ops Q rest (a.put o.dst (.agg (.string (str s)::w8 d).toArray)) w):wpList prog ops Q (o::rest) a w:=by refine wpList_buildTo jk 69 _ ho _ rfl _ ?_ h;simp only[List.map_toArray,List.map_cons,List.map_nil,hx,hy];exact Yk (str s) d hd
def au{ops rest o a w Q}(jk:o.guard=none) ty x y(ho:o.op=.store ty x y) g (l m:List Value) (hx:a.eval x=.pointer (some ⟨g,0,none⟩)) (hy:a.eval y=.agg m.toArray) (hr:Row w g l) (hi:(prog.info? ty).map (·.size)=some m.length) (hl:l.length=m.length) (h1:m.all (·.oneCell')=true) (h:wpList prog ops Q rest (a.put o.dst undef) (w.setRow g m.toArray)):wpList prog ops Q (o::rest) a w:=by obtain⟨T,hT⟩:=hr;refine wpList_store_row jk _ x y ho g _ hx hy T _ hT (by rw[hi,List.size_toArray]) (by rw[List.size_toArray,List.size_toArray,hl]) (by rw[List.all_toArray];exact h1) h
def dW{ops rest o a w Q}(jk:o.guard=none) ty x(ho:o.op=.load ty x) g l (hx:a.eval x=.pointer (some ⟨g,0,none⟩)) (hr:Row w g l) d (hu:prog.underlying ty=some d) (hi:(prog.info? ty).map (·.size)=some l.length) fs (hd:d=.struct fs) (h:wpList prog ops Q rest (a.put o.dst (.agg l.toArray)) w):wpList prog ops Q (o::rest) a w:=by obtain⟨T,hT⟩:=hr;subst hd;exact wpList_load_row jk _ x ho g hx T _ (0,0) _ hT hu rfl (by rw[hi,List.size_toArray]) h
structure Zf(w:World)(b:Nat)(n:Nat)(lk:List UInt8)(wk:World):Prop where
 cur:Row wk b [.string (str lk)]
 own:Row wk w.heap.size dc
 but:cA w.heap.size b w wk
 le:lk.length<=n
def Zf.step{w b n lk My wk sf}(h:Zf w b n lk wk)(hb:b<w.heap.size)(h1:Row sf b [.string (str My)])(h2:cA wk.heap.size b wk sf)(hl:My.length<=lk.length):Zf w b n My sf:=⟨h1,h2.row h.own h.own.lt (by omega),h.but.trans (h2.mono h.but.size),Nat.le_trans hl h.le⟩
def Zf.bad{w b n lk wk sf}(h:Zf w b n lk wk)(h2:cA wk.heap.size b wk sf):cA w.heap.size b w sf:=h.but.trans (h2.mono h.but.size)
def zm(b:Nat)(l:List UInt8)(w:World)(hT:cG w)(lQ:1<b)(hr:Row w b [.string (str l)])(hl:l.length<=9223372036854775807):Calls prog 47 #[.pointer (some ⟨b,0,none⟩)] w (RP (Wr.tx l) Fp b w):=by
 have hb:=hr.lt;have gM:=hT.lt;have I0:Zf w b l.length l (w.alloc (.cells dc.toArray 69)):=⟨hr.alloc _,Row.new w _ _,(cA.refl _ _ _).alloc ν _,ν⟩;rw[Tryz.gI]at I0;have HT:=η hT;have EQ:=η (Wr.akN l);clear hr hT;go_enter func47,ntmps47;go_upto_region 1 with fail;generalize w.alloc _=w1 at I0|-;have hc:=I0.cur.cell 0;have T1:=η (bV b 4 l w1 I0.cur (by omega));have J:=η I0;clear I0;go_wp2_with fail;refine T1.o.mono ?_;clear T1 hc;cases hx:Wr.take 4 l with
 |bad n=>rintro e w2⟨rfl,h⟩;rw[hx]at EQ;rw[show Wr.tx l=.bad n from EQ.o];exact⟨rfl,rfl,J.o.bad h⟩
 |ok t1 r1=>
 rintro e w2⟨rfl,h3,h4⟩;rw[hx]at EQ;have iH:=η (show Wr.tx l=Wr.txF l ((Wr.cM 1 4 r1).bind λn r=>(Wr.rep Wr.nA n r).bind λ_ r=>Wr.outs r)from EQ.o);have J2:=η (J.o.step hb h3 h4 ((Wr.bG 4 l).le hx));have T2:=η (fU b 1 4 r1 w2 h3 (by omega) (by omega));clear h3 h4 J EQ hx;go_wp2_with fail;refine T2.o.mono ?_;clear T2;cases hx:Wr.cM 1 4 r1 with
 |bad n=>rintro e w3⟨rfl,h⟩;rw[hx]at iH;rw[show Wr.tx l=.bad n from iH.o];exact⟨rfl,rfl,J2.o.bad h⟩
 |ok n r2=>
 rintro e w3⟨rfl,h3,h4⟩;rw[hx]at iH;have hn:=(Wr.eL hx).2;have Ff:=η (show Wr.tx l=Wr.txF l ((Wr.rep Wr.nA n r2).bind λ_ r=>Wr.outs r)from iH.o);have J3:=η (J2.o.step hb h3 h4 ((Wr.ew 1 4 r1).le hx));clear h3 h4 J2 iH hx;go_wp2_with fail;go_loopw [18] (λiv wr=>∃(i:Nat)(ri:List UInt8),i<=n/\iv=.int .i64 i/\Zf w b l.length ri wr/\Wr.rep Wr.nA n r2=Wr.rep Wr.nA (n-i) ri) (λiv _=>n-(intOf iv).toNat);exact⟨0,r2,by omega,rfl,J3.o,rfl⟩;obtain⟨i,ri,hi,rfl,hI,hE⟩:=hrel;by_cases aM:i<n
 ·have p1:(i:Int)< (n:Int):=by omega
  have E1:=η (show Wr.rep Wr.nA n r2=((Wr.take 36 ri).bind λ_ r=>(Wr.script r).bind λ_ r=>(Wr.take 4 r).void).bind λ_ r=>Wr.rep Wr.nA (n-(i+1)) r by rw[hE,show n-i=(n-(i+1))+1 by omega];rfl);have T1:=η (bV b 36 ri wr hI.cur (by omega));have K1:=η hI;clear hI hE;go_wp2_with fail;refine T1.o.mono ?_;clear T1;cases hx:Wr.take 36 ri with
  |bad k=>rintro e w4⟨rfl,h⟩;rw[hx]at E1;exact⟨rfl,RP.bh (by rw[Ff.o,show Wr.rep Wr.nA n r2=.bad k from E1.o];rfl) (K1.o.bad h)⟩
  |ok t1 r3=>
  rintro e w4⟨rfl,h3,h4⟩;rw[hx]at E1;have E2:=η (show Wr.rep Wr.nA n r2=((Wr.script r3).bind λ_ r=>(Wr.take 4 r).void).bind λ_ r=>Wr.rep Wr.nA (n-(i+1)) r from E1.o);have K2:=η (K1.o.step hb h3 h4 ((Wr.bG 36 ri).le hx));have T2:=η (tq b r3 w4 h3);clear h3 h4 K1 E1 hx;go_wp2_with fail;refine T2.o.mono ?_;clear T2;cases hx:Wr.script r3 with
  |bad k=>rintro e w5⟨rfl,h⟩;rw[hx]at E2;exact⟨rfl,RP.bh (by rw[Ff.o,show Wr.rep Wr.nA n r2=.bad k from E2.o];rfl) (K2.o.bad h)⟩
  |ok u1 r4=>
  rintro e w5⟨rfl,h3,h4⟩;rw[hx]at E2;have E3:=η (show Wr.rep Wr.nA n r2=((Wr.take 4 r4).void).bind λ_ r=>Wr.rep Wr.nA (n-(i+1)) r from E2.o);have K3:=η (K2.o.step hb h3 h4 ((Wr.lU r3).le hx));have T3:=η (bV b 4 r4 w5 h3 (by omega));clear h3 h4 K2 E2 hx;go_wp2_with fail;refine T3.o.mono ?_;clear T3;cases hx:Wr.take 4 r4 with
  |bad k=>rintro e w6⟨rfl,h⟩;rw[hx]at E3;exact⟨rfl,RP.bh (by rw[Ff.o,show Wr.rep Wr.nA n r2=.bad k from E3.o];rfl) (K3.o.bad h)⟩
  |ok t2 r5=>
  rintro e w6⟨rfl,h3,h4⟩;rw[hx]at E3;have E4:=η (show Wr.rep Wr.nA n r2=Wr.rep Wr.nA (n-(i+1)) r5 from E3.o);have K4:=η (K3.o.step hb h3 h4 ((Wr.bG 4 r4).le hx));clear h3 h4 K3 E3 hx;go_wp2_with fail;go_roundw
  ·exact⟨i+1,r5,by omega,by go_num,K4.o,E4.o⟩
  simp[intOf];omega
 obtain rfl:i=n:=by omega
 have EQ4:=η (show Wr.tx l=Wr.txF l ((Wr.cM 1 4 ri).bind λn r=>(Wr.rep Wr.fN n r).bind λ_ r=>(Wr.take 4 r).void)by rw[Ff.o,hE,Nat.sub_self];rfl);have J4:=η hI;have T4:=η (fU b 1 4 ri wr hI.cur (by omega) (by omega));clear hI hE J3 Ff hn hi;go_wp2_with fail;refine T4.o.mono ?_;clear T4;cases hx:Wr.cM 1 4 ri with
 |bad k=>rintro e w4⟨rfl,h⟩;rw[hx]at EQ4;exact⟨rfl,RP.bh EQ4.o (J4.o.bad h)⟩
 |ok m r6=>
 rintro e w4⟨rfl,h3,h4⟩;rw[hx]at EQ4;have hm:=(Wr.eL hx).2;have EQ5:=η (show Wr.tx l=Wr.txF l ((Wr.rep Wr.fN m r6).bind λ_ r=>(Wr.take 4 r).void)from EQ4.o);have J5:=η (J4.o.step hb h3 h4 ((Wr.ew 1 4 ri).le hx));clear h3 h4 J4 EQ4 hx;go_wp2_with fail;go_loopw [35] (λiv wr=>∃(j:Nat)(rj:List UInt8),j<=m/\iv=.int .i64 j/\Zf w b l.length rj wr/\Wr.rep Wr.fN m r6=Wr.rep Wr.fN (m-j) rj) (λiv _=>m-(intOf iv).toNat);exact⟨0,r6,by omega,rfl,J5.o,rfl⟩;obtain⟨j,rj,hj,rfl,hI,hE⟩:=hrel;by_cases aM:j<m
 ·have p1:(j:Int)< (m:Int):=by omega
  have E1:=η (show Wr.rep Wr.fN m r6=((Wr.take 8 rj).bind λ_ r=>Wr.script r).bind λ_ r=>Wr.rep Wr.fN (m-(j+1)) r by rw[hE,show m-j=(m-(j+1))+1 by omega];rfl);have T1:=η (bV b 8 rj wr hI.cur (by omega));have K1:=η hI;clear hI hE;go_wp2_with fail;refine T1.o.mono ?_;clear T1;cases hx:Wr.take 8 rj with
  |bad k=>rintro e w5⟨rfl,h⟩;rw[hx]at E1;exact⟨rfl,RP.bh (by rw[EQ5.o,show Wr.rep Wr.fN m r6=.bad k from E1.o];rfl) (K1.o.bad h)⟩
  |ok t1 r3=>
  rintro e w5⟨rfl,h3,h4⟩;rw[hx]at E1;have E2:=η (show Wr.rep Wr.fN m r6=(Wr.script r3).bind λ_ r=>Wr.rep Wr.fN (m-(j+1)) r from E1.o);have K2:=η (K1.o.step hb h3 h4 ((Wr.bG 8 rj).le hx));have T2:=η (tq b r3 w5 h3);clear h3 h4 K1 E1 hx;go_wp2_with fail;refine T2.o.mono ?_;clear T2;cases hx:Wr.script r3 with
  |bad k=>rintro e w6⟨rfl,h⟩;rw[hx]at E2;exact⟨rfl,RP.bh (by rw[EQ5.o,show Wr.rep Wr.fN m r6=.bad k from E2.o];rfl) (K2.o.bad h)⟩
  |ok u1 r4=>
  rintro e w6⟨rfl,h3,h4⟩;rw[hx]at E2;have E3:=η (show Wr.rep Wr.fN m r6=Wr.rep Wr.fN (m-(j+1)) r4 from E2.o);have K3:=η (K2.o.step hb h3 h4 ((Wr.lU r3).le hx));clear h3 h4 K2 E2 hx;go_wp2_with fail;go_roundw
  ·exact⟨j+1,r4,by omega,by go_num,K3.o,E3.o⟩
  simp[intOf];omega
 obtain rfl:j=m:=by omega
 have EQ6:=η (show Wr.tx l=Wr.txF l (Wr.take 4 rj).void by rw[EQ5.o,hE,Nat.sub_self];rfl);have J6:=η hI;have T6:=η (bV b 4 rj wr hI.cur (by omega));clear hI hE J5 EQ5 hm hj;go_wp2_with fail;refine T6.o.mono ?_;clear T6;cases hx:Wr.take 4 rj with
 |bad k=>rintro e w5⟨rfl,h⟩;rw[hx]at EQ6;exact⟨rfl,RP.bh EQ6.o (J6.o.bad h)⟩
 |ok t9 r9=>
 rintro e w5⟨rfl,h3,h4⟩;rw[hx]at EQ6;have J7:=η (J6.o.step hb h3 h4 ((Wr.bG 4 rj).le hx));have EQ7:=η (show Wr.tx l=.ok (l.take (l.length-r9.length)) r9 from EQ6.o);have nh:=Wr.Ip EQ7.o;have hle:=J7.o.le;have hc:=J7.o.cur.cell 0;clear h3 h4 J6 EQ6 hx;have q1:wrap64 ((l.length:Int) -(r9.length:Int))=(l.length:Int) -(r9.length:Int):=by unfold wrap64;omega
 have q2:(0:Int)<=(l.length:Int) -(r9.length:Int):=by omega
 have q3:((l.length:Int) -(r9.length:Int)).toNat=l.length-r9.length:=by omega
 go_upto_region 16 with fail;generalize l.take (l.length-r9.length)=t at nh EQ7|-;clear hc q1 q2 q3;have HTx:=η (J7.o.but.sj HT.o gM lQ);have Pf:=J7.o.but.size;go_wp2_with fail;have I8:Zf w b l.length r9 (w5.alloc (.cells #[.string (str t)] 9)):=J7.o.step hb (J7.o.cur.alloc _) ((cA.refl _ _ _).alloc ν _) ν;refine(Bu w5.heap.size 1 t _ (HTx.o.below ((Below.refl w5.heap.size w5).alloc ν _) (by omega)) ((Row.new w5 [.string (str t)] 9).cell 0) (by omega)).mono ?_;rintro e w6⟨rfl,pQ⟩;have I9:Zf w b l.length r9 w6:=I8.step hb (I8.cur.below pQ I8.cur.lt) (cA.aH pQ) ν;have HI:=η I9;have kK:=I9.own;clear I8 I9 pQ HTx J7;go_wp2_with (first|(refine Yl (o:=⟨some 63,_,_,_,_,_⟩) rfl _ _ rfl t (Mk.ak t) (aR.fO _) rfl rfl ?_)|(with_reducible refine au (o:=⟨none,_,_,_,_,_⟩) rfl _ _ _ rfl w.heap.size dc (ai t) rfl rfl kK (cW.trans (by rw[aE])) (by rw[aE,bq]) (aY t) ?_));obtain⟨T2,BO⟩:=kK.setRow (ai t);exact bodyPost_ret (v:=Fp t) (results_cell_row (fn:=Tryz.f47) rfl _ _ w.heap.size T2 _ (0,0) _ rfl BO underlying69 rfl (by rw[cW,List.size_toArray,aE])) rfl (RP.ko EQ7.o (HI.o.cur.aG (by omega) _) (HI.o.but.trans (cA.aH (below_setRow (Below.refl _ _) ν _))))
theorem AV{α β f}{g:α->β}:∀(l:List α),(∀x∈l,f x=some (g x))->l.mapM f=some (l.map g)
 |[],_=>rfl|x::l,h=>by rw[List.mapM_cons,h x List.mem_cons_self,AV l λy hy=>h y (List.mem_cons_of_mem _ hy)];rfl
def y3:prog.cellsOf 67=32:=by kernel_rfl
def PZ:prog.cellsOf 5=1:=by kernel_rfl
def asG x:(Lit.int .u8 (Y x)).wf=true:=by have:=abJ x;simp[Lit.wf,IntKind.min,IntKind.max,IntKind.signed,IntKind.bits];omega
def Ta a i(h:i<a.length):((w8 a).drop (i*1)).take 1=[Value.int .u8 (Y (nth a i))]:=by
 have hi:i< (w8 a).length:=by rw[aW];exact h
 rw[Nat.mul_one,List.drop_eq_getElem_cons hi];have:=iL a i h;rw[List.getElem?_eq_getElem hi]at this;rw[Option.some.inj this];rfl
def lits(a:List UInt8):List Lit:=a.map λx=>Lit.int .u8 (Y x)
def V9{a b}(h:lits a=lits b):a=b:=(List.map_inj_right λx y he=>YF (by simpa using he)).1 h
def Mz a:((List.range a.length).map λi=>[Lit.int .u8 (Y (nth a i))]).flatten=lits a:=by
 have e:((List.range a.length).map λi=>[Lit.int .u8 (Y (nth a i))]).flatten=(List.range a.length).map λi=>Lit.int .u8 (Y (nth a i)):=by generalize List.range a.length=l;induction l with|nil=>rfl|cons x l ih=>rw[List.map_cons,List.flatten_cons,ih];rfl
 rw[e];unfold lits;apply List.ext_getElem;simp;intro i h1 h2;have hi:i<a.length:=by simpa using h2
 simp[nth,hi]
def sK(d:Nat)(a:List UInt8)(h:a.length=32):prog.keyLits (d+2) 67 (w8 a)=some (lits a):=by
 unfold Program.keyLits;simp only[underlying67,y3,aW,h,if_true,PZ];have h2:(List.range 32).mapM (λi=>prog.keyLits (d+1) 5 (((w8 a).drop (i*1)).take 1))=some ((List.range 32).map λi=>[Lit.int .u8 (Y (nth a i))]):=by
  refine AV _ λi hi=>?_;have JS:i<a.length:=by rw[h];simpa using hi
  rw[Ta a i JS];unfold Program.keyLits;simp only[underlying5,asG,true_and,if_true]
 rw[h2,<-h];simp only[Option.map_some,Mz]
def vY(a:List UInt8)(h:a.length=32):(Value.agg (w8 a).toArray).formed prog 67=true:=by simp[Value.formed,underlying67,y3,aW,h]
def aiZ(a b:List UInt8)(ha:a.length=32)(hb:b.length=32)(w:World):(binOp .eql 67 (.agg (w8 a).toArray) (.agg (w8 b).toArray)).run prog w=.ok (.bool (a==b)) w:=by
 rw[run_eql_struct];obtain⟨r,h1,h2⟩:=run_equalIn_deep (P:=prog) 9998 2 67 (by kernel_rfl) w 2 2 (.agg (w8 a).toArray) (.agg (w8 b).toArray) (lits a) (lits b) (vY a ha) (vY b hb) (sK 0 a ha) (sK 0 b hb);have e:r=(a==b):=by rw[Bool.eq_iff_iff,h2,beq_iff_eq];exact⟨V9,λh=>by rw[h]⟩
 rw[h1,e];rfl
def TF(w:World)(b:Nat)(ds:List (List UInt8)):Prop:=∀i,i<ds.length->w.rangeAt b (32*i) (w8 (ds.getD i []))
def kz(ds:List (List UInt8)):Prop:=∀d∈ds,d.length=32
def kz.get{ds}(h:kz ds) i(hi:i<ds.length):(ds.getD i []).length=32:=by rw[List.getD_eq_getElem?_getD,List.getElem?_eq_getElem hi];exact h _ (List.getElem_mem hi)
def rangeAt_of_block{w w':World}{b o cs}(h:w.rangeAt b o cs)(hb:w'.heap[b]? =w.heap[b]?):w'.rangeAt b o cs:=λj v hv=>by rw[<-h j v hv];exact World.cell?_of_block (w:=w) hb
def TF.below{B b ds w w'}(h:TF w b ds)(hb:Below B w w')(hB:b<B):TF w' b ds:=λi hi=>rangeAt_of_block (h i hi) (hb.block b hB)
theorem xD:∀ds,kz ds->ds.flatten.length=32*ds.length
 |[],_=>rfl|d::ds,h=>by rw[List.flatten_cons,List.length_append,xD ds λx hx=>h x (List.mem_cons_of_mem _ hx),h d List.mem_cons_self,List.length_cons];omega
theorem flat_get:∀ds i j,kz ds->i<ds.length->j<32->nth ds.flatten (32*i+j)=nth (ds.getD i []) j
 |[],i,j,_,hi,_=>by simp at hi|d::ds,0,j,h,hi,hj=>by have hd:=h d List.mem_cons_self;rw[List.flatten_cons,show 32*0+j=j by omega,oy _ _ _ (by omega)];rfl|d::ds,i+1,j,h,hi,hj=>by have hd:=h d List.mem_cons_self;rw[List.flatten_cons,m9 _ _ _ (by omega),show 32*(i+1)+j-d.length=32*i+j by omega,flat_get ds i j (λx hx=>h x (List.mem_cons_of_mem _ hx)) (by simpa using hi) hj];rfl
def AH{w B n e v ds}(h:w.ownsRow B e 32 v n (w8 ds.flatten))(hn:0<n)(hl:n=ds.length)(rT:kz ds):∃g cap,v=.slice (some ⟨g,0,none⟩) n cap/\B<=g/\g<w.heap.size/\TF w g ds:=by
 obtain⟨_,⟨_,h0⟩|⟨g,cap,cur,rfl,hb,hg,_,_,_,ht⟩⟩:=h;omega;refine⟨g,cap,rfl,hb,(Array.getElem?_eq_some_iff.1 hg).1,λi hi j v hv=>?_⟩;have hj:j<32:=by have:=(List.getElem?_eq_some_iff.1 hv).1;rwa[aW,rT.get i hi]at this
 have aM:32*i+j<n*32:=by omega
 have e1:(w8 ds.flatten)[32*i+j]? =some v:=by rw[iL _ _ (by rw[xD ds rT];omega),flat_get ds i j rT hi hj,<-iL _ _ (by rw[rT.get i hi];exact hj)];exact hv
 rw[<-ht,List.getElem?_take_of_lt aM]at e1;simpa[World.cell?,hg]using e1
def qM ds d:w8 ds.flatten++w8 d=w8 (ds++[d]).flatten:=by simp[w8]
def sU{ds d}(h:kz ds)(hd:d.length=32):kz (ds++[d]):=λx hx=>by rcases List.mem_append.1 hx with hx|hx;exact h x hx;rw[List.mem_singleton.1 hx];exact hd
def Ls:(prog.info? 67).map (·.size)=some 32:=by kernel_rfl
def Gn:(prog.info? 67).map (λi=>(i.zero,i.size,i.bytes))=some (some (.agg (w8 (List.replicate 32 0)).toArray),32,32):=by kernel_rfl
def OX{ops:Array Oper}{rest:List Oper}{o:Oper}{a:Act}{w:World}{Q:Exit->Act->World->Prop}(jk:o.guard=none)(x:Operand)(ho:o.op=.load 67 x) (g off:Nat) (l:List UInt8) (hl:l.length=32) (hx:a.eval x=.pointer (some ⟨g,off,none⟩)) (hr:w.rangeAt g off (w8 l)) (h:wpList prog ops Q rest (a.put o.dst (.agg (w8 l).toArray)) w):wpList prog ops Q (o::rest) a w:=wpList_load_mid jk _ x ho g off hx (w8 l) _ hr underlying67 rfl (by rw[Ls,aW,hl]) h
def wO(w:World)(g off:Nat)(l:List UInt8)(hl:l.length=32)(hr:w.rangeAt g off (w8 l)):(Instr.loadAt 67 (.pointer (some ⟨g,off,none⟩))).run prog w=.ok (.agg (w8 l).toArray) w:=run_loadAt_mid w g off _ (w8 l) _ hr underlying67 rfl (by rw[Ls,aW,hl])
def eE{ops:Array Oper}{rest:List Oper}{o:Oper}{a:Act}{C:World->Prop}{Q:Act->Prop}(jk:o.guard=none)(x:Operand)(ho:o.op=.load 67 x) (g off:Nat) (l:List UInt8) (hl:l.length=32) (hx:a.eval x=.pointer (some ⟨g,off,none⟩)) (hr:∀w,C w->w.rangeAt g off (w8 l)) (h:wpQuiet prog ops C Q rest (a.put o.dst (.agg (w8 l).toArray))):wpQuiet prog ops C Q (o::rest) a:=by unfold wpQuiet;rw[if_pos (by simp[Region.wanted,jk])];refine⟨_,λw hw=>?_,h⟩;have:=wO w g off l hl (hr w hw);unfold Oper.quietAt execOp;simp only[ho,hx,Sem.run_bind,this,Result.andThen_ok,Sem.run_pure,Oper.quietUpon];first|trivial|exact⟨trivial,trivial⟩|exact⟨rfl,rfl⟩|exact⟨rfl,hw⟩
def FC(w:World):(Instr.alloc 67 true (.tuple #[])).run prog w=.ok (.pointer (some ⟨w.heap.size,0,none⟩)) (w.alloc (.cells (w8 (List.replicate 32 0)).toArray 67)):=by kernel_rfl
section
variable{ops:Array Oper}{Q:Exit->Act->World->Prop}{S:World->Prop}
def qG{a:Act}{w:World}{o:Oper}(ho:o.op=.alloc 67)(hg:o.guard=none)(K:Act->World->Prop) (hS:S (w.alloc (.cells (w8 (List.replicate 32 0)).toArray 67))) (h:K (a.put o.dst (.pointer (some ⟨w.heap.size,0,none⟩))) (w.alloc (.cells (w8 (List.replicate 32 0)).toArray 67))):wpList prog ops (ax.next S Q K) [o] a w:=by refine lx hg (v:=.pointer (some ⟨w.heap.size,0,none⟩)) (w':=w.alloc (.cells (w8 (List.replicate 32 0)).toArray 67)) ?_ ⟨hS,h⟩;unfold execOp;simp only[ho,Sem.run_bind,FC];rfl
def news{L:Array Bool}{a:Act}{w:World}(i j s t:Nat)(x y:Nat)(u v:Operand)(oi oj os ot:Oper)(hr0:Region.ready .any ops L=[i,j])(WU:Region.ready .any ops (L.setIfInBounds i true)=[j])(mJ:Region.ready .any ops (L.setIfInBounds j true)=[i]) (EO:Region.ready .any ops ((L.setIfInBounds i true).setIfInBounds j true)=[s]) (Hv:Region.ready .any ops (((L.setIfInBounds i true).setIfInBounds j true).setIfInBounds s true)=[t]) (hr5:Region.ready .any ops ((((L.setIfInBounds i true).setIfInBounds j true).setIfInBounds s true).setIfInBounds t true)=[]) (hi:ops[i]? =some oi) (hj:ops[j]? =some oj) (hs:ops[s]? =some os) (ht:ops[t]? =some ot) (gi:oi.guard=none) (gj:oj.guard=none) (gs:os.guard=none) (gt:ot.guard=none) (qi:oi.op=.alloc 67) (qj:oj.op=.alloc 67) (qs:os.op=.store 67 (.tmp x) u) (qt:ot.op=.store 67 (.tmp y) v) (di:oi.dst=some x) (dj:oj.dst=some y) (ds:os.dst=none) (dt:ot.dst=none) (kx:i≠j) (Y4:x≠y) (hx:x<a.tmps.size) (hy:y<a.tmps.size) (A B:List UInt8) (lA:A.length=32) (lB:B.length=32) (hu:∀p q,((a.put (some x) p).put (some y) q).eval u=.agg (w8 A).toArray) (hv:∀p q,((a.put (some x) p).put (some y) q).eval v=.agg (w8 B).toArray) (hS:∀w',Below w.heap.size w w'->S w') (h:∀b6 b7 w',w.heap.size<=b6->w.heap.size<=b7->b6≠b7->Row w' b6 (w8 A)->Row w' b7 (w8 B)->Below w.heap.size w w'->Q .normal ((a.put (some x) (.pointer (some ⟨b6,0,none⟩))).put (some y) (.pointer (some ⟨b7,0,none⟩))) w'):wpAnyH prog .any ops Q S 4 L a w:=by
 have fin:∀b6 b7 w',w.heap.size<=b6->w.heap.size<=b7->b6≠b7->Row w' b6 (w8 (List.replicate 32 0))->Row w' b7 (w8 (List.replicate 32 0))->Below w.heap.size w w'->wpAnyH prog .any ops Q S 2 ((L.setIfInBounds i true).setIfInBounds j true) ((a.put (some x) (.pointer (some ⟨b6,0,none⟩))).put (some y) (.pointer (some ⟨b7,0,none⟩))) w':=by
  intro b6 b7 w' h6 h7 cE r6 r7 hB;have ex:((a.put (some x) (.pointer (some ⟨b6,0,none⟩))).put (some y) (.pointer (some ⟨b7,0,none⟩))).eval (.tmp x)=.pointer (some ⟨b6,0,none⟩):=by rw[jw _ _ _ _ (Ne.symm Y4),iR _ _ _ hx]
  have ey:((a.put (some x) (.pointer (some ⟨b6,0,none⟩))).put (some y) (.pointer (some ⟨b7,0,none⟩))).eval (.tmp y)=.pointer (some ⟨b7,0,none⟩):=by rw[iR _ _ _ (by rw[lf];exact hy)]
  have hB1:=below_setRow hB h6 (w8 A).toArray;have yS:=below_setRow hB1 h7 (w8 B).toArray;have r7':=r7.aG (Ne.symm cE) (w8 A).toArray;have r6':=(r6.setRow (w8 A)).aG cE (w8 B).toArray;have asv:=r7'.setRow (w8 B);refine ax.one s os EO hs gs ?_;refine eU gs _ _ qs b6 (List.replicate 32 0) A (by simp) lA ex (hu _ _) r6 ?_;rw[ds];refine⟨hS _ hB1,?_⟩;refine ax.one t ot Hv ht gt ?_;refine eU gt _ _ qt b7 (List.replicate 32 0) B (by simp) lB ey (hv _ _) r7' ?_;rw[dt];exact⟨hS _ yS,wpAnyH_done hr5 (h b6 b7 _ h6 h7 cE r6' asv yS) 0⟩
 have ux:=(Below.refl w.heap.size w).alloc ν (.cells (w8 (List.replicate 32 0)).toArray 67);have ku:(w.alloc (.cells (w8 (List.replicate 32 0)).toArray 67)).heap.size=w.heap.size+1:=by simp
 have fT:=ux.alloc (by omega) (.cells (w8 (List.replicate 32 0)).toArray 67);have n1:=Row.new w (w8 (List.replicate 32 0)) 67;have n2:=Row.new (w.alloc (.cells (w8 (List.replicate 32 0)).toArray 67)) (w8 (List.replicate 32 0)) 67;have n1':=n1.alloc (.cells (w8 (List.replicate 32 0)).toArray 67);rw[ku]at n2;refine ax.two i j oi oj hr0 hi gi hj gj ?_ ?_;refine qG qi gi _ (hS _ ux) ?_;refine ax.one j oj WU hj gj ?_;refine qG qj gj _ (hS _ fT) ?_;rw[di,dj,ku];exact fin w.heap.size (w.heap.size+1) _ ν (by omega) (by omega) n1' n2 fT;refine qG qj gj _ (hS _ ux) ?_;refine ax.one i oi mJ hi gi ?_;refine qG qi gi _ (hS _ fT) ?_;rw[di,dj,ku,Array.setIfInBounds_comm _ _ (Ne.symm kx),Act.put_comm _ _ _ (λd e1 e2=>Y4 (by rw[Option.some.inj e1]at *;exact(Option.some.inj e2).symm▸rfl))];exact fin (w.heap.size+1) w.heap.size _ (by omega) ν (by omega) n2 n1' fT
end
def EG{P w a o rest ops Q w'}(hw:Region.wanted o (yielded ops a.tmps)=true){v}(hr:(execOp a.eval o).run P w=.ok (.value v) w')(h:wpList P ops Q rest (a.put o.dst v) w'):wpList P ops Q (o::rest) a w:=by unfold wpList;rw[if_pos hw];left;unfold Oper.wp;rw[hr];exact h
def JD{ops:Array Oper}{rest:List Oper}{o:Oper}{a:Act}{w:World}{Q:Exit->Act->World->Prop}(hw:Region.wanted o (yielded ops a.tmps)=true)(x:Operand)(ho:o.op=.load 67 x) (g:Nat) (l:List UInt8) (hl:l.length=32) (hx:a.eval x=.pointer (some ⟨g,0,none⟩)) (hr:Row w g (w8 l)) (h:wpList prog ops Q rest (a.put o.dst (.agg (w8 l).toArray)) w):wpList prog ops Q (o::rest) a w:=by refine EG hw ?_ h;have:=wO w g 0 l hl (λj v hv=>by rw[Nat.zero_add,hr.cell];exact hv);unfold execOp;simp only[ho,hx,Sem.run_bind,this,Result.andThen_ok,Sem.run_pure]
def abk{ops:Array Oper}{rest:List Oper}{o:Oper}{a:Act}{w:World}{Q:Exit->Act->World->Prop}(hw:Region.wanted o (yielded ops a.tmps)=true)(x y:Operand)(t:TypeId)(ho:o.op=.binOp .eql 67 x y t) (A B:List UInt8) (lA:A.length=32) (lB:B.length=32) (hx:a.eval x=.agg (w8 A).toArray) (hy:a.eval y=.agg (w8 B).toArray) (r:Bool) (hr:(A==B)=r) (h:wpList prog ops Q rest (a.put o.dst (.bool r)) w):wpList prog ops Q (o::rest) a w:=by subst hr;refine EG hw ?_ h;have h1:=aiZ A B lA lB w;have h2:=run_eqGuard_agg (P:=prog) w .eql 67 x y (w8 A).toArray (w8 B).toArray (by kernel_rfl);unfold execOp;simp only[ho,hx,hy,Sem.run_bind,h1,h2,Result.andThen_ok,Sem.run_pure]
def aB{w w' B C e z v n xs}(h:w.ownsRow B e z v n xs)(hb:Below C w w')(hC:w.heap.size<=C):w'.ownsRow B e z v n xs:=by refine⟨h.1,?_⟩;rcases h.2 with h|⟨g,cap,cur,rfl,h1,h2,h3⟩;exact .inl h;exact .inr ⟨g,cap,cur,rfl,h1,by rw[hb.block g (Nat.lt_of_lt_of_le (Array.getElem?_eq_some_iff.1 h2).1 hC)];exact h2,h3⟩
def yZ(w:World)(g:Nat)(l:List UInt8)(hl:l.length=32)(hr:Row w g (w8 l))(n:Nat):(convert 64 9 (.slice (some ⟨g,0,none⟩) 32 32)).run prog (w.drewN n)=.ok (.string (str l)) (w.drewN n):=by have:=jC (P:=prog) (w.drewN n) 64 9 5 g 0 32 l underlying64 underlying5 underlying9 (hr.drewN n).bytes;rw[hl]at this;exact this
def FB(w:World)(a0 a1 a2 a3 a4 a5 a6 a7 a8 a9 Hi Hh a12 Hg He Hd Hc Ha G9 G8 a20 a21 G7 G6 a24 G0 GZ GY a28 GX GV a31:UInt8):(Instr.buildSlice 124 1 #[(0,.agg (w8 [a0,a1,a2,a3,a4,a5,a6,a7,a8,a9,Hi,Hh,a12,Hg,He,Hd,Hc,Ha,G9,G8,a20,a21,G7,G6,a24,G0,GZ,GY,a28,GX,GV,a31]).toArray)]).run prog w=.ok (.slice (some ⟨w.heap.size,0,none⟩) 1 1) (w.alloc (.cells (w8 [a0,a1,a2,a3,a4,a5,a6,a7,a8,a9,Hi,Hh,a12,Hg,He,Hd,Hc,Ha,G9,G8,a20,a21,G7,G6,a24,G0,GZ,GY,a28,GX,GV,a31]).toArray 67)):=by kernel_rfl
def Fz(w:World)(l:List UInt8)(hl:l.length=32):(Instr.buildSlice 124 1 #[(0,.agg (w8 l).toArray)]).run prog w=.ok (.slice (some ⟨w.heap.size,0,none⟩) 1 1) (w.alloc (.cells (w8 l).toArray 67)):=
 match l,hl with
 |[a0,a1,a2,a3,a4,a5,a6,a7,a8,a9,Hi,Hh,a12,Hg,He,Hd,Hc,Ha,G9,G8,a20,a21,G7,G6,a24,G0,GZ,GY,a28,GX,GV,a31],_=>FB w a0 a1 a2 a3 a4 a5 a6 a7 a8 a9 Hi Hh a12 Hg He Hd Hc Ha G9 G8 a20 a21 G7 G6 a24 G0 GZ GY a28 GX GV a31
def qP{ops:Array Oper}{rest:List Oper}{o:Oper}{a:Act}{w:World}{Q:Exit->Act->World->Prop}(jk:o.guard=none)(x:Operand)(ho:o.op=.buildSlice 124 1 #[(0,x)]) (l:List UInt8) (hl:l.length=32) (hx:a.eval x=.agg (w8 l).toArray) (h:wpList prog ops Q rest (a.put o.dst (.slice (some ⟨w.heap.size,0,none⟩) 1 1)) (w.alloc (.cells (w8 l).toArray 67))):wpList prog ops Q (o::rest) a w:=by refine lx jk ?_ h;have:=Fz w l hl;unfold execOp;simp only[ho,List.map_toArray,List.map_cons,List.map_nil,hx,Sem.run_bind,this,Result.andThen_ok,Sem.run_pure]
def IL{fn:Func}{p u:Tmp}(h:fn.results=#[.cell p 67,.tmp u])(tmps:Array Value)(w:World)(g:Nat)(l:List UInt8)(hl:l.length=32)(v:Value) (hp:tmps.getD p undef=.pointer (some ⟨g,0,none⟩)) (hu:tmps.getD u undef=v) (hr:Row w g (w8 l)):(results fn tmps).run prog w=.ok (.tuple #[.agg (w8 l).toArray,v]) w:=by
 have h2:(loadVar 67 ⟨g,0,none⟩).run prog w=.ok (.agg (w8 l).toArray) w:=run_loadVar_mid w g 0 _ (w8 l) _ (λj v hv=>by rw[Nat.zero_add,hr.cell];exact hv) underlying67 rfl (by rw[Ls,aW,hl]);have JP:tmps[p]?.getD undef=.pointer (some ⟨g,0,none⟩):=by simpa using hp
 have EL:tmps[u]?.getD undef=v:=by simpa using hu
 unfold results;rw[h];simp[asAddr,JP,EL,h2]
def xQ:Value->Nat
 |.slice _ n _=>n|_=>0
def bOf:Value->Bool
 |.bool b=>b|_=>false
end
section
open ba
open Go.RowKit
def wt(l:List (List UInt8)):List Value:=l.map λs=>Value.string (str s)
def qk l:(wt l).length=l.length:=by simp[wt]
def ig l:∀u∈wt l,u.oneCell'=true:=by intro u hu;obtain⟨x,_,rfl⟩:=List.mem_map.1 hu;rfl
def y7 l i(h:i<l.length):(wt l)[i]? =some (.string (str (l.getD i []))):=by unfold wt;rw[List.getElem?_map,List.getD_eq_getElem?_getD,List.getElem?_eq_getElem h];rfl
def iK l s:wt l++[.string (str s)]=wt (l++[s]):=by simp[wt]
def me:(prog.info? 9).map (λi=>(i.zero,i.size,i.bytes))=some (some (.string ByteArray.empty),1,16):=by kernel_rfl
end
section
open Go.RowKit ba
def xx(b c:Nat)(ds:List (List UInt8))(w:World)(hT:cG w)(hb:b<w.heap.size)(hd:TF w b ds)(rT:kz ds)(hn:0<ds.length)(hm:ds.length<=1000):Calls prog 56 #[.slice (some ⟨b,0,none⟩) ds.length c] w λe w'=>e=.returned (.tuple #[.agg (w8 (Mk.root ds false).1).toArray,.bool (Mk.root ds false).2])/\Below w.heap.size w w':=by
 obtain⟨i0,fy,nB,ku,gK⟩:=info_parts Gn;have h1:=hT.lt;have hR:Row (w.alloc (.cells (w8 (List.replicate 32 0)).toArray 67)) w.heap.size (w8 (List.replicate 32 0)):=Row.new w _ _;have hB:Below w.heap.size w (w.alloc (.cells (w8 (List.replicate 32 0)).toArray 67)):=(Below.refl _ _).alloc ν _;have hZ:(w.alloc (.cells (w8 (List.replicate 32 0)).toArray 67)).heap.size=w.heap.size+1:=by simp
 rw[Tryz.mm]at hR hB hZ;have HT:=η hT;have HD:=η hd;have H32:=η rT;clear hT hd rT;go_enter func56,ntmps56;go_wp2_with fail;generalize w.alloc _=w1 at hR hB hZ|-;have A1:=η hR;have A2:=η hB;have hZ':w.heap.size<w1.heap.size:=by omega
 clear hR hB hZ;go_loopw [0,3] (λlv mv wr=>∃(g k:Nat)(ls:List (List UInt8)),0<ls.length/\ls.length<=ds.length/\lv=.slice (some ⟨g,0,none⟩) ls.length k/\mv=.bool (bOf mv)/\g<wr.heap.size/\TF wr g ls/\kz ls/\Mk.root ds false=Mk.root ls (bOf mv)/\Row wr w.heap.size (w8 (List.replicate 32 0))/\g≠w.heap.size/\Below w.heap.size w wr) (λlv _ _=>xQ lv);exact⟨b,c,ds,hn,ν,rfl,rfl,by omega,HD.o.below A2.o hb,H32.o,rfl,A1.o,by omega,A2.o⟩;clear A1 A2;obtain⟨g,k,ls,hls,hle,rfl,Y7,hg,Ua,aa4,rR,hR,cE,hB⟩:=hrel;obtain⟨m,rfl⟩:∃m,u3=.bool m:=⟨_,Y7⟩;replace rR:Mk.root ds false=Mk.root ls m:=rR;clear Y7;by_cases hl1:1<ls.length
 ·have p0:(1:Int)< (ls.length:Int):=by omega
  have B1:=η Ua;have B2:=η aa4;have B3:=η rR;have B4:=η hR;have B5:=η hB;clear Ua aa4 rR hR hB;go_wp2_with fail;obtain⟨wo,rfl⟩:∃wo:World,wo=wr:=⟨_,rfl⟩;go_loopw [3,4,5] (λmv uv iv wr=>∃(q:Nat)(us:List (List UInt8)),2*q<=ls.length+1/\iv=.int .i64 ((2*q:Nat):Int)/\mv=.bool (bOf mv)/\us.length=q/\kz us/\wr.ownsRow wo.heap.size 67 32 uv q (w8 us.flatten)/\Mk.up ls=us++Mk.up (ls.drop (2*q))/\(m || Mk.qU ls)=(bOf mv || Mk.qU (ls.drop (2*q)))/\Below wo.heap.size wo wr) (λ_ _ iv _=>ls.length+1-(intOf iv).toNat);exact⟨0,[],by omega,rfl,rfl,rfl,λ_ h=>by simp at h,World.ownsRow_nil _ _ _ _,rfl,rfl,Below.refl _ _⟩;obtain⟨q,us,hq,rfl,Y7,Br,Wy,bL,mg,MJ,hB⟩:=hrel;obtain⟨m',rfl⟩:∃m',u3=.bool m':=⟨_,Y7⟩;replace MJ:(m || Mk.qU ls)=(m' || Mk.qU (ls.drop (2*q))):=MJ;clear Y7;by_cases aM:2*q<ls.length
  ·have p1:((2*q:Nat):Int)< (ls.length:Int):=by omega
   have HI:=η fy;clear fy;have G1:=η bL;have G2:=η hB;have G3:=η mg;have G4:=η MJ;have G5:=η Wy;clear bL mg MJ Wy;by_cases Pr:2*q+1<ls.length
   ·have rA:wr.rangeAt g (2*q*32) (w8 (ls.getD (2*q) [])):=by rw[Nat.mul_comm];exact B1.o.below hB hg (2*q) aM
    have rB:wr.rangeAt g ((2*q+1)*32) (w8 (ls.getD (2*q+1) [])):=by rw[Nat.mul_comm];exact B1.o.below hB hg (2*q+1) Pr
    have lA:=B2.o.get (2*q) aM;have lB:=B2.o.get (2*q+1) Pr;clear hB;have rn:=Mk.Zp ls (2*q) Pr;have ht2:=Mk.Qk ls (2*q) Pr;generalize ls.getD (2*q) []=A at rA lA rn ht2;generalize ls.getD (2*q+1) []=B at rB lB rn ht2;have M1:=η rn;have M2:=η ht2;clear rn ht2;have p2:2*(q:Int)< (ls.length:Int):=by omega
    have p3:(0:Int)<=2*(q:Int):=by omega
    have p4:¬((ls.length:Int) - 1<2*(q:Int)+1):=by omega
    have p6:min (2*(q:Int)+1) ((ls.length:Int) - 1)=2*(q:Int)+1:=by omega
    have p5:2*(q:Int)+1< (ls.length:Int):=by omega
    go_wp2_with fail;haveI cE:Nonempty (ax.Of (λu=>u.rangeAt g (2*q*32) (w8 A)/\u.rangeAt g ((2*q+1)*32) (w8 B))):=⟨⟨wr,rA,rB⟩⟩;refine ax.UO 13 4 mixed (by kernel_rfl) rfl (λc a d v w h=>by cases d<;>exact h) (by as_aux_lemma=>kernel_rfl) rfl (λu=>u.rangeAt g (2*q*32) (w8 A)/\u.rangeAt g ((2*q+1)*32) (w8 B)) ⟨rA,rB⟩ ?_;simp only[List.take_succ_cons,List.take_zero];iterate 3 (go_big_quiet_step (fail))
    refine eE (o:=⟨some 24,_,_,_,_,_⟩) rfl _ rfl g (2*q*32) A lA rfl (λw' ⟨u,hu⟩=>by rw[hu];exact u.h.1) ?_;go_frame;iterate 8 (go_big_quiet_step (fail))
    refine eE (o:=⟨some 33,_,_,_,_,_⟩) rfl _ rfl g ((2*q+1)*32) B lB rfl (λw' ⟨u,hu⟩=>by rw[hu];exact u.h.2) ?_;go_frame;refine wpQuiet_nil ?_;have rA2:wr.drew.rangeAt g (2*q*32) (w8 A):=rA;have rB2:wr.drew.rangeAt g ((2*q+1)*32) (w8 B):=rB;have hwb:Below wo.heap.size wo wr.drew:=G2.o.drew;have hg5:g<wr.drew.heap.size:=Nat.lt_of_lt_of_le hg hwb.size;have K0:=G1.o.drew;clear rA rB;generalize wr.drew=w5 at rA2 rB2 hwb hg5 K0|-;refine news 13 14 15 16 6 7 (.tmp 24) (.tmp 33) _ _ _ _ (by kernel_rfl) (by kernel_rfl) (by kernel_rfl) (by kernel_rfl) (by kernel_rfl) (by kernel_rfl) rfl rfl rfl rfl rfl rfl rfl rfl rfl rfl rfl rfl rfl rfl rfl rfl (by decide) (by decide) (by exact Nat.le_of_ble_eq_true rfl) (by exact Nat.le_of_ble_eq_true rfl) A B lA lB (λ_ _=>rfl) (λ_ _=>rfl)
     (λw' Sf=>ax.aq ⟨rangeAt_of_block rA2 (Sf.block g (by omega)),rangeAt_of_block rB2 (Sf.block g (by omega))⟩) ?_
    intro b6 b7 w6 h6 h7 aum hr6 hr7 hbw;go_frame;have J1:=η hr6;have J2:=η hr7;have J3:=η (hwb.trans (hbw.mono hwb.size));have J4:=η (aB K0 hbw ν);cases hr:(A==B);all_goals
     go_wp2_with (first|(refine JD (o:=⟨some 40,_,_,_,_,_⟩) rfl _ rfl b6 A lA rfl J1.o ?_)|(refine JD (o:=⟨some 41,_,_,_,_,_⟩) rfl _ rfl b7 B lB rfl J2.o ?_)|(refine abk (o:=⟨some 42,_,_,_,_,_⟩) rfl _ _ _ rfl A B lA lB rfl rfl _ hr ?_))
     have hcA:=yZ w6 b6 A lA J1.o;have hcB:=yZ w6 b7 B lB J2.o;refine ax.acf 1 5 mixed (by as_aux_lemma=>kernel_rfl) rfl rfl (λc a d v w h=>by cases d<;>exact h) ?_
     simp only[List.take_succ_cons,List.take_zero,List.drop_succ_cons,List.drop_zero,List.foldl,ax.pD]
     change wpQuiet _ _ _ _ _ (Act.put _ (some 44) u4)
     go_frame;repeat(go_big_quiet_step (fail))
     refine wpQuiet_nil ?_;have K1:=J3.o.drew;have K2:=J4.o.drew;generalize w6.drew=w7 at K1 K2|-;have hz7:=K1.size;have hs8:(w7.alloc (.cells #[.string (str A),.string (str B)] 9)).heap.size=w7.heap.size+1:=by simp
     have hT8:=HT.o.below ((B5.o.trans (K1.mono B5.o.size)).alloc (by have:=B5.o.size;omega) (.cells #[.string (str A),.string (str B)] 9)) h1
     have c80:(w7.alloc (.cells #[.string (str A),.string (str B)] 9)).cell? ⟨w7.heap.size,0,none⟩=some (.string (str A)):=(Row.new w7 [.string (str A),.string (str B)] _).cell 0;have c81:(w7.alloc (.cells #[.string (str A),.string (str B)] 9)).cell? ⟨w7.heap.size,1,none⟩=some (.string (str B)):=(Row.new w7 [.string (str A),.string (str B)] _).cell 1;have K3:=η (K1.alloc K1.size (.cells #[.string (str A),.string (str B)] 9));have K4:=η (K2.alloc (.cells #[.string (str A),.string (str B)] 9));have K5:=η hT8;have K6:=η c80;have K7:=η c81;clear hT8 c80 c81 K1 K2;go_wp2_with fail;refine(Bt w7.heap.size 2 A B _ K5.o K6.o K7.o (by omega)).mono ?_
     rintro e w9⟨rfl,Gu⟩;have K8:=K3.o.trans (Gu.mono K3.o.size);have K9:=aB K4.o Gu ν;have hz9:wo.heap.size<=w9.heap.size:=K8.size;have lD:=Mk.dG (A++B);have hnw:∀j u,(w8 (Mk.ak (A++B)))[j]? =some u->(w9.alloc (.cells (w8 (Mk.ak (A++B))).toArray 67)).cell? (Addr.add ⟨w9.heap.size,0,none⟩ j)=some u:=λj u hu=>by
      rw[Addr.add_lit,Nat.zero_add,(Row.new w9 _ _).cell];exact hu
     have L1:=η hnw;have L2:=η (K9.alloc (.cells (w8 (Mk.ak (A++B))).toArray 67));have L3:=η (K8.alloc K8.size (.cells (w8 (Mk.ak (A++B))).toArray 67));clear K3 K4 K5 K6 K7 K8 K9 hnw Gu hs8;go_wp2_with (first|(refine qP (o:=⟨some 51,_,_,_,_,_⟩) rfl _ rfl (Mk.ak (A++B)) lD rfl ?_)|(at_builtin;refine wpList_append_own _ rfl _ _ 124 rfl wo.heap.size 67 i0 (.agg (w8 (List.replicate 32 0)).toArray) 32 32 underlying124 HI.o nB ku gK rfl (by decide) _ _ _ rfl L2.o ⟨w9.heap.size,0,none⟩ 1 1 (w8 (Mk.ak (A++B))) rfl (by rw[aW,lD]) L1.o (nG _) (by unfold maxLen;omega) (by omega) (by rw[World.size_alloc];omega) ?_;intro TI Y0 iu pM _))
     have N1:=L3.o.trans ((Below.refl wo.heap.size _).grown pM (by rw[World.size_alloc];omega) (λk hk=>(L2.o.lt k hk).1))
     rw[qM]at iu;have N2:=η iu;have N3:=η N1;have N4:Hid (Mk.up ls=(us++[Mk.ak (A++B)])++Mk.up (ls.drop (2*(q+1)))):=η (by rw[G3.o,M1.o,List.append_assoc];rfl)
     have N5:Hid ((m || Mk.qU ls)=(m' ||(A==B || Mk.qU (ls.drop (2*(q+1)))))):=η (by rw[G4.o,M2.o];rfl)
     have N6:=η (sU G5.o lD);clear iu pM N1 L1 L2 L3;go_roundw
     case rel=>((repeat(apply Exists.intro));(first|refine And.intro ?_ rfl|refine And.intro ?_ ⟨rfl,rfl,rfl⟩);exact⟨q+1,by omega,by go_num,rfl,us++[Mk.ak (A++B)],by rw[List.length_append,Br];rfl,N6.o,N2.o,N4.o,by rw[N5.o,hr];simp[bOf],N3.o⟩)
     case measure=>simp[intOf];omega
   have rA:wr.rangeAt g (2*q*32) (w8 (ls.getD (2*q) [])):=by rw[Nat.mul_comm];exact B1.o.below hB hg (2*q) aM
   have rB:wr.rangeAt g ((ls.length-1)*32) (w8 (ls.getD (2*q) [])):=by rw[show ls.length-1=2*q by omega];exact rA
   have lA:=B2.o.get (2*q) aM;have lB:=lA;clear hB;have rn:=Mk.Zq ls (2*q) (by omega);have ht2:=Mk.Ir ls (2*q) (by omega);generalize ls.getD (2*q) []=A at rA lA rB lB rn;obtain⟨B,Zd⟩:∃B,B=A:=⟨_,rfl⟩;rw[show w8 A=w8 B by rw[Zd]]at rB;rw[<-Zd]at lB;have hu3:Mk.up (ls.drop (2*q))=Mk.ak (A++B)::Mk.up (ls.drop (2*q+2)):=by rw[Zd];exact rn
   clear rn Zd;have M1:=η hu3;have M2:=η ht2;clear hu3 ht2;have p2:2*(q:Int)< (ls.length:Int):=by omega
   have p3:(0:Int)<=2*(q:Int):=by omega
   have p4:(ls.length:Int) - 1<2*(q:Int)+1:=by omega
   have p6:min (2*(q:Int)+1) ((ls.length:Int) - 1)=(ls.length:Int) - 1:=by omega
   have p5:¬(2*(q:Int)+1< (ls.length:Int)):=by omega
   have p7:(0:Int)<=(ls.length:Int) - 1:=by omega
   have p8:((ls.length:Int) - 1).toNat=ls.length-1:=by omega
   go_wp2_with fail;haveI cE:Nonempty (ax.Of (λu=>u.rangeAt g (2*q*32) (w8 A)/\u.rangeAt g ((ls.length-1)*32) (w8 B))):=⟨⟨wr,rA,rB⟩⟩;refine ax.UO 13 4 mixed (by kernel_rfl) rfl (λc a d v w h=>by cases d<;>exact h) (by as_aux_lemma=>kernel_rfl) rfl (λu=>u.rangeAt g (2*q*32) (w8 A)/\u.rangeAt g ((ls.length-1)*32) (w8 B)) ⟨rA,rB⟩ ?_;simp only[List.take_succ_cons,List.take_zero];iterate 3 (go_big_quiet_step (fail))
   refine eE (o:=⟨some 24,_,_,_,_,_⟩) rfl _ rfl g (2*q*32) A lA rfl (λw' ⟨u,hu⟩=>by rw[hu];exact u.h.1) ?_;go_frame;iterate 8 (go_big_quiet_step (fail))
   refine eE (o:=⟨some 33,_,_,_,_,_⟩) rfl _ rfl g ((ls.length-1)*32) B lB rfl (λw' ⟨u,hu⟩=>by rw[hu];exact u.h.2) ?_;go_frame;refine wpQuiet_nil ?_;have rA2:wr.drew.rangeAt g (2*q*32) (w8 A):=rA;have rB2:wr.drew.rangeAt g ((ls.length-1)*32) (w8 B):=rB;have hwb:Below wo.heap.size wo wr.drew:=G2.o.drew;have hg5:g<wr.drew.heap.size:=Nat.lt_of_lt_of_le hg hwb.size;have K0:=G1.o.drew;clear rA rB;generalize wr.drew=w5 at rA2 rB2 hwb hg5 K0|-;refine news 13 14 15 16 6 7 (.tmp 24) (.tmp 33) _ _ _ _ (by kernel_rfl) (by kernel_rfl) (by kernel_rfl) (by kernel_rfl) (by kernel_rfl) (by kernel_rfl) rfl rfl rfl rfl rfl rfl rfl rfl rfl rfl rfl rfl rfl rfl rfl rfl (by decide) (by decide) (by exact Nat.le_of_ble_eq_true rfl) (by exact Nat.le_of_ble_eq_true rfl) A B lA lB (λ_ _=>rfl) (λ_ _=>rfl)
    (λw' Sf=>ax.aq ⟨rangeAt_of_block rA2 (Sf.block g (by omega)),rangeAt_of_block rB2 (Sf.block g (by omega))⟩) ?_
   intro b6 b7 w6 h6 h7 aum hr6 hr7 hbw;go_frame;have J1:=η hr6;have J2:=η hr7;have J3:=η (hwb.trans (hbw.mono hwb.size));have J4:=η (aB K0 hbw ν);all_goals
    go_wp2_with fail;have hcA:=yZ w6 b6 A lA J1.o;have hcB:=yZ w6 b7 B lB J2.o;refine ax.acf 1 5 mixed (by as_aux_lemma=>kernel_rfl) rfl rfl (λc a d v w h=>by cases d<;>exact h) ?_
    simp only[List.take_succ_cons,List.take_zero,List.drop_succ_cons,List.drop_zero,List.foldl,ax.pD]
    change wpQuiet _ _ _ _ _ (Act.put _ (some 44) u4)
    go_frame;repeat(go_big_quiet_step (fail))
    refine wpQuiet_nil ?_;have K1:=J3.o.drew;have K2:=J4.o.drew;generalize w6.drew=w7 at K1 K2|-;have hz7:=K1.size;have hs8:(w7.alloc (.cells #[.string (str A),.string (str B)] 9)).heap.size=w7.heap.size+1:=by simp
    have hT8:=HT.o.below ((B5.o.trans (K1.mono B5.o.size)).alloc (by have:=B5.o.size;omega) (.cells #[.string (str A),.string (str B)] 9)) h1
    have c80:(w7.alloc (.cells #[.string (str A),.string (str B)] 9)).cell? ⟨w7.heap.size,0,none⟩=some (.string (str A)):=(Row.new w7 [.string (str A),.string (str B)] _).cell 0;have c81:(w7.alloc (.cells #[.string (str A),.string (str B)] 9)).cell? ⟨w7.heap.size,1,none⟩=some (.string (str B)):=(Row.new w7 [.string (str A),.string (str B)] _).cell 1;have K3:=η (K1.alloc K1.size (.cells #[.string (str A),.string (str B)] 9));have K4:=η (K2.alloc (.cells #[.string (str A),.string (str B)] 9));have K5:=η hT8;have K6:=η c80;have K7:=η c81;clear hT8 c80 c81 K1 K2;go_wp2_with fail;refine(Bt w7.heap.size 2 A B _ K5.o K6.o K7.o (by omega)).mono ?_
    rintro e w9⟨rfl,Gu⟩;have K8:=K3.o.trans (Gu.mono K3.o.size);have K9:=aB K4.o Gu ν;have hz9:wo.heap.size<=w9.heap.size:=K8.size;have lD:=Mk.dG (A++B);have hnw:∀j u,(w8 (Mk.ak (A++B)))[j]? =some u->(w9.alloc (.cells (w8 (Mk.ak (A++B))).toArray 67)).cell? (Addr.add ⟨w9.heap.size,0,none⟩ j)=some u:=λj u hu=>by
     rw[Addr.add_lit,Nat.zero_add,(Row.new w9 _ _).cell];exact hu
    have L1:=η hnw;have L2:=η (K9.alloc (.cells (w8 (Mk.ak (A++B))).toArray 67));have L3:=η (K8.alloc K8.size (.cells (w8 (Mk.ak (A++B))).toArray 67));clear K3 K4 K5 K6 K7 K8 K9 hnw Gu hs8;go_wp2_with (first|(refine qP (o:=⟨some 51,_,_,_,_,_⟩) rfl _ rfl (Mk.ak (A++B)) lD rfl ?_)|(at_builtin;refine wpList_append_own _ rfl _ _ 124 rfl wo.heap.size 67 i0 (.agg (w8 (List.replicate 32 0)).toArray) 32 32 underlying124 HI.o nB ku gK rfl (by decide) _ _ _ rfl L2.o ⟨w9.heap.size,0,none⟩ 1 1 (w8 (Mk.ak (A++B))) rfl (by rw[aW,lD]) L1.o (nG _) (by unfold maxLen;omega) (by omega) (by rw[World.size_alloc];omega) ?_;intro TI Y0 iu pM _))
    have N1:=L3.o.trans ((Below.refl wo.heap.size _).grown pM (by rw[World.size_alloc];omega) (λk hk=>(L2.o.lt k hk).1))
    rw[qM]at iu;have N2:=η iu;have N3:=η N1;have N4:Hid (Mk.up ls=(us++[Mk.ak (A++B)])++Mk.up (ls.drop (2*(q+1)))):=η (by rw[G3.o,M1.o,List.append_assoc];rfl)
    have N5:Hid ((m || Mk.qU ls)=m'):=η (by rw[G4.o,M2.o,Bool.or_false])
    have N7:Hid (Mk.qU (ls.drop (2*(q+1)))=false):=η (Mk.Ir _ _ (by omega))
    have N6:=η (sU G5.o lD);clear iu pM N1 L1 L2 L3;go_roundw
    case rel=>((repeat(apply Exists.intro));(first|refine And.intro ?_ rfl|refine And.intro ?_ ⟨rfl,rfl,rfl⟩);exact⟨q+1,by omega,by go_num,rfl,us++[Mk.ak (A++B)],by rw[List.length_append,Br];rfl,N6.o,N2.o,N4.o,by rw[N5.o,N7.o];simp[bOf],N3.o⟩)
    case measure=>simp[intOf];omega
  have hdn:ls.drop (2*q)=[]:=List.drop_of_length_le (by omega);rw[hdn]at mg MJ;have hus:us=Mk.up ls:=by rw[mg];simp[Mk.up]
  have alv:(m || Mk.qU ls)=m':=by rw[MJ];simp[Mk.qU]
  subst hus;have hlen:=Mk.mP ls;obtain⟨g2,k2,rfl,T8,atY,amr⟩:=AH bL (by omega) Br.symm Wy;have hRl:=B4.o.lt;have alL:Mk.root ds false=Mk.root (Mk.up ls) m':=by rw[B3.o,Mk.ZK ls m hl1,alv]
  have P1:=η amr;have P2:=η alL;have P3:=η (B4.o.below hB hRl);have P4:=η (B5.o.trans (hB.mono B5.o.size));have P5:=η Wy;have Hx:q=(Mk.up ls).length:=Br.symm;subst Hx;clear bL mg MJ hB hdn alv amr alL Wy Br B1 B2 B3 B4 B5;have p9:¬(2*((Mk.up ls).length:Int)< (ls.length:Int)):=by omega
  go_wp2_with fail;go_roundw
  exact⟨g2,k2,Mk.up ls,by omega,by omega,rfl,rfl,atY,P1.o,P5.o,P2.o,P3.o,by omega,P4.o⟩
  (simp only[xQ];omega)
 obtain⟨d,hd1⟩:=List.length_eq_one_iff.1 (show ls.length=1 by omega);subst hd1;have WK:Mk.root ds false=(d,m):=by rw[rR,Mk.Vb _ _ (by simp)];rfl
 have B7:=η WK;have lD:=aa4 d (by simp);have rD:wr.rangeAt g 0 (w8 d):=Ua 0 (by simp);have B4:=η hR;have B5:=η hB;have B6:=η rD;clear Ua aa4 rR WK hR hB rD;go_wp2_with (first|(refine OX (o:=⟨some 56,_,_,_,_,_⟩) rfl _ rfl g 0 d lD rfl B6.o ?_)|(with_reducible refine eU (o:=⟨none,_,_,_,_,_⟩) rfl _ _ rfl w.heap.size (List.replicate 32 0) d rfl lD rfl rfl B4.o ?_));have iY:=below_setRow B5.o ν (w8 d).toArray;exact bodyPost_ret (v:=.tuple #[.agg (w8 d).toArray,.bool m]) (IL (fn:=Tryz.f56) rfl _ _ w.heap.size d lD _ rfl rfl (B4.o.setRow (w8 d))) rfl ⟨by rw[B7.o],iY⟩
theorem Row.setCells{g}:∀vs o w l,Row w g l->o+vs.length<=l.length->Row (w.setCells g o vs) g (l.take o++vs++l.drop (o+vs.length))
 |[],o,w,l,h,_=>by rw[World.setCells];simpa using h|v::vs,o,w,l,h,hl=>by
  rw[List.length_cons]at hl;have ih:=Row.setCells vs (o+1) _ _ (h.set o v) (by rw[List.length_set];omega);rw[World.setCells];have e1:(l.set o v).take (o+1)=l.take o++[v]:=by
   rw[List.take_set,List.take_succ_eq_append_getElem (show o<l.length by omega),List.set_append_right _ _ (by simp;omega)];have:(l.take o).length=o:=by simp;omega
   rw[this,Nat.sub_self];rfl
  have e2:(l.set o v).drop (o+1+vs.length)=l.drop (o+(v::vs).length):=by rw[List.drop_set_of_lt (by omega),List.length_cons,show o+1+vs.length=o+(vs.length+1)by omega]
  rw[e1,e2]at ih;simpa using ih
def XY{P} w dT sT ty e g c l(hu:P.underlying dT=some (.slice e))(hs:(P.info? e).map (·.size)=some 1)(hr:Row w g (w8 (List.replicate 32 0))):(Builtin.copy_ #[dT,sT] ty #[.slice (some ⟨g,0,none⟩) 32 c,.string (str l)]).run P w=.ok (.int .i64 ((min l.length 32:Nat):Int)) (w.setCells g 0 (w8 (l.take 32))):=by
 have hlen:(w8 (l.take 32)).length=min l.length 32:=by rw[aW,List.length_take,Nat.min_comm]
 have aT:=run_storeCells_cells (P:=P) g 0 (w8 (l.take 32)) 0 w (λj hj=>by rw[hlen]at hj;simp only[Nat.zero_add];rw[hr.cell,iL _ _ (by simp;omega)];rfl) (λj _=>hr.free _) (nG _);cases hq:P.info? e with
 |none=>simp[hq]at hs|some i=>
 have atE:l.take (Nat.min l.length 32)=l.take 32:=by by_cases h:l.length<=32;rw[show Nat.min l.length 32=l.length from Nat.min_eq_left h,List.take_of_length_le ν,List.take_of_length_le h];rw[show Nat.min l.length 32=32 from Nat.min_eq_right (by omega)]
 have aiu:List.take ((str l).size.min 32) (List.map (λb=>Value.int .u8 (b.toNat:Nat)) (str l).data.toList)=w8 (l.take 32):=by rw[iO,<-List.map_take];show List.map _ (List.take _ l)=_;rw[atE];rfl
 simp[Builtin.copy_,Builtin.lenOf,Builtin.firstCells,Sem.run_bind,run_underlying hu,sizeOf,typeInfo,hq,Sem.run_pure,Result.andThen_ok,goInt];rw[aiu,aT,iO];rfl
theorem aV.setCells{g w}:∀vs o w',aV (λk=>k=g) w w'->aV (λk=>k=g) w (w'.setCells g o vs)
 |[],_,_,h=>h|v::vs,o,w',h=>by rw[World.setCells];exact aV.setCells vs (o+1) _ (h.set ⟨g,o,none⟩ v rfl)
def Cm{ops:Array Oper}{rest:List Oper}{o:Oper}{a:Act}{w:World}{Q:Exit->Act->World->Prop}(jk:o.guard=none)(x y:Operand)(ho:o.op=.call {callee:=.builtin .copy,args:=#[x,y],argTypes:=#[64,9]}) (g c:Nat) (l:List UInt8) (hx:a.eval x=.slice (some ⟨g,0,none⟩) 32 c) (hy:a.eval y=.string (str l)) (hr:Row w g (w8 (List.replicate 32 0))) (h:∀w',(l.length=32->Row w' g (w8 l))->aV (λk=>k=g) w w'->wpList prog ops Q rest (a.put o.dst (.int .i64 ((min l.length 32:Nat):Int))) w'):wpList prog ops Q (o::rest) a w:=by have hc:=XY (P:=prog) w 64 9 o.type 5 g c l underlying64 (by kernel_rfl) hr;refine lx jk ?_ (h (w.setCells g 0 (w8 (l.take 32))) (λhl=>?_) (aV.setCells _ _ _ (aV.refl _ w)));unfold execOp;simp only[ho,resolve,invoke,builtin,List.map_toArray,List.map_cons,List.map_nil,hx,hy,Sem.run_bind,Sem.run_pure,Result.andThen_ok,hc];have:=Row.setCells (w8 (l.take 32)) 0 w _ hr (by rw[aW,aW,List.length_take,hl];simp);rw[List.take_of_length_le (by omega)]at this;rw[List.take_of_length_le (by omega)];simpa[aW,hl,w8]using this
def Mk.fit(ss:List (List UInt8)):Bool:=decide (0<ss.length)&&ss.all λs=>s.length==32
def Mk.answer(ss:List (List UInt8)):Value:=if Mk.fit ss then .tuple #[.string (str (Mk.root ss false).1),.bool (Mk.root ss false).2,.int .i64 0]else .tuple #[.string (str []),.bool false,.int .i64 3]
def fH(w:World)(v:Value)(ss:List (List UInt8)):Prop:=(∃a c,v=.slice a 0 c/\ss=[])∨∃b o c,v=.slice (some ⟨b,o,none⟩) ss.length c/\b<w.heap.size/\xK w b o ss
def fH.below{B v ss w w'}(h:fH w v ss)(hb:Below B w w')(hB:w.heap.size<=B):fH w' v ss:=by rcases h with h|⟨b,o,c,h1,h2,h3⟩;exact .inl h;exact .inr ⟨b,o,c,h1,Nat.lt_of_lt_of_le h2 hb.size,h3.below hb (Nat.lt_of_lt_of_le h2 hB)⟩
def Mk.k6 ss(h:kz ss)(hn:0<ss.length):(Mk.root ss false).1.length=32:=by
 have:∀(n:Nat)(l:List (List UInt8))(m:Bool),kz l->0<l.length->(Mk.run n l m).1.length=32:=by
  intro n;induction n with
  |zero=>intro l m h hn;cases l with|nil=>simp at hn|cons x l=>exact h x List.mem_cons_self
  |succ n ih=>
  intro l m h hn;rw[Mk.run];split;cases l with|nil=>simp at hn|cons x l=>exact h x List.mem_cons_self
  exact ih _ _ (Mk.Il l) (by rw[Mk.mP];omega)
 exact this _ _ _ h hn
def Jo{w:World}{B e z v n xs}(h:w.ownsRow B e z v n xs):∃a cap,v=.slice a n cap:=by obtain⟨_,⟨rfl,rfl⟩|⟨g,cap,cur,rfl,_⟩⟩:=h;exact⟨none,0,rfl⟩;exact⟨_,cap,rfl⟩
def IF(v:Value)(ss:List (List UInt8))(w:World)(hT:cG w)(hv:fH w v ss)(hm:ss.length<=1000):Calls prog 36 #[v] w λe w'=>e=.returned (Mk.answer ss)/\Below w.heap.size w w':=by
 obtain⟨i0,fy,nB,ku,gK⟩:=info_parts Gn;have h1:=hT.lt;have HT:=η hT;have HI:=η fy;clear hT fy;rcases hv with⟨a0,c0,rfl,rfl⟩|⟨b0,o0,c,rfl,had,dL⟩
 ·go_enter func36,ntmps36;go_wp2_with fail;go_loopw [5,13] (λlv iv wr=>lv=.slice none 0 0/\iv=.int .i64 0/\wr=w) (λ_ _ _=>0)
  exact⟨rfl,rfl,rfl⟩;obtain⟨rfl,rfl,rfl⟩:=hrel;go_wp2_with fail;refine bodyPost_ret (results_tmp3 rfl _ _ _) rfl ?_;exact⟨rfl,Below.refl _ _⟩
 have HC:=η dL;clear dL;go_enter func36,ntmps36;go_wp2_with fail;go_loopw [5,13] (λlv iv wr=>∃i:Nat,i<=ss.length/\iv=.int .i64 i/\kz (ss.take i)/\wr.ownsRow w.heap.size 67 32 lv i (w8 (ss.take i).flatten)/\Below w.heap.size w wr) (λ_ iv _=>ss.length-(intOf iv).toNat)
 exact⟨0,by omega,rfl,λ_ h=>by simp at h,World.ownsRow_nil _ _ _ _,Below.refl _ _⟩;obtain⟨i,hi,rfl,rT,bL,hB⟩:=hrel;have B1:=η rT;have B2:=η bL;have B3:=η hB;have Ig:=hB.size;by_cases aM:i<ss.length
 ·have cs:wr.cell? ⟨b0,o0+i,none⟩=some (.string (str (ss.getD i []))):=(HC.o.below hB had) i aM;have htk:ss.take (i+1)=ss.take i++[ss.getD i []]:=by rw[List.take_succ_eq_append_getElem aM,List.getD_eq_getElem?_getD,List.getElem?_eq_getElem aM];rfl
  have Bx:ss.getD i []∈ss:=by rw[List.getD_eq_getElem?_getD,List.getElem?_eq_getElem aM];exact List.getElem_mem aM
  have B4:=η htk;have B5:=η Bx;clear rT bL hB htk Bx;generalize ss.getD i []=s at cs B4 B5;have Sx:=Row.new wr (w8 (List.replicate 32 0)) 67;have XA:=(Below.refl wr.heap.size wr).alloc ν (.cells (w8 (List.replicate 32 0)).toArray 67);rw[Tryz.mm]at Sx XA;have p0:(i:Int)< (ss.length:Int):=by omega
  have Xl:s.length≠32->Mk.answer ss=.tuple #[.string (str []),.bool false,.int .i64 3]:=λcE=>by unfold Mk.answer;rw[if_neg];intro hf;unfold Mk.fit at hf;simp only[Bool.and_eq_true,List.all_eq_true,beq_iff_eq]at hf;exact cE (hf.2 s B5.o)
  have B6:=η Xl;clear Xl;by_cases hs:s.length=32
  ·go_wp2_with (first|(refine Cm (o:=⟨some 19,_,_,_,_,_⟩) rfl _ _ rfl wr.heap.size 32 s rfl rfl Sx ?_;intro w2 oz yn)|(refine OW (o:=⟨some 27,_,_,_,_,_⟩) rfl _ rfl wr.heap.size s hs rfl (oz hs) ?_)|(refine qP (o:=⟨some 28,_,_,_,_,_⟩) rfl _ rfl s hs rfl ?_)|(at_builtin;have fT:Below wr.heap.size wr w2:=XA.trans (yn.below _ (by simp) (λk hk he=>by have Py:k=wr.heap.size:=he;omega));have hso:=fT.size;have ow2:=(aB B2.o fT ν).alloc (.cells (w8 s).toArray 67);refine wpList_append_own _ rfl _ _ 124 rfl w.heap.size 67 i0 (.agg (w8 (List.replicate 32 0)).toArray) 32 32 underlying124 HI.o nB ku gK rfl (by decide) _ _ _ rfl ow2 ⟨w2.heap.size,0,none⟩ 1 1 (w8 s) rfl (by rw[aW,hs]) (λj u hu=>by rw[Addr.add_lit,Nat.zero_add,(Row.new w2 _ _).cell];exact hu) (nG _) (by unfold maxLen;omega) (by omega) (by rw[World.size_alloc];omega) ?_;intro TI w3 cB df _))
   have gG:=((B3.o.trans (fT.mono Ig)).alloc (by omega) (.cells (w8 s).toArray 67)).trans ((Below.refl w.heap.size _).grown df (by rw[World.size_alloc];omega) (λk hk=>(ow2.lt k hk).1));rw[qM,<-B4.o]at cB;have C1:=η cB;have C2:=η gG;have C3:Hid (kz (ss.take (i+1))):=η (by rw[B4.o];exact sU B1.o hs);clear cB df gG oz yn fT ow2;go_roundw
   ·first|exact⟨i+1,by omega,by go_num,C3.o,C1.o,C2.o⟩|((repeat(apply Exists.intro));(first|refine And.intro ?_ rfl|refine And.intro ?_ ⟨rfl,rfl⟩);exact⟨i+1,by omega,by go_num,C3.o,C1.o,C2.o⟩)
   simp[intOf];omega
  by_cases oO:s.length<32
  ·have hmn:min s.length 32=s.length:=Nat.min_eq_left (by omega);have cE:((s.length:Int) != 32)=true:=by rw[bne_iff_ne];omega
   go_wp2_with (refine Cm (o:=⟨some 19,_,_,_,_,_⟩) rfl _ _ rfl wr.heap.size 32 s rfl rfl Sx ?_;intro w2 oz yn)
   refine bodyPost_ret (results_tmp3 rfl _ _ _) rfl ?_;exact⟨by rw[B6.o hs];rfl,B3.o.trans ((XA.trans (yn.below _ (by simp) (λk hk he=>by have Py:k=wr.heap.size:=he;omega))).mono Ig)⟩
  have hmn:min s.length 32=32:=Nat.min_eq_right (by omega);have cE:((s.length:Int) != 32)=true:=by rw[bne_iff_ne];omega
  go_wp2_with (refine Cm (o:=⟨some 19,_,_,_,_,_⟩) rfl _ _ rfl wr.heap.size 32 s rfl rfl Sx ?_;intro w2 oz yn)
  refine bodyPost_ret (results_tmp3 rfl _ _ _) rfl ?_;exact⟨by rw[B6.o hs];rfl,B3.o.trans ((XA.trans (yn.below _ (by simp) (λk hk he=>by have Py:k=wr.heap.size:=he;omega))).mono Ig)⟩
 obtain rfl:i=ss.length:=by omega
 rw[List.take_of_length_le ν]at rT bL;by_cases h0:ss.length=0
 ·have pS:Mk.answer ss=.tuple #[.string (str []),.bool false,.int .i64 3]:=by unfold Mk.answer Mk.fit;rw[h0];rfl
  have C1:=η pS;obtain⟨a5,c5,rfl⟩:=Jo bL;clear rT bL hB pS B1 B2;rw[h0];go_wp2_with fail;refine bodyPost_ret (results_tmp3 rfl _ _ _) rfl ?_;exact⟨by rw[C1.o];rfl,B3.o⟩
 obtain⟨g,k,rfl,hg,yO,Ua⟩:=AH bL (by omega) rfl rT;have pS:Mk.answer ss=.tuple #[.string (str (Mk.root ss false).1),.bool (Mk.root ss false).2,.int .i64 0]:=by unfold Mk.answer;rw[if_pos];unfold Mk.fit;simp only[Bool.and_eq_true,List.all_eq_true,beq_iff_eq];exact⟨by simp;omega,rT⟩
 have lD:=Mk.k6 ss rT (by omega);have C1:=η pS;have C2:=η (xx g k ss wr (HT.o.below hB (by omega)) yO Ua rT (by omega) hm);have p0:¬((ss.length:Int)=0):=by omega
 clear rT bL hB pS Ua B1 B2;generalize Mk.root ss false=R at C1 C2 lD;obtain⟨r1,r2⟩:=R;go_wp2_with fail;refine C2.o.mono ?_;rintro e w4⟨rfl,mE⟩;have MH:=mE.size;have Sx:=Row.new w4 (w8 (List.replicate 32 0)) 67;have XA:=(Below.refl w4.heap.size w4).alloc ν (.cells (w8 (List.replicate 32 0)).toArray 67);rw[Tryz.mm]at Sx XA;have hRr:=Sx.setRow (w8 r1);have PJ:=below_setRow XA ν (w8 r1).toArray;have C3:=η ((B3.o.trans (mE.mono Ig)).trans (PJ.mono (by omega)));clear mE XA PJ;go_wp2_with (first|(with_reducible refine eU (o:=⟨none,_,_,_,_,_⟩) rfl _ _ rfl w4.heap.size (List.replicate 32 0) r1 rfl lD rfl rfl Sx ?_)|(with_reducible refine ja (o:=⟨some 40,_,_,_,_,_⟩) rfl _ _ _ _ rfl w4.heap.size 0 32 32 r1 lD rfl underlying64 underlying5 underlying9 hRr.bytes ?_));refine bodyPost_ret (results_tmp3 rfl _ _ _) rfl ?_;exact⟨by rw[C1.o];rfl,C3.o⟩
def aK(ts:List (List UInt8)):List Value:=(ts.map ai).flatten
def dF ts t:aK ts++ai t=aK (ts++[t]):=by simp[aK]
def qI:(prog.info? 69).map (λi=>(i.zero,i.size,i.bytes))=some (some (.agg dc.toArray),33,48):=by kernel_rfl
def gh{w w' B S n e z v xs}(h:w.ownsRow B e z v n xs)(hb:cA w.heap.size S w w')(hS:S<B):w'.ownsRow B e z v n xs:=by refine⟨h.1,?_⟩;rcases h.2 with h|⟨g,cap,cur,rfl,h1,h2,h3⟩;exact .inl h;exact .inr ⟨g,cap,cur,rfl,h1,by rw[hb.block g (Array.getElem?_eq_some_iff.1 h2).1 (by omega)];exact h2,h3⟩
def dh{w:World}{B S n e z v xs}(h:w.ownsRow B e z v n xs) m(hS:S<B):(w.setRow S m).ownsRow B e z v n xs:=by refine⟨h.1,?_⟩;rcases h.2 with h|⟨g,cap,cur,rfl,h1,h2,h3⟩;exact .inl h;exact .inr ⟨g,cap,cur,rfl,h1,by rw[setRow_other w S g m (by omega)];exact h2,h3⟩
def bt{w:World}{B n a e z v xs}(h:w.ownsRow B e z v n xs) u(hS:a.block<B):(w.setCell a u).ownsRow B e z v n xs:=by refine⟨h.1,?_⟩;rcases h.2 with h|⟨g,cap,cur,rfl,h1,h2,h3⟩;exact .inl h;exact .inr ⟨g,cap,cur,rfl,h1,by rw[Below.heap_setCell _ _ _ _ (show g≠a.block by omega)];exact h2,h3⟩
def eP{w:World}{B C n e z v xs}(h:w.ownsRow B e z v n xs)(hC:C<=B):w.ownsRow C e z v n xs:=⟨h.1,h.2.imp id λ⟨g,cap,cur,h1,h2,h3⟩=>⟨g,cap,cur,h1,Nat.le_trans hC h2,h3⟩⟩
def dN{w:World}{B n e z v xs}(h:w.ownsRow B e z v n xs):v.oneCell'=true:=by rcases h.2 with⟨rfl,_⟩|⟨g,cap,cur,rfl,_⟩<;>rfl
namespace Wr
def R.map_map{α β γ}(x:R α) f(g:β->γ):(x.map f).map g=x.map (λa=>g (f a)):=by cases x<;>rfl
def R.map_id{α}(x:R α):x.map (λa=>a)=x:=by cases x<;>rfl
end Wr
def RPT(x:Wr.R (List (List UInt8)))(b:Nat)(w:World)(e:Ending)(w':World):Prop:=match x with
 |.ok ts r=>∃v,e=.returned v/\w'.ownsRow w.heap.size 69 33 v ts.length (aK ts)/\Row w' b [.string (str r)]/\cA w.heap.size b w w'
 |.bad n=>e=.panicked (fI (n:Int))/\cA w.heap.size b w w'
def RPT.bh{x:Wr.R (List (List UInt8))}{b w w' n}(hx:x=.bad n)(h2:cA w.heap.size b w w'):RPT x b w (.panicked (fI (n:Int))) w':=by subst hx;exact⟨rfl,h2⟩
def RPT.ko{x:Wr.R (List (List UInt8))}{b:Nat}{w w':World}{ts:List (List UInt8)}{r:List UInt8}{v:Value}(hx:x=.ok ts r)(h1:w'.ownsRow w.heap.size 69 33 v ts.length (aK ts))(h2:Row w' b [.string (str r)])(h3:cA w.heap.size b w w'):RPT x b w (.returned v) w':=by subst hx;exact⟨v,rfl,h1,h2,h3⟩
def zL(w:World)(s:ByteArray)(a0 a1 a2 a3 a4 a5 a6 a7 a8 a9 Hi Hh a12 Hg He Hd Hc Ha G9 G8 a20 a21 G7 G6 a24 G0 GZ GY a28 GX GV a31:UInt8):(Instr.buildSlice 38 1 #[(0,.agg (.string s::w8 [a0,a1,a2,a3,a4,a5,a6,a7,a8,a9,Hi,Hh,a12,Hg,He,Hd,Hc,Ha,G9,G8,a20,a21,G7,G6,a24,G0,GZ,GY,a28,GX,GV,a31]).toArray)]).run prog w=.ok (.slice (some ⟨w.heap.size,0,none⟩) 1 1) (w.alloc (.cells (.string s::w8 [a0,a1,a2,a3,a4,a5,a6,a7,a8,a9,Hi,Hh,a12,Hg,He,Hd,Hc,Ha,G9,G8,a20,a21,G7,G6,a24,G0,GZ,GY,a28,GX,GV,a31]).toArray 69)):=by kernel_rfl
def Dg(w:World)(s:ByteArray)(l:List UInt8)(hl:l.length=32):(Instr.buildSlice 38 1 #[(0,.agg (.string s::w8 l).toArray)]).run prog w=.ok (.slice (some ⟨w.heap.size,0,none⟩) 1 1) (w.alloc (.cells (.string s::w8 l).toArray 69)):=
 match l,hl with
 |[a0,a1,a2,a3,a4,a5,a6,a7,a8,a9,Hi,Hh,a12,Hg,He,Hd,Hc,Ha,G9,G8,a20,a21,G7,G6,a24,G0,GZ,GY,a28,GX,GV,a31],_=>zL w s a0 a1 a2 a3 a4 a5 a6 a7 a8 a9 Hi Hh a12 Hg He Hd Hc Ha G9 G8 a20 a21 G7 G6 a24 G0 GZ GY a28 GX GV a31
def Fy(w:World)(t:List UInt8):(Instr.buildSlice 38 1 #[(0,Fp t)]).run prog w=.ok (.slice (some ⟨w.heap.size,0,none⟩) 1 1) (w.alloc (.cells (ai t).toArray 69)):=Dg w (str t) (Mk.ak t) (aR.fO _)
def gD{ops:Array Oper}{rest:List Oper}{o:Oper}{a:Act}{w:World}{Q:Exit->Act->World->Prop}(jk:o.guard=none)(x:Operand)(ho:o.op=.buildSlice 38 1 #[(0,x)]) (t:List UInt8) (hx:a.eval x=Fp t) (h:wpList prog ops Q rest (a.put o.dst (.slice (some ⟨w.heap.size,0,none⟩) 1 1)) (w.alloc (.cells (ai t).toArray 69))):wpList prog ops Q (o::rest) a w:=by refine lx jk ?_ h;have:=Fy w t;unfold execOp;simp only[ho,List.map_toArray,List.map_cons,List.map_nil,hx,Sem.run_bind,this,Result.andThen_ok,Sem.run_pure]
def DW(b n:Nat)(l:List UInt8)(w:World)(hT:cG w)(lQ:1<b)(hr:Row w b [.string (str l)])(hl:l.length<=9223372036854775807)(hn:n<=1000):Calls prog 53 #[.pointer (some ⟨b,0,none⟩),.int .i64 n] w (RPT (Wr.bE n l) b w):=by
 obtain⟨i0,fy,nB,ku,gK⟩:=info_parts qI;have HI:=η fy;have hb:=hr.lt;have gM:=hT.lt;have HT:=η hT;have HR:=η hr;clear hT hr fy;go_enter func53,ntmps53;go_wp2_with fail;go_loopw [5,7] (λsv iv wr=>∃(i:Nat)(ts:List (List UInt8))(ri:List UInt8),i<=n/\iv=.int .i64 i/\ts.length=i/\wr.ownsRow w.heap.size 69 33 sv ts.length (aK ts)/\Row wr b [.string (str ri)]/\cA w.heap.size b w wr/\ri.length<=l.length/\Wr.bE n l=(Wr.bE (n-i) ri).map (λus=>ts++us)) (λ_ iv _=>n-(intOf iv).toNat)
 exact⟨0,[],l,by omega,rfl,rfl,World.ownsRow_nil _ _ _ _,HR.o,cA.refl _ _ _,ν,by rw[Nat.sub_zero];exact(Wr.R.map_id _).symm⟩;obtain⟨i,ts,ri,hi,rfl,TQ,bL,BJ,hB,hle,hE⟩:=hrel;have A1:=η bL;have A2:=η hB;have j0:=hB.size;by_cases aM:i<n
 ·have p1:(i:Int)< (n:Int):=by omega
  have E1:=η (show Wr.bE n l=(((Wr.tx ri).bind λt r=>(Wr.bE (n-(i+1)) r).map λus=>t::us)).map (λus=>ts++us)by rw[hE,show n-i=(n-(i+1))+1 by omega];rfl);have T1:=η (zm b ri wr (hB.sj HT.o gM lQ) lQ BJ (by omega));have hmx:ts.length<1000:=by omega
  have Gr:=η TQ;clear bL hB hE BJ TQ;go_wp2_with fail;refine T1.o.mono ?_;clear T1;cases hx:Wr.tx ri with
  |bad k=>rintro e w2⟨rfl,h⟩;rw[hx]at E1;exact⟨rfl,RPT.bh E1.o (A2.o.trans (h.mono j0))⟩
  |ok t r2=>
  rintro e w2⟨rfl,h3,h4⟩;rw[hx]at E1;have E2:=η (show Wr.bE n l=(Wr.bE (n-(i+1)) r2).map (λus=>(ts++[t])++us)by rw[E1.o,Wr.R.aQ,Wr.R.map_map];congr 1;funext us;simp);have Dv:=Nat.le_trans ((Wr.yH ri).le hx) hle;have B1:=η (gh A1.o h4 hb);have B2:=η (A2.o.trans (h4.mono j0));have R2:=η h3;have oL:=B2.o.size;have L1:=η (show∀(j:Nat)(u:Value),(ai t)[j]? =some u->(w2.alloc (.cells (ai t).toArray 69)).cell? (Addr.add ⟨w2.heap.size,0,none⟩ j)=some u from λj u hu=>by rw[Addr.add_lit,Nat.zero_add,(Row.new w2 _ _).cell];exact hu);clear h3 h4 A1 A2 E1 hx;go_wp2_with (first|(refine gD (o:=⟨some 12,_,_,_,_,_⟩) rfl _ rfl t rfl ?_)|(at_builtin;refine wpList_append_own _ rfl _ _ 38 rfl w.heap.size 69 i0 (.agg dc.toArray) 33 48 underlying38 HI.o nB ku gK (by rw[Value.cells,List.size_toArray,bq]) (by decide) _ _ _ rfl (B1.o.alloc _) ⟨w2.heap.size,0,none⟩ 1 1 (ai t) rfl (by rw[aE]) L1.o (λu hu=>List.all_eq_true.1 (aY t) u hu) (by unfold maxLen;omega) (by omega) (by rw[World.size_alloc];omega) ?_;intro TI w3 cB df _));have hbl:Below w.heap.size w2 w3:=((Below.refl w.heap.size w2).alloc oL _).grown df (by rw[World.size_alloc];omega) (λk hk=>(B1.o.lt k hk).1);have H1:=η cB;have H2:=η hbl;clear cB df hbl L1;go_roundw
  ·exact⟨i+1,ts++[t],r2,by omega,by go_num,by rw[List.length_append,Gr.o];rfl,by rw[List.length_append,<-dF];exact H1.o,R2.o.below H2.o hb,B2.o.trans (cA.aH H2.o),Dv,E2.o⟩
  simp[intOf];omega
 obtain rfl:i=n:=by omega
 go_wp2_with fail;go_ret;exact RPT.ko (r:=ri) (by rw[hE,Nat.sub_self];show Wr.R.ok (ts++[]) ri=_;rw[List.append_nil]) A1.o BJ A2.o
def oN(is:List Nat):List Value:=is.map λ(i:Nat)=>.int .i64 (i:Int)
def oS is i:oN is++[.int .i64 (i:Int)]=oN (is++[i]):=by simp[oN]
def ly:(prog.info? 3).map (λi=>(i.zero,i.size,i.bytes))=some (some (.int .i64 0),1,8):=by kernel_rfl
def RPI(x:Wr.R (List Nat))(b:Nat)(w:World)(e:Ending)(w':World):Prop:=match x with
 |.ok is r=>∃v,e=.returned v/\w'.ownsRow w.heap.size 3 1 v is.length (oN is)/\Row w' b [.string (str r)]/\cA w.heap.size b w w'
 |.bad n=>e=.panicked (fI (n:Int))/\cA w.heap.size b w w'
def RPI.bh{x:Wr.R (List Nat)}{b w w' n}(hx:x=.bad n)(h2:cA w.heap.size b w w'):RPI x b w (.panicked (fI (n:Int))) w':=by subst hx;exact⟨rfl,h2⟩
def RPI.ko{x b w w' is r v}(hx:x=.ok is r)(h1:w'.ownsRow w.heap.size 3 1 v is.length (oN is))(h2:Row w' b [.string (str r)])(h3:cA w.heap.size b w w'):RPI x b w (.returned v) w':=by subst hx;exact⟨v,rfl,h1,h2,h3⟩
end
