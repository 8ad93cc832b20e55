import Derived.Test.YtlpcjiollnnmgabGreatDoorM00
import Derived.Conc.Own
set_option maxRecDepth 100000
set_option maxHeartbeats 8000000
set_option linter.all false
def Go.World.re(w:Go.World)(τ:Nat->Go.Question->Nat)(n:Nat):Go.World:={w with tape:=τ,drawn:=n}
namespace Go.Proofs.YtlpcjiollnnmgabGreatDoor
def t0124{p:Prop}(h:p:=by split at h;split at h;cases h;cases h;exact id;cases h;exact Gf _ _ _):p:=h
def t028{p:Prop}(h:p:=by exact nu.of i (d:=0) aGW rfl rfl ν (λ_ h=>.inl h) (λ_ hx=>hx) aGP):p:=h
namespace Tp
def Agree(w:World)(τ:Nat->Question->Nat)(n k:Nat):Prop:=∀i,i<k->τ (n+i)=w.tape (w.drawn+i)
def reR{α:Type}(τ:Nat->Question->Nat)(n:Nat):Result α->Result α
 |.ok a w=>.ok a (w.re τ n)|.halt h w=>.halt h (w.re τ n)
def wR{α:Type}:Result α->World
 |.ok _ w=>w|.halt _ w=>w
def arH(c:Sys):Prop:=∀os,∃x,Kernel.perform c os=.done x
def Lb:Mark->Prop
 |.noRoom|.disable|.enable|.extern _=>True|_=>False
def aiG:Mark->Nat->Prop
 |.noRoom,_|.disable,_|.extern _,_=>True|.enable,d=>0<d|_,_=>False
def akw:Mark->Nat->Nat
 |.disable,d=>d+1|.enable,d=>d-1|_,d=>d
def yN:Halt->Prop
 |.panic _|.goexit=>True|_=>False
def aqA(h:Halt):Nat->Prop
 |0=>True|_+1=>¬yN h
def aoy(p:Prop):Nat->Prop
 |0=>p|_+1=>False
def iF(P:Program){α:Type}(Φ:α->Prop):Sem α->Nat->Prop
 |.pure a,d=>aoy (Φ a) d|.load _ _ k,d=>∀v,iF P Φ (k v) d|.store _ _ _ k,d=>iF P Φ k d|.new _ k,d=>∀r,iF P Φ (k r) d|.shape _ k,d=>∀s,iF P Φ (k s) d|.freeze _ _ k,d=>iF P Φ k d|.frozen _ k,d=>∀b,iF P Φ (k b) d|.getObj _ k,d=>∀o,iF P Φ (k o) d|.setObj _ _ k,d=>iF P Φ k d|.choose _ k,d=>∀n,iF P Φ (k n) d|.sys c k,d=>(∀r,iF P Φ (k r) d)/\(arH c∨∃u,k .wouldBlock=.halt (.unsupported (.noEntry u)))|.program k,d=>iF P Φ (k P) d|.mark m k,d=>aiG m d/\iF P Φ k (akw m d)|.halt h,d=>aqA h d
abbrev Plain(P:Program){α:Type}(Φ:α->Prop)(s:Sem α):Prop:=iF P Φ s 0
def ab3{m d}(h:aiG m d):Lb m:=by cases m<;>first|exact trivial|exact h
theorem iF.bind{P α β Φ}{Ψ:β->Prop}{f}(hf:∀a,Φ a->Plain P Ψ (f a)):∀ {s:Sem α}{d:Nat},iF P Φ s d->iF P Ψ (s.bind f) d
 |.pure a,0,h=>hf a h|.pure _,_+1,h=>h.elim|.load _ _ _,_,h=>λv=>iF.bind hf (h v)|.store _ _ _ k,_,h=>iF.bind (s:=k) hf h|.new _ _,_,h=>λv=>iF.bind hf (h v)|.shape _ _,_,h=>λv=>iF.bind hf (h v)|.freeze _ _ k,_,h=>iF.bind (s:=k) hf h|.frozen _ _,_,h=>λv=>iF.bind hf (h v)|.getObj _ _,_,h=>λv=>iF.bind hf (h v)|.setObj _ _ k,_,h=>iF.bind (s:=k) hf h|.choose _ _,_,h=>λv=>iF.bind hf (h v)|.sys _ _,_,h=>⟨λr=>iF.bind hf (h.1 r),h.2.imp id λ⟨u,hu⟩=>⟨u,by show(Sem.bind _ _)=_;rw[hu];rfl⟩⟩|.program k,_,h=>iF.bind (s:=k P) hf h|.mark _ k,_,h=>⟨h.1,iF.bind (s:=k) hf h.2⟩|.halt _,_,h=>h
theorem Plain.bind{P α β Φ Ψ}{f:α->Sem β}(hf:∀a,Φ a->Plain P Ψ (f a)){s}(h:Plain P Φ s):Plain P Ψ (s.bind f):=iF.bind hf h
section
variable{τ:Nat->Question->Nat}{n:Nat}{w:World}
def tX a:(w.re τ n).cell? a=w.cell? a:=rfl
def Jq a:(w.re τ n).frozen? a=w.frozen? a:=rfl
def sL r:(w.re τ n).shape? r=w.shape? r:=rfl
def Rq a v:(w.re τ n).setCell a v=(w.setCell a v).re τ n:=rfl
def Yv a k:(w.re τ n).freeze a k=(w.freeze a k).re τ n:=by unfold World.freeze;split<;>rfl
def Fi P a b:(w.re τ n).farLoad P a b=w.farLoad P a b:=rfl
def reE{ε:Type}(τ:Nat->Question->Nat)(n:Nat):Except ε (World×List Addr)->Except ε (World×List Addr)
 |.ok (w,l)=>.ok (w.re τ n,l)|.error h=>.error h
def KM P at_ u k v b:(w.re τ n).viewStore P at_ u k v b=reE τ n (w.viewStore P at_ u k v b):=by
 unfold World.viewStore;simp only[show(w.re τ n).seen P at_ u k b=w.seen P at_ u k b from rfl];cases ht:tight P P.depth u with
 |false=>rfl|true=>
 cases w.seen P at_ u k b with
 |error e=>cases v.bytes?<;>rfl
 |ok x=>obtain⟨c,e,fz,first,aoG,cells⟩:=x;cases v.bytes? with|none=>rfl|some bs=>simp only[bind,Except.bind,aQ,Bool.false_eq_true,if_false];split;rfl;generalize List.foldlM (m:=Except String) _ c cells=y;cases y<;>rfl
def Cx P a v b:(w.re τ n).farStore P a v b=reE τ n (w.farStore P a v b):=by
 unfold World.farStore;simp only[KM,show(w.re τ n).heap=w.heap from rfl];cases w.heap[a.block]? with
 |none=>rfl|some o=>
 cases o<;>try rfl
 rename_i at_ u;dsimp only;cases w.viewStore P at_ u a v b with|error e=>rfl|ok x=>rfl
end
def uD(B:Nat)(e:Event):Prop:=match e.loc with
 |.cell a=>a.block<B
 |.obj r=>r<B
 |.mark m=>Lb m/\e.sync=true
 |.output=>True
 |_=>False
def uD.mono{B B' e}(h:uD B e)(hb:B<=B'):uD B' e:=by unfold uD at *;split at h<;>first|omega|exact h
def MZ{w:World}{P at_ u k b x}(h:w.seen P at_ u k b=.ok x):at_.block<w.heap.size:=by
 unfold World.seen at h;simp only[bind,Except.bind]at h;cases hh:w.heap[at_.block]? with
 |some o=>exact(ae.1 hh).1|none=>
 rw[hh]at h;exfalso;revert h;repeat' split
 all_goals (intro h;first|contradiction|cases h)
def Pt{w:World}{P a b v l}(h:w.farLoad P a b=.ok (v,l)):∀x∈l,x.block<w.heap.size:=by
 unfold World.farLoad at h;split at h;rename_i at_ u _;split at h;rename_i r hr;obtain rfl:r=(v,l):=Except.ok.inj h;unfold World.viewLoad at hr;simp only[bind,Except.bind]at hr;cases hs:w.seen P at_ u a b with
 |error e=>rw[hs]at hr;cases hr
 |ok x=>have:=MZ hs;rw[hs]at hr;obtain⟨c,e,fz,first,aoG,cells⟩:=x;dsimp only at hr;split at hr;cases hr;intro x hx;obtain⟨y,_,rfl⟩:=List.mem_map.1 hx;exact this;cases hr
 cases h;cases h
def Ly{w w':World}{P a b v l}(h:w.farStore P a v b=.ok (w',l)):(∀x∈l,x.block<w.heap.size)/\w'.heap.size=w.heap.size/\w'.tape=w.tape/\w'.drawn=w.drawn:=by
 unfold World.farStore at h;split at h;rename_i at_ u _;split at h;rename_i r hr;obtain rfl:r=(w',l):=Except.ok.inj h;unfold World.viewStore at hr;cases ht:tight P P.depth u with
 |false=>rw[ht]at hr;cases hr
 |true=>
  rw[ht]at hr;cases hs:w.seen P at_ u a b with
  |error e=>rw[hs]at hr;cases v.bytes?<;>cases hr
  |ok x=>
  have:=MZ hs;rw[hs]at hr;obtain⟨c,e,fz,first,aoG,cells⟩:=x;cases hb:v.bytes? with
  |none=>rw[hb]at hr;cases hr
  |some bs=>
  rw[hb]at hr;simp only[bind,Except.bind,aQ,Bool.false_eq_true,if_false]at hr;split at hr;cases hr;revert hr;generalize List.foldlM (m:=Except String) _ c cells=y;intro hr;cases y with
  |error e=>cases hr
  |ok c2=>cases hr;refine⟨λx hx=>?_,by simp,rfl,rfl⟩;obtain⟨y,_,rfl⟩:=List.mem_map.1 hx;exact this
 cases h;cases h
def aie{α:Type}:Result α->Prop
 |.ok _ _=>True|.halt h _=>yN h
def nW x es l:deafBehind x (es++l)=deafBehind (deafBehind x es) l:=by simp only[deafBehind,Array.foldl_append]
def deaf_push x es e:deafBehind x (es.push e)=deafBehind (deafBehind x es) #[e]:=by rw[Array.push_eq_append,nW]
def Af x e(h1:e.loc≠.mark .disable)(h2:e.loc≠.mark .enable):deafBehind x #[e]=x:=by
 obtain⟨loc,wr,sy⟩:=e;cases loc with
 |mark m=>cases m<;>simp_all[deafBehind]
 |_=>simp[deafBehind]
def TN{l}(h:∀e∈l,e.loc≠.mark .disable/\e.loc≠.mark .enable) x:deafBehind x l=x:=by obtain⟨l⟩:=l;induction l with|nil=>rfl|cons e l ih=>have:(⟨e::l⟩:Array Event)=#[e]++⟨l⟩:=ζ;rw[this,nW,Af _ _ (h e ζ).1 (h e ζ).2];exact ih λy hy=>h y (by simp at hy|-;exact .inr hy)
def kX x es e(h1:e.loc≠.mark .disable)(h2:e.loc≠.mark .enable):deafBehind x (es.push e)=deafBehind x es:=by rw[deaf_push,Af _ _ h1 h2]
def vV x es(l:List Addr) b c:deafBehind x (es++l.toArray.map (⟨.cell ·,b,c⟩))=deafBehind x es:=by rw[nW,TN];intro e he;obtain⟨a,_,rfl⟩:=Array.mem_map.1 he;exact⟨by simp,by simp⟩
structure Kg(P:Program){α:Type}(Φ:α->Prop)(s:Sem α)(w:World)(es:Array Event)(k d0:Nat):Prop where
 drawn:(wR (s.runT P w es).1).drawn=w.drawn+k
 tape:(wR (s.runT P w es).1).tape=w.tape
 size:w.heap.size<=(wR (s.runT P w es).1).heap.size
 post:∀a w',(s.runT P w es).1=.ok a w'->Φ a
 low:∀e∈(s.runT P w es).2,e∈es∨uD (wR (s.runT P w es).1).heap.size e
 bal:aie (s.runT P w es).1->∀x,deafBehind x es=x+d0->deafBehind x (s.runT P w es).2=x
 same:∀τ n,Agree w τ n k->s.runT P (w.re τ n) es=(reR τ (n+k) (s.runT P w es).1,(s.runT P w es).2)
def Agree.mono{w τ n k l}(h:Agree w τ n k)(hl:l<=k):Agree w τ n l:=λi hi=>h i ω
def Kg.of{P:Program}{α:Type}{Φ:α->Prop}{s s':Sem α}{w w1:World}{es DU:Array Event}{d k d0 d1:Nat}(h:Kg P Φ s' w1 DU k d1)(e:s.runT P w es=s'.runT P w1 DU) (hd:w1.drawn=w.drawn+d) (ht:w1.tape=w.tape) (hz:w.heap.size<=w1.heap.size) (IL:∀x∈DU,x∈es∨uD w1.heap.size x) (hb:∀x,deafBehind x es=x+d0->deafBehind x DU=x+d1) (hs:∀τ n,Agree w τ n (d+k)->s.runT P (w.re τ n) es=s'.runT P (w1.re τ (n+d)) DU):Kg P Φ s w es (d+k) d0 where
 drawn:=by rw[e,h.drawn,hd];omega
 tape:=by rw[e,h.tape,ht]
 size:=by rw[e];exact ak hz h.size
 post:=by rw[e];exact h.post
 low:=by rw[e];intro x hx;rcases h.low x hx with h1|h1;exact(IL x h1).imp id (·.mono h.size);exact .inr h1
 bal:=by rw[e];exact λhc x hx=>h.bal hc x (hb x hx)
 same:=λτ n ha=>by rw[hs τ n ha,e,h.same τ (n+d) (λi hi=>by rw[hd,ht,aZ,aZ];exact ha (d+i) ω),aZ]
def Kg.stop{P:Program}{α:Type}{Φ:α->Prop}{s:Sem α}{w:World}{es:Array Event}{d0:Nat}{x:Halt}(e:s.runT P w es=(.halt x w,es))(hx:¬yN x)(hs:∀τ n,s.runT P (w.re τ n) es=(.halt x (w.re τ n),es)):Kg P Φ s w es 0 d0 where
 drawn:=by rw[e];rfl
 tape:=by rw[e];rfl
 size:=by rw[e];exact ν
 post:=by rw[e];intro a w' h;cases h
 low:=by rw[e];exact λx hx=>.inl hx
 bal:=by rw[e];exact λhc=>absurd hc hx
 same:=λτ n _=>by rw[e,hs];rfl
def Gf(w:World) a s:¬yN (w.noCell a s):=by unfold World.noCell;split<;>exact id
def Ps{P}{w:World}{a b x}(h:w.farLoad P a b=.error x):¬yN x:=by unfold World.farLoad at h;exact t0124
def Lx{P}{w:World}{a v b x}(h:w.farStore P a v b=.error x):¬yN x:=by unfold World.farStore at h;exact t0124
def ui{es:Array Event}{B x}(hx:uD B x):∀e∈es.push x,e∈es∨uD B e:=λe he=>(dh.1 he).imp id (λh=>by rw[h];exact hx)
def abQ{es B}{l:List Addr}{f}(hx:∀a∈l,uD B (f a)):∀e∈es++l.toArray.map f,e∈es∨uD B e:=λe he=>(dM.1 he).imp id (λh=>by obtain⟨a,ha,rfl⟩:=Array.mem_map.1 h;exact hx a (by simpa using ha))
def Wi{w:World}{a v}(h:w.cell? a=some v):a.block<w.heap.size:=by unfold World.cell? at h;split at h;rename_i hh;exact(ae.1 hh).1;cases h
def Uf{α} w:∀(a:Ask α),∃d,(w.ask a).2={w with drawn:=w.drawn+d}/\∀τ n,Agree w τ n d->(w.re τ n).ask a=((w.ask a).1,(w.ask a).2.re τ (n+d))
 |.done a=>⟨0,rfl,λτ n _=>rfl⟩|.ask XK range k=>by by_cases hq:(Question.extern XK range).forced=true;obtain⟨d,h1,h2⟩:=Uf w (k 0);refine⟨d,?_,λτ n ha=>?_⟩;rw[World.ask];simp only[hq,if_true];exact h1;rw[World.ask,World.ask];simp only[hq,if_true];exact h2 τ n ha;obtain⟨d,h1,h2⟩:=Uf {w with drawn:=w.drawn+1} (k ((Question.extern XK range).cut (w.tape w.drawn (Question.extern XK range))));refine⟨d+1,?_,λτ n ha=>?_⟩;rw[World.ask];simp only[hq,Bool.false_eq_true,if_false];rw[h1];simp;omega;rw[World.ask,World.ask];simp only[hq,Bool.false_eq_true,if_false];have e:τ n=w.tape w.drawn:=ha 0 ω;have:=h2 τ (n+1) (λi hi=>by have:=ha (i+1) ω;rw[show n+1+i=n+(i+1)from by omega,this];show w.tape _=w.tape _;congr 1;show w.drawn+(i+1)=w.drawn+1+i;omega);show World.ask {w with tape:=τ,drawn:=n+1} (k ((Question.extern XK range).cut (τ n (Question.extern XK range))))=_;rw[e,show n+(d+1)=n+1+d from by omega];exact this
def nH(w:World):(SysRet×Os)×World->SysRet×World
 |((.wouldBlock,_),_)=>(.wouldBlock,w)|((r,os),w')=>(r,{w' with os})
def AM w c:w.sys c=nH w (w.ask (Kernel.perform c w.os)):=by unfold World.sys nH;rfl
def nu(P:Program){α:Type}(Φ:α->Prop)(s:Sem α)(w:World)(es:Array Event)(d0:Nat):Prop:=(∃k,Kg P Φ s w es k d0)∨∃u w' nM,s.runT P w es=(.halt (.unsupported (.noEntry u)) w',nM)
theorem nu.of{P α Φ}{s s':Sem α}{w w1 es DU d d0 d1}(h:nu P Φ s' w1 DU d1)(e:s.runT P w es=s'.runT P w1 DU) (hd:w1.drawn=w.drawn+d) (ht:w1.tape=w.tape) (hz:w.heap.size<=w1.heap.size) (IL:∀x∈DU,x∈es∨uD w1.heap.size x) (hb:∀x,deafBehind x es=x+d0->deafBehind x DU=x+d1) (hs:∀k τ n,Agree w τ n (d+k)->s.runT P (w.re τ n) es=s'.runT P (w1.re τ (n+d)) DU):nu P Φ s w es d0:=by rcases h with⟨k,i⟩|⟨u,w',nM,h⟩;exact .inl ⟨_,i.of (d:=d) e hd ht hz IL hb (hs k)⟩;exact .inr ⟨u,w',nM,e.trans h⟩
theorem iF.run{P α Φ}:∀ {s:Sem α}{d0:Nat},iF P Φ s d0->∀w es,nu P Φ s w es d0
 |.pure a,0,h,w,es=>.inl ⟨0,rfl,rfl,ν,(λb w' hb=>by cases hb;exact h),λe he=>.inl he,λ_ x hx=>hx,λτ n _=>rfl⟩|.pure a,_+1,h,w,es=>h.elim|.halt h,0,_,w,es=>.inl ⟨0,rfl,rfl,ν,(λb w' hb=>by cases hb),λe he=>.inl he,λ_ x hx=>hx,λτ n _=>rfl⟩|.halt h,_+1,hh,w,es=>.inl ⟨0,rfl,rfl,ν,(λb w' hb=>by cases hb),λe he=>.inl he,λhc=>absurd hc hh,λτ n _=>rfl⟩|.load m a k,d0,h,w,es=>by cases hc:w.cell? a with|some v=>have i:=iF.run (h v) w (es.push ⟨.cell a,false,m==.atomic⟩);exact nu.of i (d:=0) (by rw[Sem.runT];simp only[hc]) rfl rfl ν (ui (Wi hc)) (λx hx=>by rw[kX _ _ _ ζ ζ];exact hx) (λ_ τ n _=>by rw[Sem.runT];simp only[tX,hc];rfl)|none=>cases hf:w.farLoad P a (m==.atomic)with|error x=>exact .inl ⟨0,.stop (x:=x) (by rw[Sem.runT];simp only[hc,hf]) (Ps hf) (λτ n=>by rw[Sem.runT];simp only[tX,hc,Fi,hf])⟩|ok x=>obtain⟨v,l⟩:=x;have i:=iF.run (h v) w (es++l.toArray.map (⟨.cell ·,false,m==.atomic⟩));exact nu.of i (d:=0) (by rw[Sem.runT];simp only[hc,hf]) rfl rfl ν (abQ λa ha=>Pt hf a ha) (λx hx=>by rw[vV];exact hx) (λ_ τ n _=>by rw[Sem.runT];simp only[tX,hc,Fi,hf];rfl)
 |.store m a v k,d0,h,w,es=>by
  have hs:(∃x,¬yN x/\∀(p:Program)(u:World),(Sem.store m a v k).runT p u es=(.halt x u,es))∨∀(p:Program)(u:World),(Sem.store m a v k).runT p u es=match u.cell? a with
   |some _=>if u.frozen? a then(.halt (.unsupported (.unsafePointer "a write to bytes that a string shares")) u,es)else k.runT p (u.setCell a v) (es.push ⟨.cell a,true,m==.atomic⟩)
   |none=>match u.farStore p a v (m==.atomic)with
    |.ok (w,Kp)=>k.runT p w (es++Kp.toArray.map (⟨.cell ·,true,m==.atomic⟩))
    |.error h=>(.halt h u,es):=by
   cases v<;>first|exact .inr (λ_ _=>rfl)|exact .inl ⟨.stuck "store: not the value of one cell",id,λ_ _=>rfl⟩
  rcases hs with⟨x,hx0,hx⟩|hs;exact .inl ⟨0,.stop (x:=x) (hx _ _) hx0 (λτ n=>hx _ _)⟩;cases hc:w.cell? a with
  |some v'=>
  by_cases hf:w.frozen? a=true;exact .inl ⟨0,.stop (x:=.unsupported (.unsafePointer "a write to bytes that a string shares")) (by rw[hs];simp only[hc,hf,if_true]) id (λτ n=>by rw[hs];simp only[tX,Jq,hc,hf,if_true])⟩;have hz:(w.setCell a v).heap.size=w.heap.size:=by simp[World.setCell]
  have i:=iF.run (s:=k) h (w.setCell a v) (es.push ⟨.cell a,true,m==.atomic⟩);exact nu.of i (d:=0) (by rw[hs];simp only[hc,hf,Bool.false_eq_true,if_false]) rfl rfl (eK hz.symm) (by rw[hz];exact ui (Wi hc)) (λx hx=>by rw[kX _ _ _ ζ ζ];exact hx) (λ_ τ n _=>by rw[hs];simp only[tX,Jq,hc,hf,Bool.false_eq_true,if_false,Rq];rfl)|none=>cases hf:w.farStore P a v (m==.atomic)with|error x=>exact .inl ⟨0,.stop (x:=x) (by rw[hs];simp only[hc,hf]) (Lx hf) (λτ n=>by rw[hs];simp only[tX,hc,Cx,hf,reE])⟩|ok x=>obtain⟨w1,l⟩:=x;obtain⟨z1,z2,z3,z4⟩:=Ly hf;have i:=iF.run (s:=k) h w1 (es++l.toArray.map (⟨.cell ·,true,m==.atomic⟩));exact nu.of i (d:=0) (by rw[hs];simp only[hc,hf]) z4 z3 (eK z2.symm) (by rw[z2];exact abQ λa ha=>z1 a ha) (λx hx=>by rw[vV];exact hx) (λ_ τ n _=>by rw[hs];simp only[tX,hc,Cx,hf,reE];rfl)
 |.new o k,d0,h,w,es=>by have i:=iF.run (h w.heap.size) {w with heap:=w.heap.push o} es;exact nu.of i (d:=0) aGW rfl rfl ζ (λ_ h=>.inl h) (λ_ hx=>hx) aGP
 |.shape r k,d0,h,w,es=>by have i:=iF.run (h (w.shape? r)) w es;exact t028|.freeze a n k,d0,h,w,es=>by
  have i:=iF.run (s:=k) h (w.freeze a n) es;have hz:(w.freeze a n).drawn=w.drawn/\(w.freeze a n).tape=w.tape/\(w.freeze a n).heap.size=w.heap.size:=by unfold World.freeze;split<;>simp
  exact nu.of i (d:=0) aGW hz.1 hz.2.1 (eK hz.2.2.symm) (λ_ h=>.inl h) (λ_ hx=>hx) (λ_ τ n _=>by rw[Sem.runT,Yv];rfl)|.frozen a k,d0,h,w,es=>by have i:=iF.run (h (w.frozen? a)) w es;exact t028|.getObj r k,d0,h,w,es=>by cases hh:w.heap[r]? with|none=>exact .inl ⟨0,.stop (x:=.stuck "getObj: no such block") aGb id aFN⟩|some o=>have hr:uD w.heap.size ⟨.obj r,false,o.isChan⟩:=(ae.1 hh).1;have i:=iF.run (h o) w (es.push ⟨.obj r,false,o.isChan⟩);cases o with|cells _ _ _=>exact .inl ⟨0,.stop (x:=.stuck "getObj: a row of cells") aGb id aFN⟩|_=>exact nu.of i (d:=0) aGb rfl rfl ν (ui hr) (λx hx=>by rw[kX _ _ _ ζ ζ];exact hx) aF5
 |.setObj r o k,d0,h,w,es=>by cases hh:w.heap[r]? with|none=>exact .inl ⟨0,.stop (x:=.stuck "setObj: no such block") aGb id aFN⟩|some o'=>have hr:uD w.heap.size ⟨.obj r,true,o.isChan⟩:=(ae.1 hh).1;have i:=iF.run (s:=k) h {w with heap:=w.heap.setIfInBounds r o} (es.push ⟨.obj r,true,o.isChan⟩);have hz:({w with heap:=w.heap.setIfInBounds r o}:World).heap.size=w.heap.size:=ζ;cases o' with|cells _ _ _=>exact .inl ⟨0,.stop (x:=.stuck "setObj: a row of cells") aGb id aFN⟩|_=>exact nu.of i (d:=0) aGb rfl rfl (eK hz.symm) (by rw[hz];exact ui hr) (λx hx=>by rw[kX _ _ _ ζ ζ];exact hx) aF5
 |.choose q k,d0,h,w,es=>by by_cases hq:q.forced=true;have i:=iF.run (h 0) w es;exact nu.of i (d:=0) (by rw[Sem.runT,if_pos hq]) rfl rfl ν (λ_ h=>.inl h) (λ_ hx=>hx) (λ_ τ n _=>by rw[Sem.runT,if_pos hq];rfl);have i:=iF.run (h (q.cut (w.tape w.drawn q))) {w with drawn:=w.drawn+1} es;refine nu.of i (d:=1) (by rw[Sem.runT,if_neg hq]) rfl rfl ν (λ_ h=>.inl h) (λ_ hx=>hx) (λ_ τ n ha=>?_);rw[Sem.runT,if_neg hq];have:τ n=w.tape w.drawn:=ha 0 ω;show(k (q.cut (τ n q))).runT P _ es=_;rw[this];rfl
 |.mark m k,d0,h,w,es=>by obtain⟨h1,h2⟩:=h;have i:=iF.run (s:=k) h2 w (es.push ⟨.mark m,false,true⟩);exact nu.of i (d:=0) aGW rfl rfl ν (ui (show uD w.heap.size ⟨.mark m,false,true⟩from⟨ab3 h1,rfl⟩)) (λx hx=>by rw[deaf_push,hx];cases m<;>first|exact h1.elim|rfl|(show x+d0-1=x+(d0-1);have:0<d0:=h1;omega)) aGP
 |.sys c k,d0,h,w,es=>by
  obtain⟨h1,h2⟩:=h;rcases h2 with h2|⟨u,h2⟩;obtain⟨⟨r,os'⟩,hx⟩:=h2 w.os;have hw:w.sys c=nH w ((r,os'),w):=by rw[AM,hx];rfl
  have SZ:∀τ n,(w.re τ n).sys c=nH (w.re τ n) ((r,os'),w.re τ n):=λτ n=>by rw[AM,show(w.re τ n).os=w.os from rfl,hx];rfl
  have i:=iF.run (h1 (w.sys c).1) (w.sys c).2 (es.push ⟨.output,true,false⟩);rw[hw]at i;have a1:∀u:World,(nH u ((r,os'),u)).1=r/\(nH u ((r,os'),u)).2.drawn=u.drawn/\(nH u ((r,os'),u)).2.tape=u.tape/\(nH u ((r,os'),u)).2.heap=u.heap/\∀τ n,(nH (u.re τ n) ((r,os'),u.re τ n))=(r,(nH u ((r,os'),u)).2.re τ n):=λu=>by cases r<;>exact⟨rfl,rfl,rfl,rfl,λ_ _=>rfl⟩
  obtain⟨b1,b2,b3,b4,b5⟩:=a1 w;exact nu.of i (d:=0) (by rw[Sem.runT,hw]) b2 b3 (by rw[b4];exact ν) (by rw[b4];exact ui (show uD w.heap.size ⟨.output,true,false⟩from trivial)) (λx hx=>by rw[kX _ _ _ ζ ζ];exact hx) (λ_ τ n _=>by rw[Sem.runT,SZ,b5,b1];rfl);by_cases hb:(w.sys c).1=.wouldBlock;exact .inr ⟨u,(w.sys c).2,_,by rw[Sem.runT,hb,h2,Sem.runT]⟩;obtain⟨d,Tk,VS⟩:=Uf w (Kernel.perform c w.os);rw[AM]at hb;have i:=iF.run (h1 (w.sys c).1) (w.sys c).2 (es.push ⟨.output,true,false⟩);rw[AM]at i;have e1:(Sem.sys c k).runT P w es=(k (nH w (w.ask (Kernel.perform c w.os))).1).runT P (nH w (w.ask (Kernel.perform c w.os))).2 (es.push ⟨.output,true,false⟩):=by rw[Sem.runT,AM]
  have e2:∀τ n,Agree w τ n d->(Sem.sys c k).runT P (w.re τ n) es=(k (nH (w.re τ n) ((w.ask (Kernel.perform c w.os)).1,(w.ask (Kernel.perform c w.os)).2.re τ (n+d))).1).runT P (nH (w.re τ n) ((w.ask (Kernel.perform c w.os)).1,(w.ask (Kernel.perform c w.os)).2.re τ (n+d))).2 (es.push ⟨.output,true,false⟩):=λτ n ha=>by rw[Sem.runT,AM,show(w.re τ n).os=w.os from rfl,VS τ n ha]
  generalize w.ask (Kernel.perform c w.os)=x at Tk hb i e1 e2;obtain⟨⟨r,os'⟩,w'⟩:=x;dsimp only at Tk e2;subst Tk;have a1:r≠.wouldBlock->∀(u u':World),nH u ((r,os'),u')=(r,{u' with os:=os'}):=by cases r<;>first|(intro h;exact absurd rfl h)|(intro _ _ _;rfl)
  have hr:r≠.wouldBlock:=λe=>hb (by subst e;rfl);rw[a1 hr]at i e1;refine nu.of i (d:=d) e1 rfl rfl ν (ui (show uD w.heap.size ⟨.output,true,false⟩from trivial)) (λx hx=>by rw[kX _ _ _ ζ ζ];exact hx) (λk' τ n ha=>?_);rw[e2 τ n (ha.mono ω),a1 hr];rfl
 |.program k,d0,h,w,es=>by have i:=iF.run (s:=k P) h w es;exact t028
theorem Plain.run{P α Φ}{s:Sem α}(h:Plain P Φ s) w es:nu P Φ s w es 0:=iF.run h w es
end Tp
def t088{p:Prop}(h:p:=by rcases args with⟨_|⟨a,_|⟨b,l⟩⟩⟩;exact trivial;cases a<;>exact trivial;exact trivial):p:=h
namespace Tp
section
variable{P:Program}{α β:Type}
abbrev Pl(P:Program){α:Type}(s:Sem α):Prop:=Plain P (λ_=>True) s
def ia{x}{f:α->Sem β}(hx:Pl P x)(hf:∀a,Pl P (f a)):Pl P (x >>= f):=Plain.bind (λa _=>hf a) hx
def wK a m:Pl P (load a m):=λ_=>trivial
def abF a v m:Pl P (store a v m):=trivial
def Be o:Pl P (newObj o):=λ_=>trivial
def Fz r:Pl P (shape r):=λ_=>trivial
def Bh a n:Pl P (freeze a n):=trivial
def YD a:Pl P (frozen a):=λ_=>trivial
def Jv r:Pl P (getObj r):=λ_=>trivial
def Jt r o:Pl P (setObj r o):=trivial
def sQ q:Pl P (choose q):=λ_=>trivial
def Bd:Pl P (mark .noRoom):=⟨trivial,trivial⟩
def FN n:Pl P (askRoom n):=by unfold askRoom;split<;>first|exact Bd|exact trivial
def ua n b:Pl P (writeFd n b):=⟨λr=>by cases r<;>exact trivial,.inr ⟨_,rfl⟩⟩
def ud{f:Program->Sem α}(hf:Pl P (f P)):Pl P (program >>= f):=hf
theorem zr{σ} f(hf:∀a s,Pl P (f a s)):∀(l:List α)(s:σ),Pl P (forIn l s f)
 |[],s=>by rw[List.forIn_nil];exact trivial|a::l,s=>by rw[eU];refine ia (hf a s) λr=>?_;cases r with|done b=>exact trivial|yield b=>exact zr f hf l b
def Jw{σ} f(hf:∀a s,Pl P (f a s))(l:Array α)(s:σ):Pl P (forIn l s f):=by rw[<-Array.forIn_toList];exact zr f hf _ _
theorem KV(f:α->Sem β)(hf:∀a,Pl P (f a)):∀l:List α,Pl P (l.mapM f)
 |[]=>by rw[eC];exact trivial|a::l=>by rw[dE];exact ia (hf a) λ_=>ia (KV f hf l) λ_=>trivial
def FK(f:α->Sem β)(hf:∀a,Pl P (f a))(l:Array α):Pl P (l.mapM f):=by rw[dq];refine ia (KV f hf _) λ_=>trivial
theorem Jz f(hf:∀b a,Pl P (f b a)):∀(l:List α)(b:β),Pl P (l.foldlM f b)
 |[],_=>by rw[List.foldlM_nil];exact trivial|a::l,b=>by rw[List.foldlM_cons];exact ia (hf b a) λ_=>Jz f hf l _
def YE{σ}(f:Nat->σ->Sem (ForInStep σ))(hf:∀a s,Pl P (f a s)) n s:Pl P (forIn [0:n] s f):=by rw[Std.Legacy.Range.forIn_eq_forIn_range'];exact zr f hf _ _
def lY{c}[Decidable c]{a b:Sem α}(h1:Pl P a)(h2:Pl P b):Pl P (if c then a else b):=by split<;>assumption
theorem FL{σ}:∀(l:List α)(f:(a:α)->a∈l->σ->Sem (ForInStep σ))(_:∀a h s,Pl P (f a h s))(s),Pl P (forIn' l s f)
 |[],f,hf,s=>by rw[List.forIn'_nil];exact trivial|a::l,f,hf,s=>by rw[List.forIn'_cons];refine ia (hf _ _ _) λr=>?_;cases r with|done b=>exact trivial|yield b=>exact FL l _ (λ_ _ _=>hf _ _ _) b
def RL{σ} n(f:(a:Nat)->a∈[:n]->σ->Sem (ForInStep σ))(hf:∀a h s,Pl P (f a h s)) s:Pl P (forIn' [:n] s f):=by rw[Std.Legacy.Range.forIn'_eq_forIn'_range'];exact FL _ _ (λ_ _ _=>hf _ _ _) s
def jD{p:Prop}(h:p:=by repeat' (first|exact trivial|assumption|with_reducible exact ih _ _ _|with_reducible exact ih _ _|with_reducible apply d1|with_reducible apply d2|with_reducible apply d3|with_reducible apply d4|with_reducible apply d5|with_reducible apply d6|with_reducible apply d7|with_reducible apply d8|with_reducible apply d9|with_reducible apply d10|with_reducible apply d11|with_reducible apply d12|with_reducible apply d13|with_reducible apply d14|with_reducible apply d15|with_reducible apply d16|with_reducible apply d17|with_reducible exact wK _ _|with_reducible exact abF _ _ _|with_reducible exact Be _|with_reducible exact Fz _|with_reducible exact Bh _ _|with_reducible exact YD _|with_reducible exact Jv _|with_reducible exact Jt _ _|with_reducible exact sQ _|with_reducible exact ua _ _|with_reducible exact Bd|with_reducible exact FN _|refine ia ?_ (λ_=>?_)|with_reducible apply lY|with_reducible apply Jw|with_reducible apply zr|with_reducible apply YE|with_reducible apply KV|with_reducible apply FK|with_reducible apply Jz|with_reducible apply ud|split|intro _|dsimp only)):p:=h
def sP r:Pl P (Go.viewAt r):=by unfold Go.viewAt;exact jD
def CH r:Pl P (Go.numberAt r):=by unfold Go.numberAt;exact jD
def RO r:Pl P (Go.cellsIn r):=by unfold Go.cellsIn;exact jD
def CK a lost:Pl P (Go.asNumber a lost):=by unfold Go.asNumber;exact jD
def pQ n:Pl P (Go.behindNumber n):=by unfold Go.behindNumber;have d1:=@CH P;exact jD
def Ju a:Pl P (Go.noView a):=by unfold Go.noView;have d1:=@sP P;exact jD
def oU a:Pl P (Go.markStringish a):=by unfold Go.markStringish;exact jD
def KU a:Pl P (Go.stringish a):=by unfold Go.stringish;exact jD
def NM a b:Pl P (Go.mayBeOne a b):=by unfold Go.mayBeOne;have d1:=@KU P;exact jD
def CC a b:Pl P (Go.sameAddr a b):=by unfold Go.sameAddr;have d1:=@Ju P;have d2:=@NM P;exact jD
def FC:∀a0 a1,Pl P (Go.samePointer a0 a1):=by intro a0 a1;unfold Go.samePointer;have d1:=@CC P;exact jD
def iN t:Pl P (Go.typeInfo t):=by unfold Go.typeInfo;exact jD
def gO t:Pl P (Go.underlying t):=by unfold Go.underlying;exact jD
def ub t:Pl P (Go.typeStr t):=by unfold Go.typeStr;have d1:=@iN P;exact jD
def j7 t:Pl P (Go.zeroValue t):=by unfold Go.zeroValue;have d1:=@iN P;exact jD
def jH t:Pl P (Go.sizeOf t):=by unfold Go.sizeOf;have d1:=@iN P;exact jD
def NN t:Pl P (Go.isAgg t):=by unfold Go.isAgg;have d1:=@gO P;exact jD
def Bg a i:∀a0 a1,Pl P (Go.loadCellsFrom a i a0 a1):=by intro a0;induction a0 generalizing i with|zero=>intro a1;exact trivial|succ n ih=>intro a1;exact λ_=>ih _ _
def qg a n:Pl P (Go.loadCells a n):=by unfold Go.loadCells;have d1:=@Bg P;exact jD
def pj a vs i:Pl P (Go.storeCells a vs i):=by induction vs generalizing i with|nil=>exact trivial|cons v r ih=>exact ih (i+1)
def qR t a:Pl P (Go.loadVar t a):=by unfold Go.loadVar;have d1:=@jH P;have d2:=@NN P;have d3:=@qg P;exact jD
def Cz t a v:Pl P (Go.storeVar t a v):=by unfold Go.storeVar;have d1:=@jH P;have d2:=@pj P;exact jD
def oT elem cells:Pl P (Go.newRow elem cells):=by unfold Go.newRow;exact jD
def wJ t v:Pl P (Go.newVar t v):=by unfold Go.newVar;have d1:=@oT P;exact jD
def qC t:Pl P (Go.elemOf t):=by unfold Go.elemOf;have d1:=@gO P;exact jD
def pk t cs off:Pl P (Go.part t cs off):=by unfold Go.part;have d1:=@jH P;have d2:=@NN P;exact jD
def gU e:Pl P ((Go.runtimePanic e:Sem α)):=by unfold Go.runtimePanic;have d1:=@wJ P;have d2:=@qC P;exact jD
def qS k x y code:Pl P ((Go.boundsPanic k x y code:Sem α)):=by unfold Go.boundsPanic;have d1:=@gU P;exact jD
def ue:∀a0,Pl P (Go.asIntOf a0):=by intro a0;unfold Go.asIntOf;exact jD
def ni v:Pl P (Go.asInt v):=by unfold Go.asInt;have d1:=@ue P;exact jD
def wM:∀a0,Pl P (Go.asBool a0):=by intro a0;unfold Go.asBool;exact jD
def rN:∀a0,Pl P (Go.asString a0):=by intro a0;unfold Go.asString;exact jD
def FO:∀a0,Pl P (Go.asAgg a0):=by intro a0;unfold Go.asAgg;exact jD
def qD:∀a0,Pl P (Go.asAddr a0):=by intro a0;unfold Go.asAddr;have d1:=@gU P;exact jD
def xo f args:Pl P (Go.Deferred.ofValue f args):=by unfold Go.Deferred.ofValue;exact jD
def FU elem heap old:Pl P (Go.Instr.alloc elem heap old):=by unfold Go.Instr.alloc;have d1:=@j7 P;have d2:=@Cz P;have d3:=@wJ P;exact jD
def xh x y code:Pl P (Go.Instr.sliceBound x y code):=by unfold Go.Instr.sliceBound;have d1:=@qS P;have d2:=@ue P;exact jD
def pB isSlice len cap low high max:Pl P (Go.Instr.sliceBounds isSlice len cap low high max):=by unfold Go.Instr.sliceBounds;have d1:=@xh P;exact jD
def iO qK x low high max:Pl P (Go.Instr.slice qK x low high max):=by unfold Go.Instr.slice;have d1:=@gO P;have d2:=@jH P;have d3:=@qD P;have d4:=@pB P;exact jD
def wL a:Pl P (Go.byteOf a):=by unfold Go.byteOf;have d1:=@Ju P;exact jD
def YC base cells bytes:Pl P (Go.partAt base cells bytes):=by unfold Go.partAt;have d1:=@wL P;exact jD
def xL a f:Pl P (Go.fieldPlace a f):=by unfold Go.fieldPlace;have d1:=@jH P;have d2:=@YC P;exact jD
def qQ a u n:Pl P (Go.variablesAt a u n):=by unfold Go.variablesAt;exact jD
def KW a acc:∀a0,Pl P (Go.loadBytes a acc a0):=by intro a0;induction a0 generalizing a acc with|zero=>exact trivial|succ n ih=>unfold Go.loadBytes;refine ia (wK _ _) λ_=>?_;split;exact ih _ _;exact trivial
def k9:∀a0,Pl P (Go.Instr.sureAddr a0):=by intro a0;unfold Go.Instr.sureAddr;exact jD
def Dx t addr:Pl P (Go.Instr.loadAt t addr):=by unfold Go.Instr.loadAt;have d1:=@qR P;have d2:=@k9 P;exact jD
def Bi t addr val:Pl P (Go.Instr.storeAt t addr val):=by unfold Go.Instr.storeAt;have d1:=@Cz P;have d2:=@k9 P;exact jD
def Bp s addr field:Pl P (Go.Instr.fieldAt s addr field):=by unfold Go.Instr.fieldAt;have d1:=@gO P;have d2:=@xL P;have d3:=@k9 P;exact jD
def Bo t x index:Pl P (Go.Instr.indexAt t x index):=by unfold Go.Instr.indexAt;have d1:=@gO P;have d2:=@jH P;have d3:=@qS P;have d4:=@ue P;have d5:=@iO P;have d6:=@k9 P;exact jD
def Bj t x low high max:Pl P (Go.Instr.sliceAt t x low high max):=by unfold Go.Instr.sliceAt;have d1:=@gO P;have d2:=@jH P;have d3:=@pB P;have d4:=@iO P;have d5:=@k9 P;exact jD
def Br arr x:Pl P (Go.Instr.arrayAt arr x):=by unfold Go.Instr.arrayAt;have d1:=@gO P;have d2:=@gU P;have d3:=@iO P;exact jD
def KZ elem v:Pl P (Go.Instr.box elem v):=by unfold Go.Instr.box;have d1:=@wJ P;exact jD
def FT t parts:Pl P (Go.Instr.build t parts):=by unfold Go.Instr.build;have d1:=@gO P;have d2:=@j7 P;have d3:=@jH P;have d4:=@pk P;exact jD
def xm t len parts:Pl P (Go.Instr.buildSlice t len parts):=by unfold Go.Instr.buildSlice;have d1:=@gO P;have d2:=@j7 P;have d3:=@jH P;have d4:=@oT P;have d5:=@pk P;have d6:=@iO P;exact jD
def vy g:Pl P (Go.Instr.waits g):=by unfold Go.Instr.waits;exact jD
def FP g:Pl P (Go.Instr.ready g):=by unfold Go.Instr.ready;exact jD
def uh qK x:Pl P (Go.Instr.makeInterface qK x):=by unfold Go.Instr.makeInterface;have d1:=@gO P;exact jD
def zw fn first captured:Pl P (Go.Instr.makeFunc fn first captured):=by unfold Go.Instr.makeFunc;exact jD
def Bm t agc:Pl P (Go.Instr.makeMap t agc):=by unfold Go.Instr.makeMap;have d1:=@gO P;have d2:=@ni P;exact jD
def zx t size:Pl P (Go.Instr.makeChan t size):=by unfold Go.Instr.makeChan;have d1:=@iN P;have d2:=@gO P;have d3:=@gU P;have d4:=@ni P;exact jD
def yA t len cap:Pl P (Go.Instr.makeSlice t len cap):=by unfold Go.Instr.makeSlice;have d1:=@iN P;have d2:=@gO P;have d3:=@j7 P;have d4:=@jH P;have d5:=@oT P;have d6:=@gU P;have d7:=@ni P;have d8:=@iO P;exact jD
def vA qK x field:Pl P (Go.Instr.field qK x field):=by unfold Go.Instr.field;have d1:=@gO P;have d2:=@pk P;have d3:=@FO P;exact jD
def oq qK x index:Pl P (Go.Instr.index qK x index):=by unfold Go.Instr.index;have d1:=@gO P;have d2:=@jH P;have d3:=@pk P;have d4:=@qS P;have d5:=@ue P;exact jD
def Iv:∀a0 a1 a2 a3,Pl P (Go.Op.equalIn a0 a1 a2 a3):=by intro a0;induction a0 with|zero=>intros;exact trivial|succ n ih=>intro a1 a2 a3;unfold Go.Op.equalIn;have d1:=@pQ P;have d2:=@CC P;have d3:=@FC P;have d4:=@iN P;have d5:=@gO P;have d6:=@ub P;have d7:=@jH P;have d8:=@pk P;have d9:=@gU P;have d10:=@wL P;exact jD
def CL t x y:Pl P (Go.Op.equal t x y):=by unfold Go.Op.equal;have d1:=@Iv P;exact jD
def Du:∀a0 a1 a2 a3,Pl P (Go.Op.eqGuardIn a0 a1 a2 a3):=by intro a0;induction a0 with|zero=>intros;exact trivial|succ n ih=>intro a1 a2 a3;unfold Go.Op.eqGuardIn;have d1:=@gO P;have d2:=@jH P;have d3:=@pk P;exact jD
def mB empty:∀a0 a1 a2,Pl P (Go.Instr.checkKey empty a0 a1 a2):=by intro a0;induction a0 with|zero=>intros;exact trivial|succ n ih=>intro a1 a2;unfold Go.Instr.checkKey;have d1:=@iN P;have d2:=@gO P;have d3:=@ub P;have d4:=@jH P;have d5:=@pk P;have d6:=@gU P;exact jD
theorem pX keyType k:∀l i,Pl P (Go.Instr.findAsking keyType k l i)
 |[],_=>trivial|e::es,i=>by unfold Go.Instr.findAsking;refine ia (CL _ _ _) λb=>?_;split;exact trivial;exact pX keyType k es _
def mX keyType k es:Pl P (Go.Instr.findKey keyType k es):=by unfold Go.Instr.findKey;refine ia (gO _) λ_=>?_;split;exact trivial;exact pX _ _ _ _
def Dw qK x index LC:Pl P (Go.Instr.lookup qK x index LC):=by unfold Go.Instr.lookup;have d1:=@gO P;have d2:=@j7 P;have d3:=@oq P;have d4:=@mB P;have d5:=@mX P;exact jD
def oJ old new:Pl P (Go.Instr.keyThatStays old new):=by unfold Go.Instr.keyThatStays;exact jD
def yz mapType map key value:Pl P (Go.Instr.mapUpdate mapType map key value):=by unfold Go.Instr.mapUpdate;have d1:=@gO P;have d2:=@gU P;have d3:=@mB P;have d4:=@mX P;have d5:=@oJ P;exact jD
def zu mapType map key:Pl P (Go.Instr.mapEntry mapType map key):=by unfold Go.Instr.mapEntry;have d1:=@gO P;have d2:=@j7 P;have d3:=@gU P;have d4:=@mB P;have d5:=@mX P;have d6:=@oJ P;exact jD
def xl aaG map aoi value:Pl P (Go.Instr.entryStore aaG map aoi value):=by unfold Go.Instr.entryStore;have d1:=@ni P;exact jD
def lF qK x:Pl P (Go.Instr.range qK x):=by unfold Go.Instr.range;have d1:=@gO P;exact jD
def Iz iter isString kz:Pl P (Go.Instr.next iter isString kz):=by unfold Go.Instr.next;exact jD
def FQ iter:Pl P (Go.Instr.entry iter):=by unfold Go.Instr.entry;exact jD
def kL l:Pl P (Go.Instr.getLoop l):=by unfold Go.Instr.getLoop;have d1:=@lF P;exact jD
def yB fn tmps params assign body amd:Pl P (Go.Instr.enterLoop fn tmps params assign body amd):=by unfold Go.Instr.enterLoop;have d1:=@kL P;exact jD
def xn l:Pl P (Go.Instr.beginRound l):=by unfold Go.Instr.beginRound;have d1:=@gU P;have d2:=@lF P;have d3:=@kL P;exact jD
def zy l jump:Pl P (Go.Instr.endRound l jump):=by unfold Go.Instr.endRound;have d1:=@kL P;exact jD
def Bq l:Pl P (Go.Instr.endLoop l):=by unfold Go.Instr.endLoop;have d1:=@gU P;have d2:=@lF P;have d3:=@kL P;exact jD
def uP l d:Pl P (Go.Instr.deferInRound l d):=by unfold Go.Instr.deferInRound;have d1:=@lF P;have d2:=@kL P;exact jD
def uO block:Pl P (Go.Instr.takeDeferred block):=by unfold Go.Instr.takeDeferred;have d1:=@lF P;exact jD
def ry argTypes kz args:Pl P (Go.Builtin.ssaWrapNilChk_ argTypes kz args):=by
 unfold Go.Builtin.ssaWrapNilChk_;rcases args with⟨_|⟨a,_|⟨b,_|⟨c,_|⟨d,l⟩⟩⟩⟩⟩;exact trivial;exact trivial;cases b<;>exact trivial
 ·cases b<;>first|exact trivial|skip
  cases c<;>first|exact trivial|skip
  cases a<;>first|exact trivial|skip
  rename_i o;cases o with|some o=>exact trivial|none=>
  refine ia (sQ _) λ_=>lY (ia (gU _) λ_=>?_) ?_<;>
  (repeat' (first|exact trivial|with_reducible apply iN|with_reducible apply gO|with_reducible apply gU|with_reducible exact sQ _|refine ia ?_ (λ_=>?_)|with_reducible apply lY|split|dsimp only))
 cases b<;>exact trivial
def oo t:∀a0,Pl P (Go.Place.get t a0):=by intro a0;unfold Go.Place.get;have d1:=@qR P;exact jD
def Jy:∀a0 a1 a2,Pl P (Go.follow a0 a1 a2):=by
 intro a0;induction a0 with
 |nil=>intros;exact trivial|cons s r ih=>
 intro a1 a2;unfold Go.follow
 (repeat' (first|exact trivial|with_reducible exact ih _ _|with_reducible apply gO|with_reducible apply oo|with_reducible apply qD|with_reducible apply xL|with_reducible apply pk|refine ia ?_ (λ_=>?_)|with_reducible apply lY|split|dsimp only))
def xK xt x pP wrapper:Pl P (Go.receiverAt xt x pP wrapper):=by unfold Go.receiverAt;refine ia (gO _) λd=>?_;split;exact oo _ _;refine ia (oo _ _) λ_=>?_;split;exact ia (ry _ _ _) λ_=>ia (qD _) λ_=>qR _ _;exact ia trivial λ_=>ia (qD _) λ_=>qR _ _;exact trivial;exact trivial;exact oo _ _
def FH t v path pP:Pl P (Go.receiverVia t v path pP):=by unfold Go.receiverVia;have d1:=@Jy P;have d2:=@xK P;exact jD
def Bf:∀a0 a1 a2 a3,Pl P (Go.method a0 a1 a2 a3):=by intro a0;induction a0 with|zero=>intros;exact trivial|succ n ih=>intro a1 a2 a3;unfold Go.method;refine ia (iN _) λi=>?_;split;refine ia (Jy _ _ _) λr=>?_;dsimp only;split;refine ia (oo _ _) λv=>?_;split;exact ih _ _ _;exact gU _;exact trivial;exact ia (xK _ _ _ _) λ_=>trivial;exact trivial
def FM:∀a0 a1 a2,Pl P (Go.followBlind a0 a1 a2):=by intro a0;induction a0 with|nil=>intros;exact trivial|cons hd tl ih=>intro a1 a2;unfold Go.followBlind;have d1:=@gO P;have d2:=@pk P;have d3:=@vA P;have d4:=@oq P;have d5:=@Bf P;exact jD
def NL:∀a0 a1 a2 a3,Pl P (Go.nilAhead a0 a1 a2 a3):=by intro a0;induction a0 with|zero=>intros;exact trivial|succ n ih=>intro a1 a2 a3;unfold Go.nilAhead;have d1:=@iN P;have d2:=@gO P;have d3:=@Bf P;have d4:=@FM P;exact jD
def xq t v:Pl P (Go.Builtin.printOne t v):=by unfold Go.Builtin.printOne;have d1:=@iN P;exact jD
def zA ln consts argTypes args:Pl P (Go.Builtin.pieces ln consts argTypes args):=by
 unfold Go.Builtin.pieces;dsimp only;refine ia (RL _ _ (λi h s=>?_) _) λr=>?_
 ·(repeat' (first|exact trivial|with_reducible apply xq|with_reducible apply Jw|refine ia ?_ (λ_=>?_)|with_reducible apply lY|split|(intro _)|dsimp only))
 (repeat' (first|exact trivial|refine ia ?_ (λ_=>?_)|with_reducible apply lY|split|dsimp only))
def xg x qK asserted LC:Pl P (Go.Instr.typeAssert x qK asserted LC):=by unfold Go.Instr.typeAssert;have d1:=@iN P;have d2:=@gO P;have d3:=@j7 P;have d4:=@gU P;exact jD
def sU tuple index:Pl P (Go.Instr.extract tuple index):=by unfold Go.Instr.extract;have d1:=@oq P;exact jD
def zt:Pl P Go.Instr.panicnil:=by unfold Go.Instr.panicnil;refine ia (x:=sys .env) ⟨λ_=>trivial,.inl λos=>⟨_,rfl⟩⟩ λr=>?_;split;exact trivial;exact trivial
def vz x:Pl P (Go.Instr.panic x):=by unfold Go.Instr.panic;have d1:=@gU P;have d2:=@zt P;exact jD
def vt op k x y:Pl P (Go.Op.intArith op k x y):=by unfold Go.Op.intArith;exact jD
def KX op k x y:Pl P (Go.Op.intDiv op k x y):=by unfold Go.Op.intDiv;have d1:=@gU P;exact jD
def xM op k x y:Pl P (Go.Op.intBits op k x y):=by unfold Go.Op.intBits;exact jD
def NP op k x uyk y:Pl P (Go.Op.shift op k x uyk y):=by unfold Go.Op.shift;have d1:=@gU P;exact jD
def KY op x y:Pl P (Go.Op.intCmp op x y):=by unfold Go.Op.intCmp;exact jD
def sR op k x y:Pl P (Go.Op.floatArith op k x y):=by unfold Go.Op.floatArith;exact jD
def vu op k x y:Pl P (Go.Op.floatCmp op k x y):=by unfold Go.Op.floatCmp;exact jD
def mH src bits dst:Pl P (Go.Conv.floatToFloat src bits dst):=by unfold Go.Conv.floatToFloat;exact jD
def jW op k x y:Pl P (Go.Op.Complex.arith op k x y):=by unfold Go.Op.Complex.arith;have d1:=@sR P;exact jD
def rO op k x y:Pl P (Go.Op.Complex.cmp op k x y):=by unfold Go.Op.Complex.cmp;have d1:=@wM P;have d2:=@vu P;exact jD
def yx src x dst:Pl P (Go.Op.Complex.conv src x dst):=by unfold Go.Op.Complex.conv;have d1:=@mH P;exact jD
def uN a b c d:Pl P (Go.Op.Complex.product a b c d):=by unfold Go.Op.Complex.product;exact jD
def sS scale a b c d:Pl P (Go.Op.Complex.corrected scale a b c d):=by unfold Go.Op.Complex.corrected;exact jD
def ug a b c d:Pl P (Go.Op.Complex.quotient a b c d):=by
 unfold Go.Op.Complex.quotient;have h1:∀x y,Pl P (Go.Op.Complex.mul x y):=λ_ _=>jW _ _ _ _;have h2:∀x y,Pl P (Go.Op.Complex.add x y):=λ_ _=>jW _ _ _ _;have h3:∀x y,Pl P (Go.Op.Complex.sub x y):=λ_ _=>jW _ _ _ _;have h4:∀x y,Pl P (Go.Op.Complex.quo x y):=λ_ _=>jW _ _ _ _
 (repeat' (first|exact trivial|with_reducible exact h1 _ _|with_reducible exact h2 _ _|with_reducible exact h3 _ _|with_reducible exact h4 _ _|with_reducible exact sS _ _ _ _ _|with_reducible apply jW|with_reducible apply rO|refine ia ?_ (λ_=>?_)|with_reducible apply lY|split|dsimp only))
def Dv op k xr xi yr yi:Pl P (Go.Op.complexOp op k xr xi yr yi):=by have q:=λa b c d=>@ug P a b c d;unfold Go.Op.complexOp;cases op<;>(repeat' (first|exact trivial|with_reducible exact q _ _ _ _|with_reducible apply uN|with_reducible apply yx|with_reducible apply jW|with_reducible apply rO|refine ia ?_ (λ_=>?_)|with_reducible apply lY|dsimp only))
def qT op x y:Pl P (Go.Op.stringOp op x y):=by unfold Go.Op.stringOp;exact jD
def uG a b:Pl P (Go.Op.twoPlaces a b):=by unfold Go.Op.twoPlaces;have d1:=@wL P;exact jD
def Iw k a b:Pl P (Go.Op.addrSub k a b):=by unfold Go.Op.addrSub;have d1:=@uG P;exact jD
def Iy op a b:Pl P (Go.Op.addrCmp op a b):=by unfold Go.Op.addrCmp;have d1:=@uG P;exact jD
def Ix k a n:Pl P (Go.Op.addrMod k a n):=by unfold Go.Op.addrMod;have d1:=@iN P;have d2:=@wL P;exact jD
def NO op x:Pl P (Go.Op.unary op x):=by unfold Go.Op.unary;have d1:=@vt P;have d2:=@xM P;exact jD
def Bt dst n:Pl P (Go.Conv.intToInt dst n):=by unfold Go.Conv.intToInt;exact jD
def yC dst n:Pl P (Go.Conv.intToFloat dst n):=by unfold Go.Conv.intToFloat;exact jD
def yD src bits dst:Pl P (Go.Conv.floatToInt src bits dst):=by unfold Go.Conv.floatToInt;exact jD
def sb src re im dst:Pl P (Go.Conv.complexToComplex src re im dst):=by unfold Go.Conv.complexToComplex;have d1:=@mH P;exact jD
def xp n:Pl P (Go.Conv.intToString n):=by unfold Go.Conv.intToString;exact jD
def uS elem s:Pl P (Go.Conv.stringToBytes elem s):=by unfold Go.Conv.stringToBytes;have d1:=@oU P;have d2:=@oT P;exact jD
def uU x:Pl P (Go.Conv.bytesToString x):=by unfold Go.Conv.bytesToString;have d1:=@qg P;have d2:=@iO P;exact jD
def uR elem s:Pl P (Go.Conv.stringToRunes elem s):=by unfold Go.Conv.stringToRunes;have d1:=@oT P;exact jD
def uT x:Pl P (Go.Conv.runesToString x):=by unfold Go.Conv.runesToString;have d1:=@qg P;have d2:=@iO P;exact jD
def FV a:Pl P (Go.Conv.seenAt a):=by unfold Go.Conv.seenAt;have d1:=@sP P;exact jD
def uQ src dst x:Pl P (Go.Conv.unsafePointer src dst x):=by unfold Go.Conv.unsafePointer;have d1:=@RO P;have d2:=@CK P;have d3:=@gO P;have d4:=@jH P;have d5:=@qQ P;have d6:=@vy P;have d7:=@FV P;exact jD
def uV a cells:Pl P (Go.Builtin.holdsCells a cells):=by unfold Go.Builtin.holdsCells;exact jD
def xu size zi n base x:Pl P (Go.Builtin.mayShare size zi n base x):=by unfold Go.Builtin.mayShare;have d1:=@uV P;exact jD
def sW:∀a0,Pl P (Go.Builtin.lenOf a0):=by intro a0;unfold Go.Builtin.lenOf;have d1:=@iO P;exact jD
def oK size n:∀a0,Pl P (Go.Builtin.firstCells size n a0):=by intro a0;unfold Go.Builtin.firstCells;have d1:=@qg P;have d2:=@iO P;have d3:=@sU P;exact jD
def yF argTypes kz args:Pl P (Go.Builtin.append_ argTypes kz args):=by
 unfold Go.Builtin.append_;split
 ·(repeat' (first|exact trivial|with_reducible apply gO|with_reducible apply jH|with_reducible apply ni|with_reducible apply iN|with_reducible apply gU|with_reducible exact sQ _|with_reducible apply sW|with_reducible apply oK|with_reducible apply j7|with_reducible apply pj|with_reducible apply xu|with_reducible exact Bd|with_reducible exact FN _|with_reducible apply oT|refine ia ?_ (λ_=>?_)|with_reducible apply lY|split|dsimp only))
 exact trivial
def DG argTypes kz args:Pl P (Go.Builtin.cap_ argTypes kz args):=by unfold Go.Builtin.cap_;have d1:=@gO P;have d2:=@iO P;exact jD
def zC argTypes kz args:Pl P (Go.Builtin.clear_ argTypes kz args):=by unfold Go.Builtin.clear_;have d1:=@gO P;have d2:=@j7 P;have d3:=@pj P;have d4:=@iO P;exact jD
def zB jO kz args:Pl P (Go.Builtin.close_ jO kz args):=by
 unfold Go.Builtin.close_;rcases args with⟨_|⟨a,_|⟨b,l⟩⟩⟩;exact trivial
 ·cases a;case chan r=>
   cases r with
   |none=>exact gU _|some r=>
   refine ia (Jv _) λo=>?_;cases o<;>first|exact trivial|skip
   dsimp only
   (repeat' (first|exact trivial|with_reducible apply gU|with_reducible exact Jt _ _|refine ia ?_ (λ_=>?_)|with_reducible apply lY|split|dsimp only))
  all_goals exact trivial
 exact trivial
def xx jO kz args:Pl P (Go.Builtin.complex_ jO kz args):=by
 unfold Go.Builtin.complex_;rcases args with⟨_|⟨a,_|⟨b,_|⟨c,l⟩⟩⟩⟩;exact trivial;exact trivial;cases a<;>cases b<;>first|exact trivial|skip
 exact lY (c:=_=_) trivial trivial;exact trivial
def Bw argTypes kz args:Pl P (Go.Builtin.copy_ argTypes kz args):=by unfold Go.Builtin.copy_;have d1:=@gO P;have d2:=@jH P;have d3:=@pj P;have d4:=@iO P;have d5:=@sW P;have d6:=@oK P;exact jD
def yE argTypes kz args:Pl P (Go.Builtin.delete_ argTypes kz args):=by unfold Go.Builtin.delete_;have d1:=@gO P;have d2:=@mB P;have d3:=@mX P;exact jD
def Bv jO kz args:Pl P (Go.Builtin.imag_ jO kz args):=by unfold Go.Builtin.imag_;exact t088
def DF argTypes kz args:Pl P (Go.Builtin.len_ argTypes kz args):=by unfold Go.Builtin.len_;have d1:=@gO P;have d2:=@iO P;exact jD
def DE:∀a0 a1,Pl P (Go.Builtin.max2 a0 a1):=by intro a0 a1;unfold Go.Builtin.max2;have d1:=@wM P;have d2:=@qT P;exact jD
def DC jO kz args:Pl P (Go.Builtin.max_ jO kz args):=by unfold Go.Builtin.max_;have d1:=@DE P;exact jD
def Dz:∀a0 a1,Pl P (Go.Builtin.min2 a0 a1):=by intro a0 a1;unfold Go.Builtin.min2;have d1:=@wM P;have d2:=@qT P;exact jD
def Dy jO kz args:Pl P (Go.Builtin.min_ jO kz args):=by unfold Go.Builtin.min_;have d1:=@Dz P;exact jD
def Bu jO kz args:Pl P (Go.Builtin.real_ jO kz args):=by unfold Go.Builtin.real_;exact t088
def my jO kz args:Pl P (Go.Builtin.unsafeAdd_ jO kz args):=by
 unfold Go.Builtin.unsafeAdd_;rcases args with⟨_|⟨a,_|⟨b,_|⟨c,l⟩⟩⟩⟩;exact trivial;cases a<;>exact trivial
 ·cases a<;>first|exact trivial|skip
  dsimp only
  (repeat' (first|exact trivial|with_reducible apply ni|with_reducible apply sP|with_reducible exact Fz _|with_reducible apply ud|refine ia ?_ (λ_=>?_)|with_reducible apply lY|split|dsimp only))
 cases a<;>exact trivial
def sV argTypes kz args:Pl P (Go.Builtin.unsafeSlice_ argTypes kz args):=by
 unfold Go.Builtin.unsafeSlice_;rcases args with⟨_|⟨a,_|⟨b,_|⟨c,l⟩⟩⟩⟩;exact trivial;cases a<;>exact trivial
 ·cases a<;>first|exact trivial|skip
  dsimp only
  (repeat' (first|exact trivial|with_reducible apply ni|with_reducible apply sP|with_reducible apply qC|with_reducible apply gU|with_reducible apply iN|with_reducible apply jH|with_reducible apply qQ|with_reducible exact Be _|with_reducible exact Fz _|with_reducible apply ud|refine ia ?_ (λ_=>?_)|with_reducible apply lY|split|dsimp only))
 cases a<;>exact trivial
def qh jO type args:Pl P (Go.Builtin.unsafeSliceData_ jO type args):=by
 unfold Go.Builtin.unsafeSliceData_;rcases args with⟨_|⟨a,_|⟨b,l⟩⟩⟩;exact trivial
 ·cases a;case slice r n c=>cases r with|none=>exact trivial|some r=>exact lY (c:=_≠_) trivial (ia (sP _) λb=>lY trivial (ia (qC _) λ_=>ia (Be _) λ_=>trivial))
  all_goals exact trivial
 exact trivial
def se argTypes kz args:Pl P (Go.Builtin.unsafeString_ argTypes kz args):=by
 unfold Go.Builtin.unsafeString_;rcases args with⟨_|⟨a,_|⟨b,_|⟨c,l⟩⟩⟩⟩;exact trivial;cases a<;>exact trivial
 ·cases a<;>first|exact trivial|skip
  dsimp only
  (repeat' (first|exact trivial|with_reducible apply ni|with_reducible apply KW|with_reducible apply qC|with_reducible apply gU|with_reducible apply qQ|with_reducible exact Bh _ _|refine ia ?_ (λ_=>?_)|with_reducible apply lY|split|dsimp only))
 cases a<;>exact trivial
def pR jO type args:Pl P (Go.Builtin.unsafeStringData_ jO type args):=by
 unfold Go.Builtin.unsafeStringData_;rcases args with⟨_|⟨a,_|⟨b,l⟩⟩⟩;exact trivial
 ·cases a<;>first|exact trivial|skip
  refine lY (c:=_=_) ?_ ?_<;>
  (repeat' (first|exact trivial|with_reducible apply oT|with_reducible apply oU|with_reducible apply qC|with_reducible exact sQ _|with_reducible exact Bh _ _|refine ia ?_ (λ_=>?_)|with_reducible apply lY|split|dsimp only))
 cases a<;>exact trivial
def FJ t x y:Pl P (Go.movedNumber t x y):=by unfold Go.movedNumber;have d1:=@CK P;have d2:=@pQ P;have d3:=@gO P;have d4:=@my P;exact jD
def Ds t x y:Pl P (Go.movedPointer t x y):=by unfold Go.movedPointer;have d1:=@CH P;have d2:=@my P;exact jD
def RM op t x y a b:Pl P (Go.eqGuard op t x y a b):=by unfold Go.eqGuard;have d1:=@pk P;have d2:=@Du P;exact jD
def abG op qK x y:Pl P (Go.binOp op qK x y):=by unfold Go.binOp;have d1:=@pQ P;have d2:=@gO P;have d3:=@CL P;have d4:=@vt P;have d5:=@KX P;have d6:=@xM P;have d7:=@NP P;have d8:=@KY P;have d9:=@sR P;have d10:=@vu P;have d11:=@Dv P;have d12:=@qT P;have d13:=@Iw P;have d14:=@Iy P;have d15:=@Ix P;have d16:=@FJ P;have d17:=@Ds P;exact jD
def RN src dst x:Pl P (Go.convert src dst x):=by unfold Go.convert;have d1:=@oU P;have d2:=@gO P;have d3:=@iO P;have d4:=@mH P;have d5:=@Bt P;have d6:=@yC P;have d7:=@yD P;have d8:=@sb P;have d9:=@xp P;have d10:=@uS P;have d11:=@uU P;have d12:=@uR P;have d13:=@uT P;have d14:=@uQ P;exact jD
def uc ρ c type:Pl P (Go.resolve ρ c type):=by unfold Go.resolve;have d1:=@xo P;exact jD
end
end Tp
namespace Tp
section
variable{P:Program}{α β:Type}
def amp:Next->Prop
 |.value _|.skip|.enter _ _|.round _ _ _ _ _|.defer _|.recover|.spawn _|.comm _ _ _=>True|.coroswitch _ b=>b=true|.row r _=>r= "runtime.print$piece"|_=>False
abbrev Nx(P:Program)(s:Sem Next):Prop:=Plain P amp s
def j9{x:Sem α}{f}(hx:Pl P x)(hf:∀a,Nx P (f a)):Nx P (x >>= f):=Plain.bind (λa _=>hf a) hx
def Sc {x} (hx : Pl P x) : Nx P (do pure (.value (<- x))) := j9 hx λ_ => trivial
def agx {x} (hx : Pl P x) : Nx P (do x; pure .skip) := j9 hx λ_ => trivial
def amx(P:Program)(fn:Func):Prop:=Extern.findNext fn=none/\∀e,Extern.find fn=some e->∀args,Pl P (e args)
def iT(P:Program):Prop:=∀(f:Nat)(fn:Func),P.funcs[f]? =some fn->(fn.name== "runtime.NumGoroutine")=false/\(fn.body.isNone=false∨amx P fn)
def vD(hB:iT P) f args:Nx P (Go.callFunc f args):=by unfold Go.callFunc;show Nx P (match P.funcs[f]? with|none=>_|some fn=>_);split;exact trivial;rename_i fn hf;obtain⟨h2,h1⟩:=hB f fn hf;rw[h2];rcases h1 with h1|⟨h3,h4⟩;rw[h1];exact trivial;cases h1:fn.body.isNone with|false=>exact trivial|true=>simp only[Bool.false_eq_true,if_false,if_true];refine⟨trivial,?_⟩;rw[h3];cases he:Extern.find fn with|none=>show Nx P (if _ then _ else _);split;exact trivial;exact trivial|some e=>exact Sc (h4 e he args)
def agz{x}{f:α->Sem β}{Φ}(hx:Pl P x)(hf:∀a,Plain P Φ (f a)):Plain P Φ (x >>= f):=Plain.bind (λa _=>hf a) hx
def pS Φ e:Plain P Φ (runtimePanic e:Sem α):=by unfold runtimePanic;refine Plain.bind (Φ:=λ_=>True) (λp _=>?_) (show Plain P _ program from trivial);cases e;all_goals (repeat' (first|exact trivial|with_reducible apply qC|with_reducible apply wJ|with_reducible apply ub|with_reducible apply iN|refine agz ?_ (λ_=>?_)|split|(intro _)|dsimp only))
def akq{c}[Decidable c]{a b}(h1:Nx P a)(h2:Nx P b):Nx P (if c then a else b):=by split<;>assumption
def Oc a b args:Nx P (Extern.PrintPieces.piece a b args):=by
 unfold Extern.PrintPieces.piece;split;case h_2=>exact trivial
 split;case h_2=>exact trivial
 rename_i first _ _ p _
 dsimp only;generalize(args.size==2)=last;by_cases hp:p.size>65536;rw[if_pos hp];exact trivial;rw[if_neg hp];cases first
 refine j9 (ua _ _) λ_=>?_;cases last;exact rfl;exact⟨trivial,⟨eS,trivial⟩⟩;refine⟨trivial,λv=>?_⟩;cases v;case bool c=>cases c;cases last;refine⟨eS,?_⟩;exact j9 (x:=writeFd 2 p) (ua _ _) λ_=>rfl;refine⟨eS,?_⟩;exact j9 (x:=writeFd 2 p) (ua _ _) λ_=>trivial;exact id
 all_goals exact id
def xQ(hB:iT P) recv name args:Nx P (Go.callMethod recv name args):=by unfold Go.callMethod;split;refine j9 (show Pl P program from trivial) λp=>?_;refine j9 (Bf _ _ _ _) λr=>?_;exact vD hB _ _;exact pS _ _;exact trivial
def Gd ln consts argTypes args:Nx P (Go.Builtin.printMarked ln consts argTypes args):=by unfold Go.Builtin.printMarked;refine j9 (zA _ _ _ _) λps=>?_;split;exact trivial;exact Oc _ _ _
def Sd b argTypes type consts args:Nx P (Go.builtin b argTypes type consts args):=by
 unfold Go.builtin;cases b;all_goals first
  |exact Gd _ _ _ _
  |exact trivial
  |exact j9 (iN _) λ_=>trivial
  |(refine Sc ?_;first|apply yF|apply DG|apply zC|apply zB|apply xx|apply Bw|apply yE|apply Bv|apply DF|apply DC|apply Dy|apply vz|apply Bu|apply my|apply sV|apply qh|apply se|apply pR)
def abR l args:Nx P (Instr.yield l args):=by unfold Instr.yield;refine j9 (kL _) λr=>?_;split;exact j9 (show Pl P (stuck _:Sem PUnit)from trivial) λ_=>trivial;exact trivial
def Bz(hB:iT P) t args:Nx P (Go.invoke t args):=by unfold Go.invoke;split;exact pS _ _;exact Sd _ _ _ _ _;exact vD hB _ _;split;exact xQ hB _ _ _;exact trivial;split;refine j9 (gO _) λd=>?_;exact xQ hB _ _ _;exact trivial;split;exact j9 (FH _ _ _ _) λ_=>vD hB _ _;exact trivial;exact abR _ _;exact trivial;exact rfl
def YO(hB:iT P) ρ o:Nx P (Go.execOp ρ o):=by
 unfold Go.execOp;cases o.op;all_goals first
  |exact trivial
  |(refine Sc ?_;first|apply FU|apply KZ|apply FT|apply xm|apply Dx|apply vy|apply NO|apply RN|apply Br|apply uh|apply zw|apply Bm|apply zx|apply yA|apply Bj|apply Bp|apply vA|apply Bo|apply oq|apply Dw|apply zu|apply lF|apply Iz|apply FQ|apply xg|apply sU|apply vz|exact ia (RM _ _ _ _ _ _) (λ_=>abG _ _ _ _))
  |(refine agx ?_;first|apply Bi|apply FP|apply yz|apply xl)
  |exact j9 (wM _) λ_=>trivial
  |exact j9 (uc _ _ _) λ_=>Bz hB _ _
  |exact j9 (uc _ _ _) λ_=>trivial
  |(dsimp only;(repeat' (first|exact trivial|exact pS _ _|exact(show Pl P program from trivial)|with_reducible apply NL|with_reducible apply gO|with_reducible apply j7|with_reducible apply FK|refine j9 ?_ (λ_=>?_)|refine ia ?_ (λ_=>?_)|with_reducible apply akq|split|(intro _)|dsimp only)))
end
end Tp
namespace Rn
section
variable{P:Program}{E:Env}{X:List Nat}{α β:Type}
def KG t (hz : ∀ e, P.underlying t = some (.slice e) -> o9 P e) {l l' c c'} (hl : V E X l l') (hc : V E X c c') : RG P E (λX' v v' => V E X' v v') X (Instr.makeSlice t l c) (Instr.makeSlice t l' c') := by
  unfold Instr.makeSlice
  refine gG (iR t) ?_
  rintro d _ ⟨rfl, hu⟩
  split
  · rename_i elem
    refine gG (R := Eq) (Fl hl) λlen _ e => ?_
    subst e
    refine gG (R := Eq) (Fl hc) λcap _ e => ?_
    subst e
    refine jA (mV elem) λinfo => ?_
    dsimp only
    have ow : ∀ (z : Array Value) (n a b : Nat), (∀ (i : Nat) v, z[i]? = some v -> Clean v) -> RG P E (λX' v v' => V E X' v v') X
        (do let x <- newRow elem ((Array.range n).map (z[· % z.size]!)); pure (.slice (some x) a b))
        (do let x <- newRow elem ((Array.range n).map (z[· % z.size]!)); pure (.slice (some x) a b)) := by
      intro z n a b tu
      refine pe (wD elem (VA.lr tu n)) ?_
      rintro Y x x' ⟨_, ha⟩
      rw [ha.eq]
      exact ⟨_, rfl, .slice _ _ _ _ _ _ ha.1⟩
    have hgo : RG P E (λX' v v' => V E X' v v') X
        (do askRoom ((IntKind.i64.wrap cap).toNat * info.bytes)
            let n := (IntKind.i64.wrap cap).toNat * (<- sizeOf elem)
            let zero <- if n = 0 then pure #[] else do pure (<- zeroValue elem).cells
            let a <- newRow elem ((Array.range n).map (zero[· % zero.size]!))
            pure (.slice (some a) (IntKind.i64.wrap len).toNat (IntKind.i64.wrap cap).toNat))
        (do askRoom ((IntKind.i64.wrap cap).toNat * info.bytes)
            let n := (IntKind.i64.wrap cap).toNat * (<- sizeOf elem)
            let zero <- if n = 0 then pure #[] else do pure (<- zeroValue elem).cells
            let a <- newRow elem ((Array.range n).map (zero[· % zero.size]!))
            pure (.slice (some a) (IntKind.i64.wrap len).toNat (IntKind.i64.wrap cap).toNat)) := by
      refine gG (Fj _) λ_ _ _ => ?_
      refine jA (kp _) λn => ?_
      dsimp only
      refine kx ?_ ?_
      · exact gG (R := λa b => a = #[] /\ b = #[]) (gK ⟨rfl, rfl⟩) (λa b ⟨e1, e2⟩ => by subst e1; subst e2; exact ow _ _ _ _ (λi v h => by simp at h))
      · refine gG (mU _ (hz _ hu)) ?_
        rintro z z' ⟨e, hc⟩
        subst e
        exact gG (R := λa b => a = z.cells /\ b = z.cells) (gK ⟨rfl, rfl⟩) (λa b ⟨e1, e2⟩ => by subst e1; subst e2; exact ow _ _ _ _ hc.cells)
    refine kx ?_ hgo
    refine kx ?_ (kx ?_ ?_)
    all_goals first
      | (refine ky.bind (Φ := λ_ _ _ => False) (λ_ _ _ h => h.elim) (mE ?_); exact trivial)
      | skip
    refine jA (sN _) λn => ?_
    refine ky.bind (Φ := λ_ _ _ => False) (λ_ _ _ h => h.elim) (mE ?_)
    exact trivial
  · exact trivial
def Rg t:RG P E (λX' v v'=>V E X' v v') X (Instr.makeMap t none) (Instr.makeMap t none):=by unfold Instr.makeMap;refine pe (wE (.map #[] #[] 0 ⟨rfl,λi v v' h=>by simp at h⟩)) ?_;rintro Y r b⟨_,hr⟩;exact⟨_,rfl,.map _ _ hr⟩
def aj2 t(ht:∀d,P.underlying t=some d->(∀k e,d≠.map k e)/\∀a b,d≠.chan a b) ty{v v'}(hv:V E X v v'):RE P E (V E X) X (Builtin.len_ #[t] ty #[v]) (Builtin.len_ #[t] ty #[v']):=by
 unfold Builtin.len_;show RE P E (V E X) X (underlying t >>= λd=>_) (underlying t >>= λd=>_);refine gG (iR t) ?_;rintro d _⟨rfl,hu⟩;have iZ:=ht d hu;cases d with
 |array n e=>exact gK (.int _ _)|string=>cases hv with|string s=>exact gK (.int _ _)|_=>exact trivial
 |slice e=>cases hv with|lW n c=>exact gK (.int _ _)|slice=>exact gK (.int _ _)|_=>exact trivial
 |pointer arr=>refine jA (iY arr) λd2=>?_;split;exact gK (.int _ _);exact trivial|map k e=>exact absurd rfl (iZ.1 k e)
 |chan a b=>exact absurd rfl (iZ.2 a b)|_=>exact trivial
def jw{s}{f:α->Sem β}{a}(h:norm P s=.pure a):norm P (s >>= f)=norm P (f a):=by show norm P (s.bind f)=_;rw[kM P f s,h];rfl
theorem JF:∀s:Sem α,norm P (norm P s)=norm P s
 |.program k=>JF (k P)|.pure _|.load _ _ _|.store _ _ _ _|.new _ _|.shape _ _|.freeze _ _ _|.frozen _ _|.getObj _ _|.setObj _ _ _|.choose _ _|.sys _ _|.mark _ _|.halt _=>rfl
def qU{s}{f:α->Sem β}{a}(h:norm P s=.halt a):norm P (s >>= f)=.halt a:=by show norm P (s.bind f)=_;rw[kM P f s,h];rfl
def Cy{t}(hs:P.underlying t=some .string) em em' n m v v':RE P E (λ_ _=>True) X (Instr.checkKey em (n+1) t v) (Instr.checkKey em' (m+1) t v'):=by unfold Instr.checkKey;refine gG (iR t) ?_;rintro d _⟨rfl,hu⟩;rw[hs]at hu;cases hu;exact gK trivial
def Se{t}(hs:P.underlying t=some .string) x y:(∃a b,x=.string a/\y=.string b/\norm P (Op.equal t x y)=.pure (a==b))∨∃h,kP h/\norm P (Op.equal t x y)=.halt h:=by
 have:norm P (Op.equal t x y)=norm P (Op.equalIn Op.maxDepth t x y):=rfl;rw[this,show Op.maxDepth=(Op.maxDepth-1)+1 from rfl];unfold Op.equalIn;rw[jw (ml hs)];cases x with
 |string a=>cases y with|string b=>exact .inl ⟨a,b,rfl,rfl,rfl⟩|_=>(refine .inr ⟨_,?_,rfl⟩;exact trivial)
 |_=>(refine .inr ⟨_,?_,rfl⟩;exact trivial)
def FR(E:Env)(X:List Nat)(l l':List MapEntry)(i:Nat)(r r':Option (Nat×Value)):Prop:=r=none/\r'=none∨∃j v v' s,r=some (i+j,v)/\r'=some (i+j,v')/\V E X v v'/\(∃e e',l[j]? =some e/\l'[j]? =some e'/\e.key=.string s/\e'.key=.string s)
structure ML(E:Env)(X:List Nat)(l l':List MapEntry):Prop where
 size:l.length=l'.length
 el:∀(i:Nat)(v v':MapEntry),l[i]? =some v->l'[i]? =some v'->ME E X v v'
def MA.list{a a'}(h:MA E X a a'):ML E X a.toList a'.toList:=⟨by simpa using h.size,λi v v' h1 h2=>h.el i v v' aFV aFR⟩
theorem De{k k'}(hk:V E X k k'):∀l l' i,ML E X l l'->Instr.findNow .string k l i=none∨∃r r' s,Instr.findNow .string k l i=some r/\Instr.findNow .string k' l' i=some r'/\FR E X l l' i r r'/\(r≠none->k=.string s/\k'=.string s/\∀j v,r=some (i+j,v)->∃e e',l[j]? =some e/\l'[j]? =some e'/\e.key=.string s/\e'.key=.string s)
 |[],l',i,h=>by have:l'=[]:=aR (by have:=h.size;simpa using this.symm);subst this;exact .inr ⟨none,none,ByteArray.empty,rfl,rfl,.inl ⟨rfl,rfl⟩,λh=>absurd rfl h⟩|e::l,[],i,h=>by have:=h.size;simp at this|e::l,e'::l',i,h=>by
  have he:=h.el 0 e e' rfl rfl;unfold Instr.findNow;cases hk with
  |string s=>
   cases e with|mk key val born=>
   cases e' with|mk aBj atT az1=>
   cases he.key with
   |string s2=>
    have h1:Instr.sameNow .string (.string s) (.string s2)=some (s==s2):=rfl;dsimp only;rw[h1];cases hss:(s==s2)with
    |true=>
    obtain rfl:s=s2:=(Go.MapKept.bytes_beq s s2).1 hss;exact .inr ⟨_,_,s,rfl,rfl,.inr ⟨0,val,atT,s,rfl,rfl,he.val,_,_,rfl,rfl,rfl,rfl⟩,λ_=>⟨rfl,rfl,λj v hj=>by
    have:j=0:=by injection hj with hj;injection hj with hj _;omega
    subst this;exact⟨_,_,rfl,rfl,rfl,rfl⟩⟩⟩
    |false=>
    dsimp only;rcases De (.string s:V E X _ _) l l' (i+1) ⟨by have:=h.size;simpa using this,λj v v' a b=>h.el (j+1) v v' (by simpa using a) (by simpa using b)⟩with hn|⟨r,r',s3,h2,h3,h4,h5⟩;exact .inl hn;refine .inr ⟨r,r',s3,h2,h3,?_,λhr=>?_⟩;rcases h4 with⟨rfl,rfl⟩|⟨j,v,v',s4,rfl,rfl,hv,e1,e2,a1,a2,a3⟩;exact .inl ⟨rfl,rfl⟩;exact .inr ⟨j+1,v,v',s4,by rw[show i+1+j=i+(j+1)by omega],by rw[show i+1+j=i+(j+1)by omega],hv,e1,e2,by simpa using a1,by simpa using a2,a3⟩;obtain⟨b1,b2,b3⟩:=h5 hr;refine⟨b1,b2,λj v hj=>?_⟩;cases j with
    |zero=>rcases h4 with⟨rfl,rfl⟩|⟨j',v2,v2',s4,rfl,rfl,_⟩;exact absurd rfl hr;injection hj with hj;injection hj with hj _;omega
    |succ j=>obtain⟨x,x',c1,c2,c3⟩:=b3 j v (by rw[hj,show i+1+j=i+(j+1)by omega]);exact⟨x,x',by simpa using c1,by simpa using c2,c3⟩
   |_=>exact .inl rfl
  |_=>exact .inl rfl
theorem tC{t}(hs:P.underlying t=some .string) k:∀l i,Instr.findNow .string k l i=none->∃h,kP h/\norm P (Instr.findAsking t k l i)=.halt h
 |[],i,h=>by cases h
 |e::l,i,h=>by
  unfold Instr.findAsking;unfold Instr.findNow at h;rcases Se (P:=P) hs k e.key with⟨a,b,rfl,hb,he⟩|⟨x,u4,he⟩;rw[jw he];rw[hb]at h;have h1:Instr.sameNow .string (.string a) (.string b)=some (a==b):=rfl;rw[h1]at h;cases VX:(a==b)with
  |true=>rw[VX]at h;cases h
  |false=>rw[VX]at h;exact tC hs _ l (i+1) h
  exact⟨x,u4,qU he⟩
def Fh{t}(hs:P.underlying t=some .string){k k'}(hk:V E X k k'){l l'}(hl:ML E X l l'):RE P E (λr r'=>FR E X l l' 0 r r'/\(r≠none->∃s,k=.string s/\k'=.string s/\∀j v,r=some (j,v)->∃e e',l[j]? =some e/\l'[j]? =some e'/\e.key=.string s/\e'.key=.string s)) X (Instr.findKey t k l) (Instr.findKey t k' l'):=by unfold Instr.findKey;refine gG (iR t) ?_;rintro d _⟨rfl,hu⟩;rw[hs]at hu;cases hu;rcases De hk l l' 0 hl with hn|⟨r,r',s,h1,h2,h3,h4⟩;rw[hn];obtain⟨x,u4,hx⟩:=tC hs k l 0 hn;exact te (s:=.halt x) (by rw[hx];rfl) u4;rw[h1,h2];refine gK ⟨h3,λhr=>?_⟩;obtain⟨a,b,c⟩:=h4 hr;exact⟨s,a,b,λj v hj=>c j v aJe⟩
def Qc(P:Program)(t:TypeId):Prop:=∃k e,P.underlying t=some (.map k e)/\P.underlying k=some .string/\o9 P e
def Ys {t} (ht : Qc P t) {x x' i i'} (hx : V E X x x') (hi : V E X i i') ok : RE P E (V E X) X (Instr.lookup t x i ok) (Instr.lookup t x' i' ok) := by
  obtain ⟨k, e, h1, h2, h3⟩ := ht
  unfold Instr.lookup
  refine gG (iR t) ?_
  rintro d _ ⟨rfl, hu⟩
  rw [h1] at hu
  cases hu
  dsimp only
  have fin : ∀ a a', MA E X a a' -> RE P E (V E X) X
      (do Instr.checkKey a.isEmpty 10000 k i
          let (v, ok') <- match <- Instr.findKey k i a.toList with
            | some (_, v) => pure (v, true)
            | none => do pure (<- zeroValue e, false)
          pure (if ok then .tuple #[v, .bool ok'] else v))
      (do Instr.checkKey a'.isEmpty 10000 k i'
          let (v, ok') <- match <- Instr.findKey k i' a'.toList with
            | some (_, v) => pure (v, true)
            | none => do pure (<- zeroValue e, false)
          pure (if ok then .tuple #[v, .bool ok'] else v)) := by
    intro a a' ha
    refine gG (Cy h2 _ _ 9999 9999 _ _) λ_ _ _ => ?_
    refine gG (Fh h2 hi ha.list) ?_
    rintro r r' ⟨hr, _⟩
    have fin : ∀ v v' b, V E X v v' -> RE P E (V E X) X (pure (if ok = true then Value.tuple #[v, .bool b] else v)) (pure (if ok = true then Value.tuple #[v', .bool b] else v')) := by
      intro v v' b hv
      cases ok with
      | true => exact gK (V.lf ((VA.one hv).push (.bool b)))
      | false => exact gK hv
    rcases hr with ⟨rfl, rfl⟩ | ⟨j, v, v', s, rfl, rfl, hv, _⟩
    · refine gG (mU e h3) ?_
      rintro z z' ⟨rfl, hz⟩
      exact fin _ _ false (hz.self X)
    · exact fin _ _ true hv
  cases hx with
  | Gh => exact fin #[] #[] ⟨rfl, λi v v' h => by simp at h⟩
  | map r b h =>
    refine gG (mW h) λo o' ho => ?_
    cases ho with
    | map a a' n ha => exact fin a a' ha
    | _ => exact trivial
  | undef _ hf => exact trivial
  | _ => exact trivial
def MA.modify{a a'}(h:MA E X a a') i{f f'}(hf:∀e e',ME E X e e'->ME E X (f e) (f' e')):MA E X (a.modify i f) (a'.modify i f'):=by refine⟨by simp[h.size],λj x x' h1 h2=>?_⟩;rw[bd]at h1 h2;split at h1;rename_i hj;rw[if_pos hj]at h2;obtain⟨y,hy,rfl⟩:=aS.1 h1;obtain⟨y',hy',rfl⟩:=aS.1 h2;exact hf _ _ (h.el j y y' hy hy');rename_i hj;rw[if_neg hj]at h2;exact h.el j x x' h1 h2
def MA.push{a a'}(h:MA E X a a'){e e'}(he:ME E X e e'):MA E X (a.push e) (a'.push e'):=by refine⟨by simp[h.size],λi x x' h1 h2=>?_⟩;rw[du]at h1 h2;rw[<-h.size]at h2;split at h1;rename_i hi;rw[if_pos hi]at h2;cases h1;cases h2;exact he;rename_i hi;rw[if_neg hi]at h2;exact h.el i x x' h1 h2
def Dp s:Instr.sameBits 10000 (.string s) (.string s)=true:=by unfold Instr.sameBits;exact(Go.MapKept.bytes_beq s s).2 rfl
def KP{t}(ht:Qc P t){m m' k k' x x'}(hm:V E X m m')(hk:V E X k k')(hx:V E X x x'):RE P E (λ_ _=>True) X (Instr.mapUpdate t m k x) (Instr.mapUpdate t m' k' x'):=by
 obtain⟨kt,e,h1,h2,h3⟩:=ht;unfold Instr.mapUpdate;refine gG (iR t) ?_;rintro d _⟨rfl,hu⟩;rw[h1]at hu;cases hu;dsimp only;cases hm with
 |map r b h=>
  refine gG (mW h) λo o' ho=>?_;cases ho with
  |map a a' n ha=>
  dsimp only;refine gG (Cy h2 _ _ 9999 9999 _ _) λ_ _ _=>?_;refine gG (Fh h2 hk ha.list) ?_;rintro r1 r1'⟨hr,hs⟩;rcases hr with⟨rfl,rfl⟩|⟨j,v,v',s,rfl,rfl,hv,_⟩;exact AZ h (.map _ _ _ (ha.push ⟨hk,hx,rfl⟩));obtain⟨s,rfl,rfl,zU⟩:=hs ζ;obtain⟨e1,e1',a1,a2,a3,a4⟩:=zU _ v rfl;have b1:(((a[0+j]?).map (·.key)).getD (.string s):Value)=.string s:=by rw[show a[0+j]? =some e1 by simpa using a1];exact a3
  have b2:(((a'[0+j]?).map (·.key)).getD (.string s):Value)=.string s:=by rw[show a'[0+j]? =some e1' by simpa using a2];exact a4
  dsimp only;rw[b1,b2];have ig:(Instr.keyThatStays (.string s) (.string s):Sem Value)=pure (.string s):=by unfold Instr.keyThatStays;rw[Dp];rfl
  rw[ig];exact AZ h (.map _ _ _ (ha.modify _ λe e' he=>⟨.string s,hx,he.born⟩))
  |_=>exact trivial
 |undef _ hf=>exact trivial|_=>exact trivial
def abl {t} (ht : ∀ d, P.underlying t = some d -> ∃ k e, d = .map k e) {x x'} (hx : V E X x x') : RG P E (λX' v v' => V E X' v v') X (Instr.range t x) (Instr.range t x') := by
  unfold Instr.range
  refine gG (iR t) ?_
  rintro d _ ⟨rfl, hu⟩
  obtain ⟨k, e, rfl⟩ := ht d hu
  have fin : ∀ o o', sw E X o o' -> RG P E (λX' v v' => V E X' v v') X (do pure (.pointer (some ⟨<- newObj o, 0, none⟩)) : Sem Value) (do pure (.pointer (some ⟨<- newObj o', 0, none⟩)) : Sem Value) := by
    intro o o' ho
    refine pe (wE ho) ?_
    rintro Y r b ⟨_, hr⟩
    exact ⟨_, rfl, .ptr _ _ _ _ hr⟩
  cases hx with
  | Gh => exact fin _ _ (.JN 0 #[] 0)
  | map r b h =>
    refine gG (mW h) λo o' ho => ?_
    cases ho with
    | map a a' n ha => exact fin _ _ (.iter r b n #[] n h)
    | _ => exact trivial
  | _ => exact trivial
def MA.get{a a'}(h:MA E X a a')(i:Nat):(∃v v',a[i]? =some v/\a'[i]? =some v'/\ME E X v v')∨(a[i]? =none/\a'[i]? =none):=by exact t019
def ML.cons{e e' l l'}(h:ML E X (e::l) (e'::l')):ME E X e e'/\ML E X l l':=⟨h.el 0 e e' rfl rfl,by have:=h.size;simpa using this,λi v v' h1 h2=>h.el (i+1) v v' aFV aFR⟩
def ML.push{e e' l l'}(he:ME E X e e')(h:ML E X l l'):ML E X (e::l) (e'::l'):=⟨by simp[h.size],λi v v' h1 h2=>by
 cases i with
 |zero=>cases h1;cases h2;exact he
 |succ i=>exact h.el i v v' aFV aFR⟩
def ML.aks{l'}(h:ML E X [] l'):l'=[]:=aR (by have:=h.size;simpa using this.symm)
theorem ML.filter(p:Nat->Bool):∀ {l l':List MapEntry},ML E X l l'->ML E X (l.filter λe=>p e.born) (l'.filter λe=>p e.born)
 |[],l',h=>by rw[h.aks];exact⟨rfl,λi v v' h1=>by simp at h1⟩|e::l,[],h=>by have:=h.size;simp at this|e::l,e'::l',h=>by obtain⟨h1,h2⟩:=h.cons;rw[List.filter_cons,List.filter_cons,<-h1.born];split;exact(ML.filter p h2).push h1;exact ML.filter p h2
theorem ML.all(p:Nat->Bool):∀ {l l':List MapEntry},ML E X l l'->(l.all λe=>p e.born)=(l'.all λe=>p e.born)
 |[],l',h=>by rw[h.aks]|e::l,[],h=>by have:=h.size;simp at this|e::l,e'::l',h=>by obtain⟨h1,h2⟩:=h.cons;rw[bV,bV,h1.born,ML.all p h2]
theorem ML.find(p:Nat->Bool):∀ {l l':List MapEntry},ML E X l l'->(∃e e',l.find? (λe=>p e.born)=some e/\l'.find? (λe=>p e.born)=some e'/\ME E X e e')∨(l.find? (λe=>p e.born)=none/\l'.find? (λe=>p e.born)=none)
 |[],l',h=>by rw[h.aks];exact .inr ⟨rfl,rfl⟩|e::l,[],h=>by have:=h.size;simp at this|e::l,e'::l',h=>by obtain⟨h1,h2⟩:=h.cons;rw[List.find?_cons,List.find?_cons,<-h1.born];cases p e.born with|true=>exact .inl ⟨e,e',rfl,rfl,h1⟩|false=>exact ML.find p h2
def ML.ma{l l'}(h:ML E X l l'):MA E X l.toArray l'.toArray:=⟨by simpa using h.size,λi v v' h1 h2=>h.el i v v' aFV aFR⟩
def MA.filter(p:Nat->Bool){a a'}(h:MA E X a a'):MA E X (a.filter λe=>p e.born) (a'.filter λe=>p e.born):=by have:=(ML.filter p h.list).ma;rwa[<-Array.toList_filter,<-Array.toList_filter,ew,ew]at this
def MA.append{a a' b b'}(h:MA E X a a')(h':MA E X b b'):MA E X (a++b) (a'++b'):=by exact t032
def age{i i'}(hi:V E X i i') ty:RE P E (V E X) X (Instr.next i false ty) (Instr.next i' false ty):=by
 unfold Instr.next;have over:RE P E (V E X) X (pure (.tuple #[.bool false])) (pure (.tuple #[.bool false])):=gK (V.lf (VA.one (.bool false)));cases hi with
 |ptr r b off sp h=>
  cases off with|succ n=>exact trivial|zero=>
  refine gG (mW h) λo o' ho=>?_;cases ho with
  |JN s x n=>exact over|iter m m' s x n hm=>
   refine gG (mW hm) λo o' ho=>?_;cases ho with
   |map a a' c ha=>
   dsimp only;have pL:=ha.size;have IM:a.isEmpty=a'.isEmpty:=by simp[Array.isEmpty,pL]
   have ll:a.all (λe=>decide (e.born≥n))=a'.all (λe=>decide (e.born≥n)):=by rw[<-Array.all_toList,<-Array.all_toList];exact ML.all (λx=>decide (x≥n)) ha.list
   rw[IM,ll];refine kx trivial ?_;have aiZ:=ha.filter λy=> !x.contains y;have hold:=aiZ.filter λy=>decide (y<s);have ag5:=aiZ.filter λy=>decide (y≥s);have VV:=hold.append ag5;have hoe:((a.filter λe=> !x.contains e.born).filter λe=>decide (e.born<s)).isEmpty=((a'.filter λe=> !x.contains e.born).filter λe=>decide (e.born<s)).isEmpty:=by have:=hold.size;unfold Array.isEmpty;rw[this]
   rw[<-hoe];have auJ:∀pre:Array (Option MapEntry),(pre++(((a.filter λe=> !x.contains e.born).filter λe=>decide (e.born<s))++((a.filter λe=> !x.contains e.born).filter λe=>decide (e.born≥s))).map some).size=(pre++(((a'.filter λe=> !x.contains e.born).filter λe=>decide (e.born<s))++((a'.filter λe=> !x.contains e.born).filter λe=>decide (e.born≥s))).map some).size:=by intro pre;have:=VV.size;simp only[Array.size_append,Array.size_map]at this|-;omega
   rw[<-auJ];refine jA (sN _) λpick=>?_;have sq:∀pre:Array (Option MapEntry),(∀y∈pre,y=none)->((∃e e',(pre++(((a.filter λe=> !x.contains e.born).filter λe=>decide (e.born<s))++((a.filter λe=> !x.contains e.born).filter λe=>decide (e.born≥s))).map some)[pick]? =some (some e)/\(pre++(((a'.filter λe=> !x.contains e.born).filter λe=>decide (e.born<s))++((a'.filter λe=> !x.contains e.born).filter λe=>decide (e.born≥s))).map some)[pick]? =some (some e')/\ME E X e e')∨((pre++(((a.filter λe=> !x.contains e.born).filter λe=>decide (e.born<s))++((a.filter λe=> !x.contains e.born).filter λe=>decide (e.born≥s))).map some)[pick]? =some none/\(pre++(((a'.filter λe=> !x.contains e.born).filter λe=>decide (e.born<s))++((a'.filter λe=> !x.contains e.born).filter λe=>decide (e.born≥s))).map some)[pick]? =some none)∨(pre++(((a.filter λe=> !x.contains e.born).filter λe=>decide (e.born<s))++((a.filter λe=> !x.contains e.born).filter λe=>decide (e.born≥s))).map some)[pick]? =none):=by intro pre Zd;generalize((a.filter λe=> !x.contains e.born).filter λe=>decide (e.born<s))++((a.filter λe=> !x.contains e.born).filter λe=>decide (e.born≥s))=u at VV|-;generalize((a'.filter λe=> !x.contains e.born).filter λe=>decide (e.born<s))++((a'.filter λe=> !x.contains e.born).filter λe=>decide (e.born≥s))=u' at VV|-;rw[dK,dK];by_cases hp:pick<pre.size;rw[if_pos hp,if_pos hp,Array.getElem?_eq_getElem hp,Zd _ (Array.getElem_mem hp)];exact .inr (.inl ⟨rfl,rfl⟩);rw[if_neg hp,if_neg hp,bu,bu];rcases VV.get (pick-pre.size)with⟨e,e',h1,h2,h3⟩|⟨h1,h2⟩;rw[h1,h2];exact .inl ⟨e,e',rfl,rfl,h3⟩;rw[h1];exact .inr (.inr rfl)
   have Zd:∀y∈(if((a.filter λe=> !x.contains e.born).filter λe=>decide (e.born<s)).isEmpty=true then #[none]else #[]:Array (Option MapEntry)),y=none:=by intro y hy;split at hy;simpa using hy;simp at hy
   rcases sq _ Zd with⟨e,e',h1,h2,h3⟩|⟨h1,h2⟩|h1;rw[h1,h2];dsimp only;rw[<-h3.born];exact gG (AZ h (.iter _ _ _ _ _ hm)) λ_ _ _=>gK (V.lf (((VA.one (.bool true)).push h3.key).push h3.val));rw[h1,h2];exact over;rw[h1];exact trivial
   |_=>exact trivial
  |_=>exact trivial
 |_=>exact trivial
def aby{i i'}(hi:V E X i i'):RE P E (V E X) X (Instr.entry i) (Instr.entry i'):=by
 unfold Instr.entry;cases hi with
 |ptr r b off sp h=>
  cases off with|succ n=>exact trivial|zero=>
  refine gG (mW h) λo o' ho=>?_;cases ho with
  |iter m m' s x n hm=>
   dsimp only;cases x.back? with|none=>exact trivial|some st=>
   refine gG (mW hm) λo o' ho=>?_;cases ho with
   |map a a' c ha=>dsimp only;refine kx trivial ?_;have:=ML.find (λy=>y==st) ha.list;rw[Array.find?_toList,Array.find?_toList]at this;rcases this with⟨e,e',h1,h2,h3⟩|⟨h1,h2⟩;rw[h1,h2];exact gK (V.lf ((VA.one h3.key).push h3.val));rw[h1];exact trivial
   |_=>exact trivial
  |_=>exact trivial
 |_=>exact trivial
def abv{x x'}(hx:V E X x x'):RE P E Eq X (Builtin.lenOf x) (Builtin.lenOf x'):=by cases hx<;>first|exact trivial|exact gK rfl
def VA.clean{a}(h:∀(i:Nat) v,a[i]? =some v->Clean v):VA E X a a:=⟨rfl,λi v v' h1 h2=>by rw[h1]at h2;cases h2;exact(h i v h1).self X⟩
def rZ size n{x x'}(hx:V E X x x'):RE P E (VA E X) X (Builtin.firstCells size n x) (Builtin.firstCells size n x'):=by
 cases hx with
 |string s=>refine gK (VA.clean λi v h=>?_);rw[bu]at h;obtain⟨b,_,rfl⟩:=aS.1 h;exact .int _ _
 |lW n c=>exact gK (VA.empty X)|slice r b off sp n c h=>exact tV (a:=⟨r,off,sp⟩) (a':=⟨b,off,sp⟩) ⟨h,rfl,rfl⟩ _
 |_=>exact trivial
def VA.zeroCells{z}(hz:∀(i:Nat) v,z[i]? =some v->Clean v) n:VA E X (Builtin.zeroCells z n) (Builtin.zeroCells z n):=by unfold Builtin.zeroCells;refine VA.clean λi v h=>?_;rw[bu]at h;obtain⟨b,hb,rfl⟩:=aS.1 h;by_cases h0:z.size=0;rw[h0,eX]at hb;simp at hb;have gV:b % z.size<z.size:=eD _ ω;refine hz (b % z.size) _ ?_;rw[getElem!_pos z _ gV,Array.getElem?_eq_getElem gV]
theorem jR.rg:∀ {s s':Sem α}{Ψ:List Nat->α->α->Prop},jR P s->RG P E Ψ X s s'
 |.program k,s',Ψ,h=>jR.rg (s:=k P) h|.shape r k,s',Ψ,h=>.inr h|.frozen r k,s',Ψ,h=>h|.mark m k,s',Ψ,h=>.inr h|.halt x,_,_,h=>h|.pure _,_,_,h|.load _ _ _,_,_,h|.store _ _ _ _,_,_,h|.new _ _,_,_,h|.getObj _ _,_,_,h|.setObj _ _ _,_,_,h|.choose _ _,_,_,h|.sys _ _,_,_,h|.freeze _ _ _,_,_,h=>h.elim
inductive Looks(P:Program):∀ {α:Type},Sem α->Prop
 |pure {α:Type} (a:α):Looks P (.pure a)
 |shape {α:Type} (r:Nat) (k:Option (TypeId×Nat)->Sem α) (h:∀z,Looks P (k z)):Looks P (.shape r k)
 |frozen {α:Type} (r:Addr) (k:Bool->Sem α) (h:∀z,Looks P (k z)):Looks P (.frozen r k)
def Looks.ade{s}(h:Looks P s){f:α->Sem β}(hf:∀a,jR P (f a)):jR P (s >>= f):=by induction h with|pure a=>exact hf a|shape r k _ ih=>exact λz=>ih z|frozen r k _ ih=>exact λz=>ih z
def Looks.bind{s}(h:Looks P s){f:α->Sem β}(hf:∀a,Looks P (f a)):Looks P (s >>= f):=by induction h with|pure a=>exact hf a|shape r k _ ih=>exact .shape _ _ λz=>ih z|frozen r k _ ih=>exact .frozen _ _ λz=>ih z
def CQ a n:Looks P (Builtin.holdsCells a n):=by unfold Builtin.holdsCells;refine .shape _ _ λz=>?_;cases z<;>exact .pure _
def Gk size zi n base x : Looks P (Builtin.mayShare size zi n base x) := by
  unfold Builtin.mayShare
  have h2 : Looks P (match x with | .slice (some b) _ _ => do pure (!(<- Builtin.holdsCells b (n * size)) || base.any (·.block == b.block)) | _ => pure false : Sem Bool) := by
    split
    · exact (CQ _ _).bind λ_ => .pure _
    · exact .pure _
  dsimp only
  cases base with
  | none => exact h2
  | some a =>
    refine (CQ _ _).bind λb => (Looks.frozen _ _ λ_ => .pure _ : Looks P (frozen _)).bind λb2 => ?_
    show Looks P (if (!(b && !b2)) = true then _ else _)
    split
    · exact .pure _
    · exact h2
structure Ws(P:Program)(t u:TypeId):Prop where
 zero:∀e,P.underlying t=some (.slice e)->o9 P e
 XK:∃d,P.underlying u=some d/\∀k,d≠.int k
def Ct{t u}(jo:Ws P t u) ty{base aeb}(hb:AO E X base aeb) zi af6{x x'}(hx:V E X x x'):RG P E (λX' v v'=>V E X' v v') X (Builtin.append_ #[t,u] ty #[.slice base zi af6,x]) (Builtin.append_ #[t,u] ty #[.slice aeb zi af6,x']):=by
 obtain⟨hz,d2,pZ,VS⟩:=jo;unfold Builtin.append_;simp only[cN,List.getElem?_cons_zero,cW];refine gG (iR t) ?_;rintro d _⟨rfl,hu⟩;have hsv:V E X (.slice base zi af6) (.slice aeb zi af6):=by rcases hb with⟨rfl,rfl⟩|⟨b,b',rfl,rfl,hb⟩;exact .lW _ _;rw[hb.eq];exact .slice _ _ _ _ _ _ hb.1
 cases d with
 |slice elem=>
 dsimp only;have hz:=hz elem hu;refine jA (kp elem) λsize=>?_;refine gG (iR u) ?_;rintro d _⟨rfl,hu3⟩;rw[pZ]at hu3;cases hu3;have hf:∀d:TypeDesc,(∀k,d≠.int k)->(match d with|.int _=>true|_=>false)=false:=by intro d hd;cases d<;>first|rfl|exact absurd rfl (hd _)
 refine gG (R:=λa b=>a=false/\b=false) (gK ⟨hf _ VS,hf _ VS⟩) ?_;rintro _ _⟨rfl,rfl⟩;simp only[Bool.false_eq_true,if_false,dU,if_true];refine gG (R:=Eq) (abv hx) ?_;rintro n _ rfl;refine kx ?_ ?_;refine gG (rZ size n hx) λc c' hc=>?_;rcases hb with⟨rfl,rfl⟩|⟨b,b',rfl,rfl,hb⟩;exact zq (gK (.lW _ _)) λ_ _ h=>h;refine gG (rX (hb.add _) _ _ 0 (by simpa using hc)) λ_ _ _=>?_;rw[hb.eq];exact zq (gK (.slice _ _ _ _ _ _ hb.1)) λ_ _ h=>h;refine jA (mV elem) λinfo=>?_;refine kx ?_ ?_;refine ky.bind (Φ:=λ_ _ _=>False) (λ_ _ _ h=>h.elim) (mE ?_);exact trivial;refine jA (mV elem) λinfo=>?_;refine kx ?_ ?_;refine jR.rg (jR.bind ((Gk _ _ _ _ _).ade λb=>?_));split<;>exact trivial;refine jA (sN _) λaua=>?_;refine jA (mV elem) λinfo=>?_;refine gG (Fj _) λ_ _ _=>?_;refine gG (rZ size zi hsv) λc c' hc=>?_;refine gG (rZ size n hx) λe e' he=>?_;refine gG (mU elem hz) ?_;rintro z z'⟨rfl,tu⟩;refine pe (wD elem ((hc.append he).append (VA.zeroCells tu.cells _))) ?_;rintro Y r r'⟨_,hr⟩;rw[hr.eq];exact⟨_,rfl,.slice _ _ _ _ _ _ hr.1⟩
 |_=>exact trivial
def Ym{t u}(jo:Ws P t u) ty{s s' x x'}(hs:V E X s s')(hx:V E X x x'):RG P E (λX' v v'=>V E X' v v') X (Builtin.append_ #[t,u] ty #[s,x]) (Builtin.append_ #[t,u] ty #[s',x']):=by
 have ade:(∀b n c,s≠.slice b n c)->∀s',RG P E (λX' v v'=>V E X' v v') X (Builtin.append_ #[t,u] ty #[s,x]) s':=by
  intro hn s';refine te (s:=norm P (Builtin.append_ #[t,u] ty #[s,x])) (JF _) ?_;unfold Builtin.append_;simp only[cN,List.getElem?_cons_zero,cW];cases hu:P.underlying t with
  |none=>
  have:∃h,kP h/\norm P (underlying t)=.halt h:=by
   unfold underlying;rw[jw (a:=P) rfl,hu]
   (refine⟨_,?_,rfl⟩;exact trivial)
  obtain⟨h,u4,this⟩:=this;rw[qU this];exact u4
  |some d=>
  rw[jw (ml hu)];cases d with
  |slice elem=>cases s<;>first|exact trivial|exact absurd rfl (hn _ _ _)
  |_=>exact trivial
 cases hs with|lW n c=>exact Ct jo ty (.inl ⟨rfl,rfl⟩) n c hx|slice r b off sp n c h=>exact Ct jo ty (ao h) n c hx|_=>exact ade (by intros;simp) _
inductive NX(E:Env)(X:List Nat):Next->Next->Prop
 |value (v v':Value) (h:V E X v v'):NX E X (.value v) (.value v')
 |skip:NX E X .skip .skip
 |enter (f:FuncId) (a a':Array Value) (hF:E.F f) (h:VA E X a a'):NX E X (.enter f a) (.enter f a')
def py {s s'} (h : RG P E (λX' v v' => V E X' v v') X s s') : RG P E (NX E) X (do pure (.value (<- s))) (do pure (.value (<- s'))) := pe h λY v v' hv => mT (.value _ _ hv)
def mi {s s'} (h : RE P E (V E X) X s s') : RG P E (NX E) X (do pure (.value (<- s))) (do pure (.value (<- s'))) := gG h λv v' hv => mT (.value _ _ hv)
def U6 {s s'} (h : RE P E (λ_ _ => True) X s s') : RG P E (NX E) X (do s; pure .skip) (do s'; pure .skip) := gG h λ_ _ _ => mT .skip
def Bod(P:Program)(E:Env):Prop:=∀(f:Nat)(fn:Func),E.F f->P.funcs[f]? =some fn->fn.body.isNone=false/\(fn.name== "runtime.NumGoroutine")=false
def Nk(hB:Bod P E) f(hF:E.F f){a a'}(ha:VA E X a a'):RG P E (NX E) X (callFunc f a) (callFunc f a'):=by unfold callFunc;refine wF ?_;cases hf:P.funcs[f]? with|none=>exact trivial|some fn=>obtain⟨h1,h2⟩:=hB f fn hF hf;dsimp only;rw[h1,h2];simp only[Bool.false_eq_true,if_false];exact mT (.enter _ _ _ hF ha)
def VA.Sy{ev Es}{Q:Operand->Prop}(mm:∀x,Q x->V E X (ev x) (Es x))(l:Array Operand)(h:∀x∈l,Q x):VA E X (l.map ev) (l.map Es):=VA.map ev Es l λx hx=>mm x (h x hx)
def NJ args : ∃ h, kP h /\ norm P (do let d <- Deferred.ofValue (.func (.method "") #[.nilIface] #[]) args; invoke d.target d.args : Sem Next) = .halt h := by
  have h1 : (#[Value.nilIface] ++ args)[0]? = some .nilIface := by rw [dW ζ]; rfl
  rw [jw (a := { target := .fn (.method "") #[], args := #[.nilIface] ++ args }) rfl]
  unfold invoke
  dsimp only
  rw [h1]
  (refine ⟨_, ?_, rfl⟩; exact trivial)
def Uo(P:Program)(Q:Operand->Prop)(c:Call):Prop:=(∀x∈c.args,Q x)/\match c.callee with
 |.value f=>Q f
 |.builtin .len=>∃t x,c.argTypes=#[t]/\c.args=#[x]/\∀d,P.underlying t=some d->(∀k e,d≠.map k e)/\∀a b,d≠.chan a b
 |.builtin .append=>∃t u x y,c.argTypes=#[t,u]/\c.args=#[x,y]/\Ws P t u
 |_=>False
def agb (hB : Bod P E) {Q ev Es} (mm : ∀ x, Q x -> V E X (ev x) (Es x)) c (hc : Uo P Q c) ty : RG P E (NX E) X (do let d <- resolve ev c ty; invoke d.target d.args) (do let d <- resolve Es c ty; invoke d.target d.args) := by
  obtain ⟨callee, args, argTypes⟩ := c
  obtain ⟨h1, h2⟩ := hc
  have ada := VA.Sy mm args h1
  unfold resolve
  cases callee with
  | value f =>
    dsimp only
    have hf := mm f h2
    revert hf
    generalize ev f = v
    generalize Es f = v'
    intro hf
    cases hf with
    | func g a a' c c' hF e1 e2 e3 e4 =>
      show RG P E (NX E) X (callFunc g _) (callFunc g _)
      exact Nk hB g hF (((VA.mk e1 e2 : VA E X a a').append ada).append ⟨e3, e4⟩)
    | nilFunc => exact mE (e := .nilDeref) (e' := .nilDeref) trivial
    | undef _ h =>
      obtain ⟨h0, u4, hh⟩ := NJ (P := P) (args.map ev)
      exact te (s := .halt h0) hh.symm u4
    | _ => exact trivial
  | builtin b =>
    cases b with
    | len =>
      obtain ⟨t, x, e1, e2, h3⟩ := h2
      dsimp only at e1 e2
      subst e1; subst e2
      have hx := mm x (h1 x ζ)
      show RG P E (NX E) X (do pure (.value (<- Builtin.len_ #[t] ty (#[x].map ev)))) (do pure (.value (<- Builtin.len_ #[t] ty (#[x].map Es))))
      rw [show (#[x].map ev : Array Value) = #[ev x] by simp, show (#[x].map Es : Array Value) = #[Es x] by simp]
      exact mi (aj2 t h3 ty hx)
    | append =>
      obtain ⟨t, u, x, y, e1, e2, h3⟩ := h2
      dsimp only at e1 e2
      subst e1; subst e2
      have hx := mm x (h1 x ζ)
      have hy := mm y (h1 y ζ)
      show RG P E (NX E) X (do pure (.value (<- Builtin.append_ #[t, u] ty (#[x, y].map ev)))) (do pure (.value (<- Builtin.append_ #[t, u] ty (#[x, y].map Es))))
      rw [show (#[x, y].map ev : Array Value) = #[ev x, ev y] by simp, show (#[x, y].map Es : Array Value) = #[Es x, Es y] by simp]
      exact py (Ym h3 ty hx hy)
    | _ => exact h2.elim
  | invoke r n => exact h2.elim
def QO(Q:Operand->Prop):Option Operand->Prop
 |none=>True|some x=>Q x
def ah4(P:Program)(E:Env)(Q:Operand->Prop)(o:Oper):Prop:=match o.op with
 |.move x|.assign x|.nilCheck x|.load _ x|.box _ x|.extract x _|.entry x=>Q x
 |.pick c a b=>Q c/\Q a/\Q b
 |.alloc e=>o9 P e
 |.build t l=>o9 P t/\∀x∈l,Q x.2
 |.buildSlice t _ l=>(∀e,P.underlying t=some (.slice e)->o9 P e)/\∀x∈l,Q x.2
 |.store _ a x=>Q a/\Q x
 |.binOp op _ x y _=>Ap op/\Q x/\Q y
 |.convert s d x=>Un P s d/\Q x
 |.makeFunc (.func f) a c=>E.F f/\(∀x∈a,Q x)/\∀x∈c,Q x
 |.makeMap _ none=>True
 |.makeSlice t l c=>(∀e,P.underlying t=some (.slice e)->o9 P e)/\Q l/\Q c
 |.slice _ x a b c=>Q x/\QO Q a/\QO Q b/\QO Q c
 |.fieldAddr t x _=>Mg P t/\Q x
 |.indexAddr _ x i|.index _ x i=>Q x/\Q i
 |.lookup t x i _=>Qc P t/\Q x/\Q i
 |.mapUpdate t m k x=>Qc P t/\Q m/\Q k/\Q x
 |.range t x=>(∀d,P.underlying t=some d->∃k e,d=.map k e)/\Q x
 |.next x s=>s=false/\Q x
 |.call c=>Uo P Q c
 |_=>False
def PR.of{ev Es:Operand->Value}{Q:Operand->Prop}(mm:∀x,Q x->V E X (ev x) (Es x))(l:Array (Nat×Operand))(h:∀x∈l,Q x.2):PR E X (l.map λ(i,x)=>(i,ev x)) (l.map λ(i,x)=>(i,Es x)):=by
 refine⟨by simp,λi p p' h1 h2=>?_⟩;rw[bu]at h1 h2;cases hl:l[i]? with
 |none=>rw[hl]at h1;cases h1
 |some y=>rw[hl]at h1 h2;cases h1;cases h2;exact⟨rfl,mm _ (h _ (Array.mem_of_getElem? hl))⟩
theorem VO.of{ev Es Q}(mm:∀x,Q x->V E X (ev x) (Es x)):∀x,QO Q x->VO E X (x.map ev) (x.map Es)
 |Option.none,_=>.none|Option.some x,h=>.some (mm x h)
def Yl(hB:Bod P E)(hG:P.globals.size<=E.G){Q ev Es}(mm:∀x,Q x->V E X (ev x) (Es x)) o(ho:ah4 P E Q o):RG P E (NX E) X (execOp ev o) (execOp Es o):=by
 obtain⟨dst,op,type,pos⟩:=o;cases op with
 |move x=>exact mT (.value _ _ (mm x ho))|assign x=>exact mT (.value _ _ (mm x ho))
 |pick c a b=>obtain⟨h1,h2,h3⟩:=ho;refine gG (R:=Eq) (Yx (mm c h1)) ?_;rintro b' _ rfl;cases b' with|true=>exact mT (.value _ _ (mm a h2))|false=>exact mT (.value _ _ (mm b h3))
 |alloc e=>exact py (abo e ho)|box e x=>exact py (ajZ e (mm x ho))
 |build t l=>exact mi (abz t ho.1 (PR.of mm l ho.2))|buildSlice t n l=>exact py (Is t ho.1 n (PR.of mm l ho.2))
 |load t a=>exact mi (Yt t (mm a ho))|store t a x=>exact U6 (Rm t (mm a ho.1) (mm x ho.2))
 |nilCheck x=>have hx:=mm x ho;unfold execOp;dsimp only;revert hx;generalize ev x=v;generalize Es x=v';intro hx;cases hx with|ptrN=>exact mE (e:=.nilDeref) (e':=.nilDeref) trivial|nilIface=>exact mE (e:=.nilDeref) (e':=.nilDeref) trivial|nilFunc=>exact mE (e:=.nilDeref) (e':=.nilDeref) trivial|undef _ h=>exact trivial|ptr r b o s h=>exact mT (.value _ _ (.ptr r b o s h))|func f a a' c c' hF h1 h2 h3 h4=>exact mT (.value _ _ (.func f a a' c c' hF h1 h2 h3 h4))|_=>exact mT (.value _ _ (by constructor<;>assumption))
 |binOp op t x y t2=>
 have hg:∀a b,(eqGuard op t x y a b:Sem Unit)=pure ():=by intro a b;have:=ho.1;cases op<;>first|exact ho.1.elim|rfl
 unfold execOp;dsimp only;rw[hg,hg];exact py (abm op ho.1 t hG (mm x ho.2.1) (mm y ho.2.2))
 |convert s d x=>exact mi (Ry s d ho.1 (mm x ho.2))|makeFunc fn a c=>cases fn with|func f=>have h1:=VA.Sy mm a ho.2.1;have h2:=VA.Sy mm c ho.2.2;exact mT (.value _ _ (.func f _ _ _ _ ho.1 h1.size h1.el h2.size h2.el))|_=>exact ho.elim
 |makeMap t r=>cases r with|none=>exact py (Rg t)|some r=>exact ho.elim
 |makeSlice t l c=>exact py (KG t ho.1 (mm l ho.2.1) (mm c ho.2.2))|slice t x a b c=>exact mi (Ro t (mm x ho.1) (VO.of mm a ho.2.1) (VO.of mm b ho.2.2.1) (VO.of mm c ho.2.2.2))
 |fieldAddr t x i=>exact mi (Rw t ho.1 (mm x ho.2) i)|indexAddr t x i=>exact mi (Rv t (mm x ho.1) (mm i ho.2))
 |index t x i=>exact mi (abx t (mm x ho.1) (mm i ho.2))|lookup t x i ok=>exact mi (Ys ho.1 (mm x ho.2.1) (mm i ho.2.2) ok)
 |mapUpdate t m k x=>exact U6 (KP ho.1 (mm m ho.2.1) (mm k ho.2.2.1) (mm x ho.2.2.2))|range t x=>exact py (abl ho.1 (mm x ho.2))
 |next x s=>obtain⟨rfl,h2⟩:=ho;exact mi (age (mm x h2) type)
 |entry x=>exact mi (aby (mm x ho))|extract x i=>exact mi (Rx i (mm x ho))
 |call c=>exact agb hB mm c ho type|_=>exact ho.elim
end
end Rn
