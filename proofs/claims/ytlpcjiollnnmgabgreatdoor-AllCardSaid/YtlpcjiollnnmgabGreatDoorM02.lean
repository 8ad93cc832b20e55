import Derived.Test.YtlpcjiollnnmgabGreatDoorM01
import Derived.Conc.Beside
import Derived.Conc.CrowdComm
set_option maxRecDepth 100000
set_option maxHeartbeats 8000000
set_option linter.all false
def Go.Item.ady:Go.Item->Prop
 |.call ..=>False|.extern row _=>row= "runtime.print$piece"|_=>True
namespace Go.Proofs.YtlpcjiollnnmgabGreatDoor
def t0111{p:Prop}(h:p:=by exact .inr ⟨_,λu=>.go _ u #[],hE,hB,λ_ _=>rfl,rfl,lQ.go (h.finish _) rfl rfl⟩):p:=h
def t098{p:Prop}(h:p:=by unfold endPrinting;dsimp only;split;exact .inr ⟨rfl,_,rfl,λh=>by cases h⟩;exact trivial):p:=h
def t08{p:Prop}(h:p:=by refine .inl ⟨k+1,by rw[k0,i.drawn];show w.drawn+1+k=_;omega,by rw[k0,i.tape],by rw[k0];exact i.size,by rw[k0];exact i.low,by rw[k0];exact i.bal,by rw[k0];exact i.kind,λτ n ha=>?_⟩;have e:τ n=w.tape w.drawn:=ha 0 ω;rw[k1 τ n,show(w.re τ n).tape (w.re τ n).drawn=τ n from rfl,e,hcut,k0];have:=i.same τ (n+1) (λj hj=>by have:=ha (j+1) ω;rw[show n+1+j=n+(j+1)by omega,this];show w.tape _=w.tape _;congr 1;show w.drawn+(j+1)=w.drawn+1+j;omega);rw[show n+(k+1)=n+1+k by omega];exact this):p:=h
namespace Tp
def gW:GStep->World
 |.go _ w _|.comm _ _ _ _ w _|.spawn _ _ w _|.count _ w _|.timer _ _ w _|.alone _ _ w _|.newcoro _ _ _ w _|.coroswitch _ _ _ w _|.collect _ w _|.watch _ w _|.ended _ w _=>w
def gE:GStep->Array Event
 |.go _ _ es|.comm _ _ _ _ _ es|.spawn _ _ _ es|.count _ _ es|.timer _ _ _ es|.alone _ _ _ es|.newcoro _ _ _ _ es|.coroswitch _ _ _ _ es|.collect _ _ es|.watch _ _ es|.ended _ _ es=>es
def reG(τ:Nat->Question->Nat)(n:Nat):GStep->GStep
 |.go g w es=>.go g (w.re τ n) es|.comm g a b c w es=>.comm g a b c (w.re τ n) es|.spawn g c w es=>.spawn g c (w.re τ n) es|.count g w es=>.count g (w.re τ n) es|.timer g o w es=>.timer g o (w.re τ n) es|.alone g o w es=>.alone g o (w.re τ n) es|.newcoro g c d w es=>.newcoro g c d (w.re τ n) es|.coroswitch g c b w es=>.coroswitch g c b (w.re τ n) es|.collect g w es=>.collect g (w.re τ n) es|.watch g w es=>.watch g (w.re τ n) es|.ended o w es=>.ended o (w.re τ n) es
def iU(l:List Item):Prop:=∀it∈l,it.ady
def m5(cs:List Frame):Prop:=∀c∈cs,iU c.todo
def bot:Frame->List Frame->CallKind
 |fr,[]=>fr.kind|_,c::cs=>bot c cs
theorem PW{fr fr'}(h:fr'.kind=fr.kind):∀cs,bot fr' cs=bot fr cs
 |[]=>h|_::_=>rfl
structure ji(dy:Option Dying)(fr:Frame)(cs:List Frame):Prop where
 todo:iU fr.todo
 rest:m5 cs
 low:dy.isSome=true->bot fr cs=.report
def iU.tail{x k}(h:iU (x::k)):iU k:=λit hi=>h it (aF _ hi)
def iU.cons{x k}(h:x.ady)(hk:iU k):iU (x::k):=λit hi=>by rcases List.mem_cons.1 hi with rfl|hi;exact h;exact hk it hi
def iU.nil:iU []:=λ_ h=>by cases h
def m5.cons{c cs}(h:iU c.todo)(hc:m5 cs):m5 (c::cs):=λx hx=>by rcases List.mem_cons.1 hx with rfl|hx;exact h;exact hc x hx
def m5.tail{c cs}(h:m5 (c::cs)):m5 cs:=λx hx=>h x (aF _ hx)
def m5.head{c cs}(h:m5 (c::cs)):iU c.todo:=h c aH
def Dd{fr:Frame}(h:iU fr.todo) v:iU (fr.finish v).todo:=by unfold Frame.finish;split;rename_i hh;rw[hh]at h;exact iU.cons trivial h.tail;rename_i hh;rw[hh]at h;exact iU.cons trivial h.tail;rename_i hh;rw[hh]at h;exact h.tail;rename_i hh;rw[hh]at h;exact(h _ aH).elim;rename_i hh;rw[hh]at h;exact h.tail;exact h
def TE{fr:Frame}(h:iU fr.todo) l:iU (fr.raise l).todo:=by unfold Frame.raise;split<;>exact h
def nK P f args k:iU (Frame.enter P f args k).todo:=iU.cons trivial .nil
def GP l f t a b k:iU (Frame.round l f t a b k).todo:=iU.cons trivial (iU.cons trivial (iU.cons trivial .nil))
def Ab{fr}:∀ {cs:List Frame}{v:Value}{lT:List Frame},m5 cs->tryRecover fr cs=some (v,lT)->m5 lT:=by
 intro cs;induction cs generalizing fr with
 |nil=>intro v lT _ h;unfold tryRecover at h;cases hk:fr.kind<;>simp[hk]at h
 |cons c cs ih=>
 intro v lT hc h;unfold tryRecover at h;cases hk:fr.kind<;>simp only[hk]at h<;>try cases h
 split at h;cases h;exact m5.cons (show iU c.todo from hc.head) hc.tail;cases h;obtain⟨⟨v1,r1⟩,h1,h2⟩:=aS.1 h;cases h2;exact m5.cons hc.head (ih hc.tail h1)
def BS:∀ {cs:List Frame}{l:Nat}{v:Value}{lT:List Frame},m5 cs->tryRecoverLoop l cs=some (v,lT)->m5 lT:=by
 intro cs;induction cs with
 |nil=>intro l v lT _ h;cases h
 |cons c cs ih=>intro l v lT hc h;unfold tryRecoverLoop at h;obtain⟨⟨v1,r1⟩,h1,h2⟩:=aS.1 h;cases h2;refine m5.cons hc.head ?_;split at h1;exact ih hc.tail h1;split at h1;exact Ab hc.tail h1;exact ih hc.tail h1;exact ih hc.tail h1
theorem BU{id}:∀ {k k':List Item},iU k->exitTo id k=some k'->iU k'
 |[],_,_,h=>by cases h
 |it::k,k',hf,h=>by unfold exitTo at h;split at h;rename_i hh;cases hh;split at h;cases h;exact hf.tail;exact BU hf.tail h;rename_i hh;cases hh;exact BU hf.tail h;cases h
theorem BT{l}:∀ {k k':List Item},iU k->gotoIn l k=some k'->iU k'
 |[],_,_,h=>by cases h
 |it::k,k',hf,h=>by unfold gotoIn at h;split at h;rename_i hh;cases hh;split at h;cases h;exact iU.cons trivial (iU.cons trivial hf.tail);exact BT hf.tail h;rename_i hh;cases hh;exact BT hf.tail h;cases h
def Dc(fr:Frame) v:(fr.finish v).kind=fr.kind:=by unfold Frame.finish;split<;>rfl
def RF(fr:Frame) l:(fr.raise l).kind=fr.kind:=by unfold Frame.raise;split<;>rfl
def Dh{fr}:∀ {cs:List Frame}{v:Value}{lT:List Frame}(f:Frame),tryRecover fr cs=some (v,lT)->bot f lT=bot f cs:=by
 intro cs;induction cs generalizing fr with
 |nil=>intro v lT f h;unfold tryRecover at h;cases hk:fr.kind<;>simp[hk]at h
 |cons c cs ih=>
 intro v lT f h;unfold tryRecover at h;cases hk:fr.kind<;>simp only[hk]at h<;>try cases h
 split at h;cases h;show bot {c with mode:=_} cs=bot c cs;cases cs<;>rfl;cases h;obtain⟨⟨v1,r1⟩,h1,h2⟩:=aS.1 h;cases h2;exact ih c h1
def DW:∀ {cs:List Frame}{l:Nat}{v:Value}{lT:List Frame}(f:Frame),tryRecoverLoop l cs=some (v,lT)->bot f lT=bot f cs:=by
 intro cs;induction cs with
 |nil=>intro l v lT f h;cases h
 |cons c cs ih=>intro l v lT f h;unfold tryRecoverLoop at h;obtain⟨⟨v1,r1⟩,h1,h2⟩:=aS.1 h;cases h2;show bot c r1=bot c cs;split at h1;exact ih c h1;split at h1;exact Dh c h1;exact ih c h1;exact ih c h1
section
variable{dy:Option Dying}{fr:Frame}{cs:List Frame}
def ji.same(h:ji dy fr cs){fr'}(ht:fr'.todo=fr.todo)(hk:fr'.kind=fr.kind):ji dy fr' cs:=⟨by rw[ht];exact h.todo,h.rest,λhd=>(PW hk cs).trans (h.low hd)⟩
def ji.with(h:ji dy fr cs){fr'}(ht:iU fr'.todo)(hk:fr'.kind=fr.kind):ji dy fr' cs:=⟨ht,h.rest,λhd=>(PW hk cs).trans (h.low hd)⟩
def ji.finish(h:ji dy fr cs) v:ji dy (fr.finish v) cs:=h.with (Dd h.todo v) (Dc fr v)
def ji.raise(h:ji dy fr cs) l:ji dy (fr.raise l) cs:=h.with (TE h.todo l) (RF fr l)
def ji.push(h:ji dy fr cs){c}(hc:iU c.todo):ji dy c (fr::cs):=⟨hc,m5.cons h.todo h.rest,h.low⟩
def ji.pop{c}(h:ji dy fr (c::cs)):ji dy c cs:=⟨h.rest.head,h.rest.tail,h.low⟩
def ji.recover(h:ji dy fr cs){v lT}(hx:tryRecover fr cs=some (v,lT)):ji dy fr lT:=⟨h.todo,Ab h.rest hx,λhd=>(Dh fr hx).trans (h.low hd)⟩
def ji.Nr(h:ji dy fr cs){l v lT}(hx:tryRecoverLoop l cs=some (v,lT)):ji dy fr lT:=⟨h.todo,BS h.rest hx,λhd=>(DW fr hx).trans (h.low hd)⟩
def ji.aj4(h:ji dy fr cs){c}(hc:iU c.todo) l(hl:m5 l):ji dy c (l++fr::cs):=by
 refine⟨hc,λx hx=>?_,λhd=>?_⟩;rcases bx.1 hx with hx|hx;exact hl x hx;exact m5.cons h.todo h.rest x hx;have:∀(l:List Frame)(c:Frame),bot c (l++fr::cs)=bot fr cs:=by intro l;induction l with|nil=>intro c;rfl|cons a l ih=>intro c;exact ih a
 rw[this];exact h.low hd
end
def arV(g:Goroutine):Prop:=∃d,g.dying=some d/\(d.calling=true->ji (some d) g.frame g.callers)
def Wo:GStep->Prop
 |.ended _ _ _=>True|.go g _ _=>(g.status=.blocked∨g.status=.waiting∨g.status=.finished)∨(g.status=.running/\arV g)|_=>False
def Kind(dy:Option Dying):GStep->Prop
 |.go g _ _=>ji dy g.frame g.callers/\g.dying=dy/\g.status=.running|.comm g _ _ _ _ _=>ji dy g.frame g.callers/\g.dying=dy/\g.status=.running|.coroswitch g _ b _ _=>ji dy g.frame g.callers/\g.dying=dy/\g.status=.running/\b=true|.spawn _ _ _ _|.ended _ _ _=>True|_=>False
structure GRe(dy:Option Dying)(f:World->GStep)(w:World)(k:Nat):Prop where
 drawn:(gW (f w)).drawn=w.drawn+k
 tape:(gW (f w)).tape=w.tape
 size:w.heap.size<=(gW (f w)).heap.size
 low:∀e∈gE (f w),uD (gW (f w)).heap.size e
 bal:∀x,deafBehind x (gE (f w))=x
 kind:Kind dy (f w)
 same:∀τ n,Agree w τ n k->f (w.re τ n)=reG τ (n+k) (f w)
def lQ(dy:Option Dying)(f:World->GStep)(w:World):Prop:=(∃k,GRe dy f w k)∨Wo (f w)
variable{dy:Option Dying}
def Aa es r:gW (r.after es)=gW r:=by cases r<;>rfl
def Po es r:gE (r.after es)=es++gE r:=by cases r<;>rfl
def Yy es r τ n:reG τ n (r.after es)=(reG τ n r).after es:=by cases r<;>rfl
def kq{es r}(h:Wo r):Wo (r.after es):=by cases r<;>first|exact h|exact h.elim
def SL{es r}(h:Kind dy r):Kind dy (r.after es):=by cases r<;>exact h
def lQ.congr{F F' w}(h:lQ dy F' w)(e:∀u,F u=F' u):lQ dy F w:=by have:F=F':=funext e;rw[this];exact h
def lQ.vW{F F' w}(h:lQ dy F' w)(e0:F w=F' w)(e1:∀τ n,F (w.re τ n)=F' (w.re τ n)):lQ dy F w:=by rcases h with⟨k,g⟩|h;exact .inl ⟨k,by rw[e0];exact g.drawn,by rw[e0];exact g.tape,by rw[e0];exact g.size,by rw[e0];exact g.low,by rw[e0];exact g.bal,by rw[e0];exact g.kind,λτ n ha=>by rw[e0,e1];exact g.same τ n ha⟩;exact .inr (by rw[e0];exact h)
def EP p fn es:∀e∈seen p fn es,e∈es:=by
 unfold seen;dsimp only;rw[<-Array.foldl_toList];have h:∀(l:List Event)(q:Bool)(kept:Array Event),(∀e∈(l.foldl (λ(x:Bool×Array Event) e=>match x with
  |(q,kept)=>match e.loc with
   |.mark (.extern f)=>((p.funcs[f]?).any (·.norace),kept)
   |_=>(q,if q&& !e.sync then kept else kept.push e)) (q,kept)).2,e∈kept∨e∈l):=by
  intro l;induction l with
  |nil=>intro q kept e he;exact .inl he
  |cons a l ih=>
   intro q kept e he;rw[List.foldl_cons]at he;dsimp only at he;split at he
   ·rcases ih _ _ e he with h1|h1
    ·exact .inl h1
    ·exact .inr (aF _ h1)
   ·rcases ih _ _ e he with h1|h1
    ·split at h1
     ·exact .inl h1
     ·rcases dh.1 h1 with h2|h2
      ·exact .inl h2
      ·exact .inr (by rw[h2];exact aH)
    ·exact .inr (aF _ h1)
 intro e he;rcases h es.toList _ #[] e he with h1|h1;simp at h1;simpa using h1
def sx(es:Array Event):Prop:=∀e∈es,∀m,e.loc=.mark m->Lb m/\e.sync=true
def lJ p fn{es}(hm:sx es) x:deafBehind x (seen p fn es)=deafBehind x es:=by
 unfold seen;dsimp only;rw[<-Array.foldl_toList];have h:∀(l:List Event)(_:∀e∈l,∀m,e.loc=.mark m->Lb m/\e.sync=true)(q:Bool)(kept:Array Event),deafBehind x ((l.foldl (λ(x:Bool×Array Event) e=>match x with
  |(q,kept)=>match e.loc with
   |.mark (.extern f)=>((p.funcs[f]?).any (·.norace),kept)
   |_=>(q,if q&& !e.sync then kept else kept.push e)) (q,kept)).2)=deafBehind (deafBehind x kept) ⟨l⟩:=by
  intro l;induction l with
  |nil=>intro _ q kept;rfl
  |cons a l ih=>
   intro hl q kept;have e0:(⟨a::l⟩:Array Event)=#[a]++⟨l⟩:=ζ
   rw[List.foldl_cons];dsimp only;split
   ·rename_i f hf;rw[ih (λe he=>hl e (aF _ he)),e0,nW,Af _ _ (by rw[hf];simp) (by rw[hf];simp)]
   ·rw[ih (λe he=>hl e (aF _ he)),e0,nW]
    congr 1;split
    ·rename_i hq;have hs:a.sync=false:=by
      cases h1:a.sync
      ·rfl
      ·rw[h1]at hq;simp at hq
     have h2:∀m,a.loc≠.mark m:=λm hm'=>by
      have:=(hl a aH m hm').2;rw[hs]at this;cases this
     rw[Af _ _ (h2 _) (h2 _)]
    ·rw[deaf_push]
 exact h es.toList (λe he=>hm e aHB) _ #[]
def lQ.const{F w}(h1:gW (F w)=w)(h2:gE (F w)=#[])(h3:Kind dy (F w))(h4:∀τ n,F (w.re τ n)=reG τ n (F w)):lQ dy F w:=.inl ⟨0,by rw[h1];rfl,by rw[h1],by rw[h1];exact ν,by rw[h2];simp,by rw[h2];exact λ_=>rfl,h3,λτ n _=>h4 τ n⟩
def lQ.go{w g}(h:ji dy g.frame g.callers)(hd:g.dying=dy)(hr:g.status=.running):lQ dy (λw=>.go g w #[]) w:=.const rfl rfl ⟨h,hd,hr⟩ (λ_ _=>rfl)
theorem lQ.run{P α Φ s}(hs:Plain P Φ s){w f}(body:Result α×Array Event->GStep)(hf:∀u,f u=body (s.runT P u #[])) (hlost:∀x w' es,Wo (body (.halt (.unsupported (.noEntry x)) w',es))) (hbody:∀r es,(∀a w',r=.ok a w'->Φ a)->sx es->(aie r->∀x,deafBehind x es=x)->Wo (body (r,es))∨∃E F,(∀e∈E,e∈es)/\(∀x,deafBehind x E=x)/\(∀τ n,body (reR τ n r,es)=GStep.after E (F ((wR r).re τ n)))/\body (r,es)=GStep.after E (F (wR r))/\lQ dy F (wR r)):lQ dy f w:=by
 rcases hs.run w #[]with⟨k,i⟩|⟨x,w',nM,hx⟩;have e1:=i.drawn;have e2:=i.tape;have e3:=i.size;have e4:=i.post;have e5:=i.low;have e6:=i.same;have e7:=hf w;have e8:=i.bal;generalize s.runT P w #[]=x at e1 e2 e3 e4 e5 e6 e7 e8;obtain⟨r,es⟩:=x;dsimp only at e1 e2 e3 e4 e5 e6 e8;have DL:sx es:=λe he m hm=>by rcases e5 e he with h|h;simp at h;unfold uD at h;rw[hm]at h;exact h
 rcases hbody r es e4 DL (λhc x=>e8 hc x rfl)with pU|⟨E,F,hE,avW,h1,h2,h3⟩;exact .inr (by rw[e7];exact pU);rcases h3 with⟨k2,g⟩|pU;refine .inl ⟨k+k2,?_,?_,?_,?_,?_,?_,?_⟩;rw[e7,h2,Aa,g.drawn,e1];omega;rw[e7,h2,Aa,g.tape,e2];rw[e7,h2,Aa];exact ak e3 g.size;rw[e7,h2,Aa,Po];intro e he;rcases dM.1 he with he|he;rcases e5 e (hE e he)with h|h;simp at h;exact h.mono g.size;exact g.low e he;intro x;rw[e7,h2,Po,nW,avW,g.bal];rw[e7,h2];exact SL g.kind;intro τ n ha;rw[hf,e6 τ n (ha.mono ω),h1,e7,h2,Yy,<-aZ];rw[g.same τ (n+k) (λj hj=>by rw[e1,e2,aZ,aZ];exact ha (k+j) ω)];exact .inr (by rw[e7,h2];exact kq pU);exact .inr (by rw[hf,hx];exact hlost x w' nM)
def adv(p:Program) w τ n:∀fuel f,p.found (w.re τ n) fuel f=p.found w fuel f:=by intro fuel;induction fuel with|zero=>intro f;rfl|succ k ih=>intro f;unfold Program.found;simp only[ih];rfl
def T9(p:Program) w τ n:∀fuel l s,p.brought (w.re τ n) fuel l s=p.brought w fuel l s:=by
 intro fuel;induction fuel with
 |zero=>intro l s;cases l<;>rfl
 |succ k ih=>intro l s;cases l with|nil=>rfl|cons f l=>unfold Program.brought;simp only[ih];rfl
theorem Tx{P fr callers}{g:Nat}{w}(h:ji dy fr callers):lQ dy (λw=>match w.heap[g]? with
  |some (.pending c elem)=>.go {frame:=fr,callers,status:=.running,dying:=dy} {w with heap:=w.heap.setIfInBounds g (.cells c elem)}
  |_=>.ended (.stuck "early: the variable does not wait" (fr.pos P)) w) w:=by
 cases hh:w.heap[g]? with
 |none=>exact .inr (by simp only[hh];exact trivial)
 |some o=>
  cases o with
  |pending c e=>
   refine .inl ⟨0,by simp only[hh];rfl,by simp only[hh];rfl,by simp only[hh];simp[gW],by simp only[hh];simp[gE],by simp only[hh];exact λ_=>rfl,by simp only[hh];exact⟨h,rfl,rfl⟩,λτ n _=>?_⟩
   simp only[show(w.re τ n).heap=w.heap from rfl,hh];rfl
  |_=>exact .inr (by simp only[hh];exact trivial)
def kW{o w}:lQ dy (λw=>.ended o w) w:=.inr trivial
def adw P(l:List FuncId):m5 (l.map (Frame.enter P · #[] .early)):=λc hm=>by obtain⟨f,_,rfl⟩:=List.mem_map.1 hm;exact nK _ _ _ _
def Zs{P} fr callers g w(h:ji dy fr callers):lQ dy (early P fr callers dy g) w:=by
 have SU:∀(f:FuncId)(w:World),lQ dy (λw=>.go {frame:=Frame.enter P f #[] .early,callers:=(if(P.code? f).any P.plainData then(P.brought w (2*P.funcs.size+1) [f] []).drop 1 else []).map (Frame.enter P · #[] .early)++fr::callers,status:=.running,dying:=dy} w #[]) w:=by intro f w;refine .const rfl rfl ⟨h.aj4 (nK _ _ _ _) _ (adw _ _),rfl,rfl⟩ (λτ n=>?_);simp only[T9];rfl
 have Zf:∀w,lQ dy (λw=>match w.heap[g]? with
  |some (.pending c elem)=>.go {frame:=fr,callers,status:=.running,dying:=dy} {w with heap:=w.heap.setIfInBounds g (.cells c elem)}
  |_=>.ended (.stuck "early: the variable does not wait" (fr.pos P)) w) w:=λw=>Tx h
 have Zc:∀w,lQ dy (λw=>.ended (.unsupported (.initOrder g) (fr.pos P)) w) w:=λw=>kW;cases hp:P.follows .staticDataAhead with|false=>exact(Zf w).congr (λu=>by unfold early;simp only[hp,dU,if_true]<;>rfl)|true=>
 cases hs:P.stepOf g with|none=>exact(Zc w).congr (λu=>by unfold early;simp only[hp,hs,aQ,Bool.false_eq_true,if_false]<;>rfl)|some f=>
 cases h1:(P.code? f).any P.atRunTime with|true=>exact(Zf w).congr (λu=>by unfold early;simp only[hp,hs,h1,aQ,Bool.false_eq_true,if_false,if_true]<;>rfl)|false=>
 have tn:∀τ n,(((P.code? f).bind λc=>(readies c).getLast?).bind (w.re τ n).shape?).isSome=(((P.code? f).bind λc=>(readies c).getLast?).bind w.shape?).isSome:=λτ n=>rfl;cases h2:(((P.code? f).bind λc=>(readies c).getLast?).bind w.shape?).isSome with|true=>rw[h2]at tn;exact(Zf w).vW (by unfold early;simp only[hp,hs,h1,h2,aQ,Bool.false_eq_true,if_false,if_true]<;>rfl) (λτ n=>by unfold early;simp only[hp,hs,h1,tn,aQ,Bool.false_eq_true,if_false,if_true]<;>rfl)|false=>
 rw[h2]at tn;have VQ:=adv P w;cases hk:fr.kind==.early with
 |true=>cases h3:P.found w P.funcs.size f with|unknown=>exact(Zc w).vW aFL π|notYet=>exact(Zc w).vW aFL π|either=>exact(SU f w).vW aFL π
 |false=>
 cases h3:P.found w P.funcs.size f with
 |unknown=>exact(Zc w).vW aFL π|notYet=>exact(Zf w).vW aFL π
 |either=>
 cases h4:(P.code? f).any P.plainData with|true=>exact(SU f w).vW (by unfold early;simp only[hp,hs,h1,h2,h3,hk,h4,aQ,Bool.false_eq_true,if_false,if_true]<;>rfl) (λτ n=>by unfold early;simp only[hp,hs,h1,tn,VQ,h3,hk,h4,aQ,Bool.false_eq_true,if_false,if_true]<;>rfl)|false=>
 cases h5:(P.code? f).any P.bareCopy with
 |false=>exact(Zf w).vW (by unfold early;simp only[hp,hs,h1,h2,h3,hk,h4,h5,dU,aQ,Bool.false_eq_true,if_false,if_true]<;>rfl) (λτ n=>by unfold early;simp only[hp,hs,h1,tn,VQ,h3,hk,h4,h5,dU,aQ,Bool.false_eq_true,if_false,if_true]<;>rfl)|true=>
 have jm:∀u:World,(choose (.early g)).run P u=.ok ((Question.early g).cut (u.tape u.drawn (.early g))) {u with drawn:=u.drawn+1}:=λu=>rfl;have hw2:=Zf {w with drawn:=w.drawn+1};have ht2:=SU f {w with drawn:=w.drawn+1};have key:∀u:World,(((P.code? f).bind λc=>(readies c).getLast?).bind u.shape?).isSome=false->P.found u P.funcs.size f=.either->early P fr callers dy g u=match(Question.early g).cut (u.tape u.drawn (.early g))with
   |0=>(λw:World=>match w.heap[g]? with
     |some (.pending c elem)=>.go {frame:=fr,callers,status:=.running,dying:=dy} {w with heap:=w.heap.setIfInBounds g (.cells c elem)}
     |_=>.ended (.stuck "early: the variable does not wait" (fr.pos P)) w) {u with drawn:=u.drawn+1}
   |_+1=>(λw:World=>.go {frame:=Frame.enter P f #[] .early,callers:=(if(P.code? f).any P.plainData then(P.brought w (2*P.funcs.size+1) [f] []).drop 1 else []).map (Frame.enter P · #[] .early)++fr::callers,status:=.running,dying:=dy} w #[]) {u with drawn:=u.drawn+1}:=by
  intro u q2 q3;unfold early;simp only[hp,hs,h1,q2,q3,hk,h4,h5,jm,aQ,Bool.false_eq_true,if_false];cases(Question.early g).cut (u.tape u.drawn (.early g))<;>rfl
 have k0:=key w h2 h3;have k1:=λτ n=>key (w.re τ n) (tn τ n) (by rw[VQ];exact h3);cases hcut:(Question.early g).cut (w.tape w.drawn (.early g))with
 |zero=>rw[hcut]at k0;dsimp only at k0;rcases hw2 with⟨k,i⟩|pU;exact t08;exact .inr (by rw[k0];exact pU)
 |succ c=>rw[hcut]at k0;dsimp only at k0;rcases ht2 with⟨k,i⟩|pU;exact t08;exact .inr (by rw[k0];exact pU)
def wT p fr callers dying m w:Wo (endFatal p fr callers dying m w):=by unfold endFatal;dsimp only;generalize Sem.run p _ w=r;cases r with|ok a w'=>exact .inr ⟨rfl,_,rfl,λh=>by cases h⟩|halt h w'=>cases h<;>exact trivial
def tB{P} fr callers{s}(hs:Nx P s) w(h:ji dy fr callers):lQ dy (stepG.apply P true fr callers dy s) w:=by
 have hf:=h.todo;apply lQ.run hs;case hf=>intro u;unfold stepG.apply;simp only[if_true];generalize s.runT P u #[]=x;exact rfl
 case hlost=>intro x w' es;exact trivial
 case hbody=>
 intro r es jo DL mQ;have hE:∀e∈seen P fr.fn (if(fr.kind==CallKind.early)=true then #[]else es),e∈es:=λe he=>by have:=EP _ _ _ e he;split at this;simp at this;exact this
 have hE0:∀e∈seen P fr.fn (if(fr.kind==CallKind.early)=true then #[]else(#[]:Array Event)),e∈es:=λe he=>by have:=EP _ _ _ e he;split at this<;>simp at this
 have hB:aie r->∀x,deafBehind x (seen P fr.fn (if(fr.kind==CallKind.early)=true then #[]else es))=x:=λqH x=>by by_cases hk:(fr.kind==CallKind.early)=true;rw[if_pos hk,lJ _ _ (λe he=>by simp at he)];rfl;rw[if_neg hk,lJ _ _ DL];exact mQ qH x
 have Qr:∀x,deafBehind x (seen P fr.fn (if(fr.kind==CallKind.early)=true then #[]else(#[]:Array Event)))=x:=λx=>by rw[ite_self,lJ _ _ (λe he=>by simp at he)];rfl
 cases r with
 |ok n w'=>
 have hn:=jo n w' rfl;replace hB:=hB trivial;cases n;case value v=>exact .inr ⟨_,λu=>.go _ u #[],hE,hB,λ_ _=>rfl,rfl,lQ.go (h.finish _) rfl rfl⟩
 case skip=>exact .inr ⟨_,λu=>.go _ u #[],hE,hB,λ_ _=>rfl,rfl,lQ.go (h.finish _) rfl rfl⟩
 case enter f args=>exact .inr ⟨_,λu=>.go _ u #[],hE,hB,λ_ _=>rfl,rfl,lQ.go (h.push (nK _ _ _ _)) rfl rfl⟩
 case round l f t a b=>exact .inr ⟨_,λu=>.go _ u #[],hE,hB,λ_ _=>rfl,rfl,lQ.go (h.push (GP _ _ _ _ _ _)) rfl rfl⟩
 case defer d=>exact .inr ⟨_,λu=>.go _ u #[],hE,hB,λ_ _=>rfl,rfl,lQ.go ((h.same (fr':={fr with defers:=d::fr.defers}) rfl rfl).finish _) rfl rfl⟩
 case row row args=>
  dsimp only[reR,wR];generalize vK:fr.todo=td;have hft:iU td:=vK▸hf;have jb:∀k,ji dy (Frame.ofRow P row args k) (fr::callers):=λk=>h.push (iU.cons hn .nil);rcases td with _|⟨i,k⟩;exact .inr ⟨_,λu=>.go _ u #[],hE,hB,λ_ _=>rfl,rfl,lQ.go (jb _) rfl rfl⟩;cases i;case extern r2 a2=>exact .inr ⟨_,λu=>.go _ u #[],hE,hB,λ_ _=>rfl,rfl,lQ.go (h.with (fr':={fr with todo:=.extern row args::k}) (iU.cons hn hft.tail) rfl) rfl rfl⟩
  all_goals exact .inr ⟨_,λu=>.go _ u #[],hE,hB,λ_ _=>rfl,rfl,lQ.go (jb _) rfl rfl⟩
 case recover=>
  dsimp only[reR,wR];generalize hx:tryRecover fr callers=x;generalize uW:fr.roundOf=ro;rcases ro with _|l;rcases x with _|⟨v,c⟩;exact t0111;exact .inr ⟨_,λu=>.go _ u #[],hE,hB,λ_ _=>rfl,rfl,lQ.go ((h.recover hx).finish _) rfl rfl⟩;dsimp only;have hy:∀v c,(if P.follows Departure.rangeFuncRecover=true then x else tryRecoverLoop l callers)=some (v,c)->ji dy fr c:=λv c h2=>by split at h2;exact h.recover (hx.trans h2);exact h.Nr h2
  generalize(if P.follows Departure.rangeFuncRecover=true then x else tryRecoverLoop l callers)=y at hy|-;rcases y with _|⟨v,c⟩;exact t0111;exact .inr ⟨_,λu=>.go _ u #[],hE,hB,λ_ _=>rfl,rfl,lQ.go ((hy v c rfl).finish _) rfl rfl⟩
 case comm a b c=>exact .inr ⟨_,λu=>.comm _ _ _ _ u #[],hE,hB,λ_ _=>rfl,rfl,lQ.const rfl rfl ⟨h,rfl,rfl⟩ (λ_ _=>rfl)⟩
 case coroswitch c b=>exact .inr ⟨_,λu=>.coroswitch _ _ _ u #[],hE,hB,λ_ _=>rfl,rfl,lQ.const rfl rfl ⟨h,rfl,rfl,hn⟩ (λ_ _=>rfl)⟩
 case spawn d=>dsimp only[reR,wR];generalize(P.follows Departure.goNilFatal&&_&&_&&_)=b;cases b;exact .inr ⟨_,λu=>.spawn _ _ u #[],hE,hB,λ_ _=>rfl,rfl,lQ.const rfl rfl trivial (λ_ _=>rfl)⟩;exact .inl (kq (.inr ⟨rfl,_,rfl,λh=>by cases h⟩))
 all_goals exact hn.elim
 |halt hh w'=>
 cases hh;case panic v=>exact .inr ⟨_,λu=>.go _ u #[],hE,hB trivial,λ_ _=>rfl,rfl,lQ.go (h.raise _) rfl rfl⟩
 case goexit=>exact .inr ⟨_,λu=>.go _ u #[],hE,hB trivial,λ_ _=>rfl,rfl,lQ.go (h.raise _) rfl rfl⟩
 case blocked=>exact .inl (kq (.inl (.inl rfl)))
 case waiting=>exact .inl (kq (.inl (.inr (.inl rfl))))
 case fatal m=>exact .inl (kq (wT _ _ _ _ _ _))
 case throw m=>exact .inl (kq (.inr ⟨rfl,_,rfl,λh=>by cases h⟩))
 case unsupported u=>
  cases u;case initOrder g=>exact .inr ⟨_,early P fr callers dy g,hE0,Qr,λ_ _=>rfl,rfl,Zs _ _ _ _ h⟩
  all_goals exact .inl trivial
 all_goals exact .inl trivial
def Pq(c:Frame):Frame:=match c.mode with
 |.panicking ({recovered:=true,..}::aoz)=>
  match aoz.dropWhile (!·.goexit)with
  |[]=>{c with mode:=.returning}
  |rest=>{c with mode:=.panicking rest}
 |_=>c
def TC c:(Pq c).todo=c.todo:=by unfold Pq;split;split<;>rfl;rfl
def TD c:(Pq c).kind=c.kind:=by unfold Pq;split;split<;>rfl;rfl
def uw{P} fr callers v w(h:ji dy fr callers):lQ dy (λw=>doReturn P true fr callers dy v w) w:=by
 cases callers with
 |cons c cs=>
 have hp:=h.pop;have h1:∀k,fr.kind=k->(k=.normal∨k=.wrapped)->lQ dy (λw=>doReturn P true fr (c::cs) dy v w) w:=λk hk hh=>(lQ.go (g:={frame:=c.finish v,callers:=cs,status:=.running,dying:=dy}) (hp.finish v) rfl rfl).congr (λu=>by unfold doReturn;rcases hh with rfl|rfl<;>simp only[hk]);cases hk:fr.kind;case normal=>exact h1 _ hk (.inl rfl)
 case wrapped=>exact h1 _ hk (.inr rfl)
 case early=>exact(lQ.go (g:={frame:=c,callers:=cs,status:=.running,dying:=dy}) hp rfl rfl).congr aGr
 all_goals
  refine lQ.congr (F':=λu=>.go {frame:=Pq c,callers:=cs,status:=.running,dying:=dy} u #[]) (lQ.go (hp.same (TC c) (TD c)) rfl rfl) (λu=>by unfold doReturn;simp only[hk];rfl)
 |nil=>
 cases hk:fr.kind;case report=>
  cases dy with
  |none=>exact(kW (o:=.stuck "report: Error or String returned no string" "")).congr aGr|some d=>
  cases v;case string s=>refine .inr ?_;unfold doReturn;simp only[hk];exact .inr ⟨rfl,_,rfl,λh=>by cases h⟩
  all_goals exact(kW (o:=.stuck "report: Error or String returned no string" "")).congr aGr
 all_goals
  cases dy with
  |some d=>exact absurd (h.low rfl) (by show fr.kind≠_;rw[hk];simp)
  |none=>
   cases hi:P.inits.idxOf? fr.fn with
   |none=>exact(kW (o:=.done v)).congr aGh
   |some k=>exact(lQ.go (g:={frame:=Frame.enter P (P.initFrom (k+1)) #[] .normal,callers:=[],status:=.running,dying:=none}) ⟨nK _ _ _ _,aGg,λhd=>by cases hd⟩ rfl rfl).congr aGh
def xI{P fn es}:∀e∈seen P fn es,e∈es:=EP P fn es
def wW{P} fr callers jump w(h:ji dy fr callers) F (h0:fr.roundOf=none->(∀u,F u=.go {frame:={fr with mode:=.returning},callers,status:=.running,dying:=dy} u #[])∨∃o,∀u,F u=.ended o u) (h1:∀l,fr.roundOf=some l->∀u,F u=(match(Instr.endRound l jump).runT P u #[]with
   |(r,es)=>GStep.after (seen P fr.fn es) (match r with
    |.ok v w=>doReturn P true fr callers dy v w
    |.halt _ w=>.ended (.stuck "range over a function: no such loop" (fr.pos P)) w))):lQ dy F w:=by
 cases hr:fr.roundOf with
 |none=>
  rcases h0 hr with hh|⟨o,hh⟩
  ·exact(lQ.go (g:={frame:={fr with mode:=.returning},callers,status:=.running,dying:=dy}) (h.same rfl rfl) rfl rfl).congr hh
  ·exact kW.congr hh
 |some l=>
  refine lQ.run (zy l jump) (λx=>match x with
   |(r,es)=>GStep.after (seen P fr.fn es) (match r with
    |.ok v w=>doReturn P true fr callers dy v w
    |.halt _ w=>.ended (.stuck "range over a function: no such loop" (fr.pos P)) w)) (h1 l hr) (λ_ _ _=>trivial) (λr es jo DL hb=>?_)
  cases r with
  |ok v w'=>exact .inr ⟨_,λu=>doReturn P true fr callers dy v u,xI,λx=>by rw[lJ _ _ DL];exact hb trivial x,λ_ _=>rfl,rfl,uw _ _ _ _ h⟩
  |halt hh w'=>exact .inl trivial
def Sg:Extern.next "runtime.print$piece" =some (Extern.PrintPieces.piece #[] #[]):=κ
def ado {P} (hB : iT P) fr callers w (h : ji dy fr callers) : lQ dy (stepG.oper P true fr callers dy) w := by
  cases ho : fr.oper? with
  | none => exact (kW (o := .stuck "no operation here" (fr.pos P))).congr (λu => by unfold stepG.oper; simp only [ho])
  | some o =>
    have h0 : (∀ u, stepG.oper P true fr callers dy u = stepG.apply P true fr callers dy (execOp fr.eval o) u) -> lQ dy (stepG.oper P true fr callers dy) w := λe => (tB fr callers (YO hB _ _) w h).congr e
    cases hr : fr.roundOf with
    | none => exact h0 (λu => by unfold stepG.oper; simp only [ho, hr])
    | some l =>
      cases jy : o.op
      case defer c =>
        refine (tB (P := P) (s := do Instr.deferInRound l (<- resolve fr.eval c o.type); pure .skip) fr callers ?_ w h).congr aGT
        exact j9 (uc _ _ _) λ_ => j9 (uP _ _) λ_ => trivial
      all_goals exact h0 aGT
def adq{F w}(q:Question)(g:Nat->Goroutine)(hg:∀t,ji dy (g t).frame (g t).callers/\(g t).dying=dy/\(g t).status=.running)(h:∀u,F u=.go (g (q.cut (u.tape u.drawn q))) {u with drawn:=u.drawn+1} #[]):lQ dy F w:=by refine .inl ⟨1,by rw[h];rfl,by rw[h];rfl,by rw[h];exact ν,by rw[h];simp[gE],by rw[h];exact λ_=>rfl,by rw[h];exact hg _,λτ n ha=>?_⟩;have e:τ n=w.tape w.drawn:=ha 0 ω;rw[h,h,show(w.re τ n).tape (w.re τ n).drawn=τ n from rfl,e];rfl
def adp {P} (hB : iT P) fr callers w (h : ji dy fr callers) : lQ dy (stepG.exec P true true fr callers dy) w := by
  have Pm : ∀ fr' : Frame, iU fr'.todo -> fr'.kind = fr.kind -> (∀ u, stepG.exec P true true fr callers dy u = .go { frame := fr', callers, status := .running, dying := dy } u #[]) -> lQ dy (stepG.exec P true true fr callers dy) w :=
    λfr' h1 h2 e => (lQ.go (g := { frame := fr', callers, status := .running, dying := dy }) (h.with h1 h2) rfl rfl).congr e
  have hf := h.todo
  rcases vK : fr.todo with _ | ⟨it, k⟩
  · refine wW fr callers none w h _ aGm aGC
  have mD := hf
  rw [vK] at hf
  have hk := hf.tail
  cases it
  case code c =>
    cases c
    case skip => exact Pm { fr with todo := k } hk rfl μ
    case label l => exact Pm { fr with todo := k } hk rfl μ
    case ret => exact wW fr callers (some .ret) w h _ aGm aGC
    case seq a b => exact Pm { fr with todo := .code a :: .code b :: k } (iU.cons trivial (iU.cons trivial hk)) rfl μ
    case cond c a b =>
      cases mm : fr.eval c
      case bool t => exact Pm { fr with todo := .code (if t then a else b) :: k } (iU.cons trivial hk) rfl aG8
      all_goals exact (kW (o := .stuck "cond: bool expected" (fr.pos P))).congr aG8
    case block id b => exact Pm { fr with todo := .code b :: .inBlock id :: k } (iU.cons trivial (iU.cons trivial hk)) rfl μ
    case loop b => exact Pm { fr with todo := .code b :: .inLoop b :: k } (iU.cons trivial (iU.cons trivial hk)) rfl μ
    case scope b => exact Pm { fr with todo := .code b :: .inScope b :: k } (iU.cons trivial (iU.cons trivial hk)) rfl μ
    case exit id =>
      cases he : exitTo id k with
      | some k' => exact Pm { fr with todo := k' } (BU hk he) rfl aGL
      | none => exact wW fr callers (some (.exit id)) w h _ aF7 aGt
    case goto id =>
      cases he : gotoIn id k with
      | some k' => exact Pm { fr with todo := k' } (BT hk he) rfl aGL
      | none => exact wW fr callers (some (.goto id)) w h _ aF7 aGt
    case refuse why => exact (kW (o := .unsupported (Unsupported.elab why) (fr.pos P))).congr μ
    case region id ops draw =>
      cases draw with
      | false => exact Pm { fr with todo := .inRegion ops (List.range ops.size) :: k } (iU.cons trivial hk) rfl (λu => by unfold stepG.exec; simp only [vK, dU, if_true])
      | true =>
        refine adq (.order fr.fn id) (λt => { frame := { fr with todo := .inRegion ops (Region.schedule (P.follows .mixedOrders) ops t) :: k }, callers, status := .running, dying := dy }) (λt => ⟨h.with (iU.cons trivial hk) rfl, rfl, rfl⟩) (λu => ?_)
        unfold stepG.exec
        simp only [vK]
        rfl
    case rangeFunc f params a b =>
      refine lQ.run (yB fr.fn fr.tmps params a b fr.roundOf) (λx => match x with
        | (r, es) => GStep.after (seen P fr.fn es) (match r with
          | .ok (l, mark) w => stepG.apply P true { fr with todo := .inRangeFunc l :: k, defers := mark ++ fr.defers } callers dy (do
              let d <- resolve ({ fr with todo := .inRangeFunc l :: k, defers := mark ++ fr.defers } : Frame).eval { callee := .value f, args := #[.const (.func (.yield l) #[] #[])], argTypes := #[] } 0
              invoke d.target d.args) w
          | .halt _ w => .ended (.stuck "range over a function: no such loop" (fr.pos P)) w)) aG4 (λ_ _ _ => trivial) (λr es jo DL hb => ?_)
      cases r with
      | ok x w' =>
        obtain ⟨l, mark⟩ := x
        refine .inr ⟨_, λu => stepG.apply P true { fr with todo := .inRangeFunc l :: k, defers := mark ++ fr.defers } callers dy (do
              let d <- resolve ({ fr with todo := .inRangeFunc l :: k, defers := mark ++ fr.defers } : Frame).eval { callee := .value f, args := #[.const (.func (.yield l) #[] #[])], argTypes := #[] } 0
              invoke d.target d.args) u, xI, λx => by rw [lJ _ _ DL]; exact hb trivial x, λ_ _ => rfl, rfl, tB _ _ ?_ _ (h.with (iU.cons trivial hk) rfl)⟩
        exact j9 (uc _ _ _) λ_ => Bz hB _ _
      | halt hh w' => exact .inl trivial
  case inBlock id => exact Pm { fr with todo := k } hk rfl μ
  case inScope b => exact Pm { fr with todo := k } hk rfl μ
  case inLoop b => exact Pm { fr with todo := .code b :: .inLoop b :: k } (iU.cons trivial (iU.cons trivial hk)) rfl μ
  case inRegion ops l =>
    rcases l with _ | ⟨i, l⟩
    · exact Pm { fr with todo := k } hk rfl μ
    · cases hw : ((ops[i]?).map (Region.wanted · (yielded ops fr.tmps))).getD false with
      | true => exact (ado hB fr callers w h).congr (λu => by conv => lhs; unfold stepG.exec; simp only [vK, hw, if_true])
      | false => exact Pm (fr.finish undef) (Dd mD _) (Dc _ _) (λu => by unfold stepG.exec; simp only [vK, hw, Bool.false_eq_true, if_false])
  case inRangeFunc l => exact (kW (o := .unsupported (.noEntry "a range function without a Go body that blocks") (fr.pos P))).congr μ
  case beginRound =>
    refine (tB (P := P) (s := do fr.roundOf.elim (stuck "beginRound: no round") Instr.beginRound; pure .skip) fr callers ?_ w h).congr μ
    refine j9 ?_ λ_ => trivial
    cases fr.roundOf with
    | none => exact trivial
    | some l => exact xn _
  case endRangeFunc l =>
    refine lQ.run (Bq l) (λx => match x with
        | (r, es) => GStep.after (seen P fr.fn es) (match r with
          | .ok jump w => .go { frame := { fr with todo := (jump.map Item.code).toList ++ k }, callers, status := .running, dying := dy } w
          | .halt (.panic v) w => .go { frame := fr.raise [{ v, recovered := false }], callers, status := .running, dying := dy } w
          | .halt _ w => .ended (.stuck "range over a function: no such loop" (fr.pos P)) w)) aG4 (λ_ _ _ => trivial) (λr es jo DL hb => ?_)
    cases r with
    | ok jump w' =>
      refine .inr ⟨_, λu => .go { frame := { fr with todo := (jump.map Item.code).toList ++ k }, callers, status := .running, dying := dy } u #[], xI, λx => by rw [lJ _ _ DL]; exact hb trivial x, λ_ _ => rfl, rfl, lQ.go (h.with (fr' := { fr with todo := (jump.map Item.code).toList ++ k }) ?_ rfl) rfl rfl⟩
      cases jump with
      | none => exact hk
      | some c => exact iU.cons trivial hk
    | halt hh w' =>
      cases hh
      case panic v => exact .inr ⟨_, λu => .go { frame := fr.raise [{ v, recovered := false }], callers, status := .running, dying := dy } u #[], xI, λx => by rw [lJ _ _ DL]; exact hb trivial x, λ_ _ => rfl, rfl, lQ.go (h.raise _) rfl rfl⟩
      all_goals exact .inl trivial
  case call d wr re sv => exact (hf _ aH).elim
  case extern row args =>
    have jb : row = "runtime.print$piece" := hf _ aH
    subst jb
    exact (tB fr callers (Oc #[] #[] args) w h).congr (λu => by unfold stepG.exec; simp only [vK, Sg]; rfl)
def BO{P}(hB:iT P) fr callers d w(h:ji dy fr callers):lQ dy (λw=>callDeferred P fr callers dy d w) w:=by
 by_cases Lm:d.target=.nil/\∃c,fr.mode=.panicking c;refine(kW (o:=.unsupported (.noEntry "machine/Return: a deferred call of a nil function value, made while the frame is unwinding") (fr.pos P))).congr (λu=>?_);obtain⟨h1,c,h2⟩:=Lm;unfold callDeferred;rw[if_pos];simp[h1,h2];apply lQ.run (Bz hB d.target d.args);case hf=>intro u;unfold callDeferred;rw[if_neg];generalize(invoke d.target d.args).runT P u #[]=x;exact rfl;intro hh;rw[Bool.and_eq_true]at hh;obtain⟨h1,h2⟩:=hh;refine Lm ⟨?_,?_⟩;revert h1;cases d.target<;>simp;revert h2;cases fr.mode<;>simp
 case hlost=>intro x w' es;exact trivial
 case hbody=>
 intro r es jo DL mQ;have hE:∀e∈seen P fr.fn es,e∈es:=xI;have hB:aie r->∀x,deafBehind x (seen P fr.fn es)=x:=λqH x=>by rw[lJ _ _ DL];exact mQ qH x
 cases r with
 |ok n w'=>
 have hn:=jo n w' rfl;replace hB:=hB trivial;cases n;case enter f args=>exact .inr ⟨_,λu=>.go _ u #[],hE,hB,λ_ _=>rfl,rfl,lQ.go (h.push (nK _ _ _ _)) rfl rfl⟩
 case round l f t a b=>exact .inr ⟨_,λu=>.go _ u #[],hE,hB,λ_ _=>rfl,rfl,lQ.go (h.push (GP _ _ _ _ _ _)) rfl rfl⟩
 case row row args=>exact .inr ⟨_,λu=>.go _ u #[],hE,hB,λ_ _=>rfl,rfl,lQ.go (h.push (c:=Frame.ofRow P row args .deferred) (iU.cons hn .nil)) rfl rfl⟩
 case recover=>
  dsimp only[reR,wR];generalize hx:tryRecover fr callers=x;generalize hm:fr.mode=m;cases m;case returning=>rcases x with _|⟨v,c⟩;exact .inr ⟨_,λu=>.go _ u #[],hE,hB,λ_ _=>rfl,rfl,lQ.go h rfl rfl⟩;exact .inr ⟨_,λu=>.go _ u #[],hE,hB,λ_ _=>rfl,rfl,lQ.go (h.recover hx) rfl rfl⟩
  all_goals rcases x with _|⟨v,c⟩<;>exact .inr ⟨_,λu=>.go _ u #[],hE,hB,λ_ _=>rfl,rfl,lQ.go h rfl rfl⟩
 case coroswitch c b=>have hb:b=true:=hn;subst hb;exact .inr ⟨_,λu=>.coroswitch _ _ _ u #[],hE,hB,λ_ _=>rfl,rfl,lQ.const rfl rfl ⟨h,rfl,rfl,rfl⟩ (λ_ _=>rfl)⟩
 case value v=>exact .inr ⟨_,λu=>.go _ u #[],hE,hB,λ_ _=>rfl,rfl,lQ.go h rfl rfl⟩
 case skip=>exact .inr ⟨_,λu=>.go _ u #[],hE,hB,λ_ _=>rfl,rfl,lQ.go h rfl rfl⟩
 case defer d=>exact .inr ⟨_,λu=>.go _ u #[],hE,hB,λ_ _=>rfl,rfl,lQ.go h rfl rfl⟩
 case comm a b c=>exact .inr ⟨_,λu=>.go _ u #[],hE,hB,λ_ _=>rfl,rfl,lQ.go h rfl rfl⟩
 case spawn d=>exact .inr ⟨_,λu=>.go _ u #[],hE,hB,λ_ _=>rfl,rfl,lQ.go h rfl rfl⟩
 all_goals exact hn.elim
 |halt hh w'=>
 cases hh;case panic v=>exact .inr ⟨_,λu=>.go _ u #[],hE,hB trivial,λ_ _=>rfl,rfl,lQ.go (h.raise _) rfl rfl⟩
 case goexit=>exact .inr ⟨_,λu=>.go _ u #[],hE,hB trivial,λ_ _=>rfl,rfl,lQ.go (h.raise _) rfl rfl⟩
 case blocked=>exact .inl (kq (.inl (.inl rfl)))
 case waiting=>exact .inl (kq (.inl (.inr (.inl rfl))))
 case fatal m=>exact .inl (kq (wT _ _ _ _ _ _))
 case throw m=>exact .inl (kq (.inr ⟨rfl,_,rfl,λh=>by cases h⟩))
 all_goals exact .inl trivial
def FG{P} fn tmps:Pl P (Go.results fn tmps):=by unfold Go.results;refine ia (FK _ (λr=>?_) _) λvs=>trivial;cases r with|tmp t=>exact trivial|cell a t=>exact ia (qD _) λ_=>qR _ _
def GL{P}(hB:iT P) fr callers w(h:ji dy fr callers):lQ dy (λw=>unwind P true fr callers dy w) w:=by
 have Pm:∀g:Goroutine,ji dy g.frame g.callers->g.dying=dy->g.status=.running->(∀u,unwind P true fr callers dy u=.go g u #[])->lQ dy (λw=>unwind P true fr callers dy w) w:=λg h1 h2 h3 e=>(lQ.go h1 h2 h3).congr e;rcases hd:fr.defers with _|⟨d,ds⟩;cases hm:fr.mode with
 |run=>exact(kW (o:=.stuck "unwind: the frame is running" (fr.pos P))).congr (λu=>by unfold unwind;simp only[hd,hm])|panicking chain=>
  cases hca:fr.catches P with
  |true=>exact(kW (o:=.unsupported (.noEntry "a panic or Goexit out of a method that fmt calls behind a cut's door") (fr.pos P))).congr (λu=>by unfold unwind;simp only[hd,hm,hca,if_true])|false=>
  cases callers with
  |cons c cs=>exact Pm {frame:=c.raise chain,callers:=cs,status:=.running,dying:=dy} (h.pop.raise _) rfl rfl (λu=>by unfold unwind;simp only[hd,hm,hca,Bool.false_eq_true,if_false])|nil=>
  refine .inr ?_;unfold unwind;cases dy with
  |none=>simp only[hd,hm,hca,Bool.false_eq_true,if_false];by_cases hg:chain.head?.any (·.goexit)=true;rw[if_pos hg];exact .inl (.inr (.inr rfl));rw[if_neg hg];generalize(reportChain chain false).run P w=r;cases r with|ok t w'=>exact .inr ⟨rfl,_,rfl,λh=>by cases h⟩|halt hh w'=>cases hh<;>exact trivial
  |some d=>simp only[hd,hm,hca,Bool.false_eq_true,if_false];split;exact t098;exact trivial
 |returning=>
  cases hfn:P.funcs[fr.fn]? with
  |none=>exact(uw (P:=P) fr callers (fr.tmps.getD 0 undef) w h).congr (λu=>by unfold unwind;simp only[hd,hm,hfn])|some fn=>
  refine lQ.run (FG fn fr.tmps) (λx=>match x with
   |(r,es)=>GStep.after (seen P fr.fn es) (match r with
    |.ok v w=>doReturn P true fr callers dy v w
    |.halt (.stuck s) w=>.ended (.stuck s (fr.pos P)) w
    |.halt _ w=>.ended (.stuck "return: the result variables cannot be read" (fr.pos P)) w)) (λu=>by unfold unwind;simp only[hd,hm,hfn];rfl) (λ_ _ _=>trivial) (λr es jo DL hb=>?_)
  cases r with|ok v w'=>exact .inr ⟨_,λu=>doReturn P true fr callers dy v u,xI,λx=>by rw[lJ _ _ DL];exact hb trivial x,λ_ _=>rfl,rfl,uw _ _ _ _ h⟩|halt hh w'=>cases hh<;>exact .inl trivial
 have h0:(∀u,unwind P true fr callers dy u=callDeferred P {fr with defers:=ds} callers dy d u)->lQ dy (λw=>unwind P true fr callers dy w) w:=λe=>(BO hB {fr with defers:=ds} callers d w (h.same rfl rfl)).congr e;obtain⟨t,args⟩:=d;cases t;case collected b=>
  refine lQ.run (uO b) (λx=>match x with
    |(r,es)=>GStep.after (seen P fr.fn es) (match r with
     |.ok calls w=>.go {frame:={fr with defers:=calls++ds},callers,status:=.running,dying:=dy} w
     |.halt _ w=>.ended (.stuck "the deferred calls of a range-over-func loop have been taken" (fr.pos P)) w)) (λu=>by unfold unwind;simp only[hd];rfl) (λ_ _ _=>trivial) (λr es jo DL hb=>?_)
  cases r with
  |ok v w'=>exact .inr ⟨_,λu=>.go {frame:={fr with defers:=v++ds},callers,status:=.running,dying:=dy} u #[],xI,λx=>by rw[lJ _ _ DL];exact hb trivial x,λ_ _=>rfl,rfl,lQ.go (h.same (fr':={fr with defers:=v++ds}) rfl rfl) rfl rfl⟩
  |halt hh w'=>exact .inl trivial
 all_goals exact h0 (λu=>by unfold unwind;simp only[hd])
def adn{P}(hB:iT P) g w(hd:∀d,g.dying=some d->d.calling=true)(h:ji g.dying g.frame g.callers):lQ g.dying (stepG P true g) w:=by
 obtain⟨fr,cs,st,dy,off⟩:=g;have hx:∀d:Dying,dy=some d->d.calling=true:=hd;cases hm:fr.mode with
 |run=>exact(adp hB fr cs w h).congr (λu=>by cases dy with|none=>unfold stepG;simp only[hm]|some d=>obtain⟨a1,a2,a3,a4,a5,a6,a7⟩:=d;obtain rfl:a3=true:=hx _ rfl;unfold stepG;simp only[hm])
 |returning=>exact(GL hB fr cs w h).congr (λu=>by cases dy with|none=>unfold stepG;simp only[hm]|some d=>obtain⟨a1,a2,a3,a4,a5,a6,a7⟩:=d;obtain rfl:a3=true:=hx _ rfl;unfold stepG;simp only[hm])
 |panicking c=>exact(GL hB fr cs w h).congr (λu=>by cases dy with|none=>unfold stepG;simp only[hm]|some d=>obtain⟨a1,a2,a3,a4,a5,a6,a7⟩:=d;obtain rfl:a3=true:=hx _ rfl;unfold stepG;simp only[hm])
end Tp
namespace Rn
open Tp (xI gE gW)
section
variable{P:Program}{E:Env}{X:List Nat}
def QX(E:Env):Operand->Prop
 |.tmp _=>True|.const v=>Clean v|.func f=>E.F f|.global _=>False
def aeq(E:Env)(o:Oper):Prop:=match o.op with
 |.send ch x=>QX E ch/\QX E x
 |.recv _ ch _=>QX E ch
 |.call c=>c.callee=.builtin .close/\∃x,c.args=#[x]/\QX E x
 |.go c=>(∃x,c.callee=.value x/\QX E x)/\c.args=#[]
 |_=>False
def OpX(P:Program)(E:Env)(o:Oper):Prop:=o.guard=none/\(ah4 P E (QX E) o∨aeq E o)
def mO(P:Program)(E:Env):Code->Prop
 |.region _ ops _=>∀o∈ops,OpX P E o|.seq a b=>mO P E a/\mO P E b|.cond c a b=>QX E c/\mO P E a/\mO P E b|.block _ b|.loop b=>mO P E b|.exit _|.ret|.skip|.refuse _=>True|_=>False
def oE(P:Program)(E:Env):Item->Prop
 |.code c=>mO P E c|.inBlock _=>True|.inLoop b=>mO P E b|.inRegion ops _=>∀o∈ops,OpX P E o|_=>False
def me(P:Program)(E:Env)(l:List Item):Prop:=∀x∈l,oE P E x
structure Ex(P:Program)(E:Env)(X:List Nat)(fr fr':Frame):Prop where
 fn:fr'.fn=fr.fn
 todo:fr'.todo=fr.todo
 ok:me P E fr.todo
 tmps:VA E X fr.tmps fr'.tmps
 defers:fr.defers=[]/\fr'.defers=[]
 mode:fr'.mode=fr.mode
 live:fr.mode=.run∨fr.mode=.returning
 kind:fr'.kind=fr.kind
 round:fr.roundOf=none/\fr'.roundOf=none
theorem Ex.app{fr fr'}(h:Ex P E X fr fr') Y:Ex P E (X++Y) fr fr':=⟨h.fn,h.todo,h.ok,h.tmps.app Y,h.defers,h.mode,h.live,h.kind,h.round⟩
def Ex.eval{fr fr'}(h:Ex P E X fr fr'):∀x,QX E x->V E X (fr.eval x) (fr'.eval x):=by
 intro x hx;cases x with
 |tmp t=>show V E X (fr.tmps.getD t undef) (fr'.tmps.getD t undef);rw[aN,aN];rcases h.tmps.get t with⟨v,v',e1,e2,hv⟩|⟨e1,e2⟩;rw[e1,e2];exact hv;rw[e1,e2];exact V.lf (VA.empty X)
 |const v=>exact Clean.self hx X|func f=>exact .func f #[] #[] #[] #[] hx rfl (λi v v' h=>by simp at h) rfl (λi v v' h=>by simp at h)
 |global g=>exact hx.elim
def me.tail{x k}(h:me P E (x::k)):me P E k:=λy hy=>h y (aF _ hy)
def me.head{x k}(h:me P E (x::k)):oE P E x:=h x aH
def me.cons{x k}(h:oE P E x)(hk:me P E k):me P E (x::k):=λy hy=>by rcases List.mem_cons.1 hy with rfl|hy;exact h;exact hk y hy
def Ex.to{fr fr'}(h:Ex P E X fr fr') k(hk:me P E k):Ex P E X {fr with todo:=k} {fr' with todo:=k}:=⟨h.fn,rfl,hk,h.tmps,h.defers,h.mode,h.live,h.kind,h.round⟩
def Ex.finish{fr fr'}(h:Ex P E X fr fr'){v v'}(hv:V E X v v'):Ex P E X (fr.finish v) (fr'.finish v'):=by
 obtain⟨h1,h2,h3,h4,h5,h6,h7,h8,h9⟩:=h;obtain⟨fn,tmps,todo,defers,mode,kind,round⟩:=fr;obtain⟨fn',ax9,aof,atg,ayj,ayk,atY⟩:=fr';dsimp only at h1 h2 h3 h4 h5 h6 h7 h8 h9;subst h1 h2 h6 h8;obtain⟨rfl,rfl⟩:=h5;obtain⟨rfl,rfl⟩:=h9;unfold Frame.finish;dsimp only;cases aof with
 |nil=>exact⟨rfl,rfl,h3,h4,⟨rfl,rfl⟩,rfl,h7,rfl,⟨rfl,rfl⟩⟩|cons x k=>
 cases x with
 |inRegion ops l=>cases l with|nil=>exact⟨rfl,rfl,h3,h4,⟨rfl,rfl⟩,rfl,h7,rfl,⟨rfl,rfl⟩⟩|cons i l=>refine⟨rfl,rfl,me.cons (show oE P E (.inRegion ops l)from h3.head) h3.tail,?_,⟨rfl,rfl⟩,rfl,h7,rfl,⟨rfl,rfl⟩⟩;dsimp only;cases(ops[i]?).bind (·.dst)with|none=>exact h4|some d=>exact h4.set d hv
 |code c=>exact⟨rfl,rfl,h3,h4,⟨rfl,rfl⟩,rfl,h7,rfl,⟨rfl,rfl⟩⟩|inBlock c=>exact⟨rfl,rfl,h3,h4,⟨rfl,rfl⟩,rfl,h7,rfl,⟨rfl,rfl⟩⟩
 |inLoop c=>exact⟨rfl,rfl,h3,h4,⟨rfl,rfl⟩,rfl,h7,rfl,⟨rfl,rfl⟩⟩|_=>exact h3.head.elim
inductive Qf(P:Program)(E:Env)(X:List Nat):List Frame->List Frame->Prop
 |nil:Qf P E X [] []
 |cons {c c':Frame} {cs lT:List Frame} (h:Ex P E X c c') (hs:Qf P E X cs lT):Qf P E X (c::cs) (c'::lT)
def Qf.app{cs lT}(h:Qf P E X cs lT) Y:Qf P E (X++Y) cs lT:=by induction h with|nil=>exact .nil|cons h _ ih=>exact .cons (h.app Y) ih
def wall:Frame:={fn:=0,tmps:=#[],todo:=[.code (.refuse "")],defers:=[],mode:=.run,kind:=.normal}
structure Ea(g:Goroutine):Prop where
 run:g.status=.running
 dy:g.dying=none
 defers:g.frame.defers=[]/\∀c∈g.callers,c.defers=[]
 bad:(∃ch,g.frame.mode=.panicking ch)∨(g.frame.mode=.run/\∃why k,g.frame.todo=.code (.refuse why)::k)
structure GR(P:Program)(E:Env)(X:List Nat)(R:List Frame)(g g':Goroutine):Prop where
 run:g.status=.running/\g'.status=.running
 dy:g.dying=none/\g'.dying=none
 frame:Ex P E X g.frame g'.frame
 callers:∃cs lT,g.callers=cs++[wall]/\g'.callers=lT++R/\Qf P E X cs lT
def Qf.defers{cs lT}(h:Qf P E X cs lT):∀c∈cs,c.defers=[]:=by
 induction h with
 |nil=>intro c hc;cases hc
 |cons h _ ih=>intro c hc;rcases List.mem_cons.1 hc with rfl|hc;exact h.defers.1;exact ih c hc
def Bad(g:Goroutine):Prop:=Ea g∨g.status≠.running∨g.dying≠none
def Hr(P:Program)(E:Env)(Sh:Nat->Prop)(X:List Nat)(R:List Frame)(w:World)(r r':GStep):Prop:=match r with
 |.go g1 v1 _=>Bad g1∨∃Y g1' w1 nM,r'=.go g1' w1 nM/\GR P E (X++Y) R g1 g1'/\Out E Sh X w Y v1 w1/\∀e∈nM,EvX (X++Y) Sh e
 |.ended _ _ _=>True
 |_=>False
def Wo.ait{Sh R w r r'}(h:Tp.Wo r):Hr P E Sh X R w r r':=by
 cases r with
 |go g v es=>rcases h with h|⟨h1,d,h2,_⟩;exact .inl (.inr (.inl (by rcases h with h|h|h<;>rw[h]<;>simp)));exact .inl (.inr (.inr (by rw[h2];simp)))
 |ended o v es=>exact trivial|_=>exact h.elim
def Qf.clean{cs lT}(h:Qf P E X cs lT):∀c∈cs++[wall],c.defers=[]:=by intro c hc;rcases bx.1 hc with h1|h1;exact h.defers c h1;rw[cn]at h1;subst h1;rfl
def tZ(fr:Frame) l:(fr.raise l).defers=fr.defers:=by unfold Frame.raise;split<;>rfl
def raise_mode(fr:Frame) l:∃ch,(fr.raise l).mode=.panicking ch:=by unfold Frame.raise;split<;>exact⟨_,rfl⟩
def Gj{fr fr' cs lT}(mD:Ex P E X fr fr')(kC:Qf P E X cs lT) l:Ea {frame:=fr.raise l,callers:=cs++[wall],status:=.running,dying:=none}:=⟨rfl,rfl,⟨by rw[tZ];exact mD.defers.1,kC.clean⟩,.inl (raise_mode fr l)⟩
def VA.replicate n:VA E X (Array.replicate n undef) (Array.replicate n undef):=⟨rfl,λi v v' h1 h2=>by rw[h1]at h2;cases h2;rw[Array.getElem?_replicate]at h1;split at h1;cases h1;exact V.lf (VA.empty X);cases h1⟩
def Ex.enter(hF:∀f fn b,E.F f->P.funcs[f]? =some fn->fn.body=some b->mO P E b) f(hf:E.F f){a a'}(ha:VA E X a a') k k'(hk:k'=k):Ex P E X (Frame.enter P f a k) (Frame.enter P f a' k'):=by
 subst hk;refine⟨rfl,rfl,?_,?_,⟨rfl,rfl⟩,rfl,.inl rfl,rfl,⟨rfl,rfl⟩⟩;refine me.cons ?_ aGg;show mO P E _;cases h1:P.funcs[f]? with|none=>exact trivial|some fn=>cases h2:fn.body with|none=>simp only[dY,h2];exact trivial|some b=>simp only[dY,h2];exact hF f fn b hf h1 h2
 show VA E X (a++Array.replicate _ undef) (a'++Array.replicate _ undef);rw[<-ha.size];exact ha.append (VA.replicate _)
def ahV{Sh}(hF:∀f fn b,E.F f->P.funcs[f]? =some fn->fn.body=some b->mO P E b)(hB:Bod P E){R fr fr' cs lT s s'}(hs:RG P E (NX E) X s s')(mD:Ex P E X fr fr')(kC:Qf P E X cs lT){v w}(hw:WR E Sh X v w):Hr P E Sh X R w (stepG.apply P true fr (cs++[wall]) none s v) (stepG.apply P true fr' (lT++R) none s' w):=by
 unfold stepG.apply;simp only[if_true];rcases hs.run #[] #[] hw with⟨h,v',es,u4,hr⟩|⟨a,v1,DU,Y,a',w1,Ae,r1,r2,r3,r4,r5⟩;rw[hr];cases h with
 |panic x=>exact .inl (.inl (Gj mD kC _))|goexit=>exact .inl (.inl (Gj mD kC _))
 |blocked=>exact .inl (.inr (.inl ζ))|waiting=>exact .inl (.inr (.inl ζ))
 |exit c=>exact trivial|fatal m=>exact Wo.ait (Tp.kq (Tp.wT _ _ _ _ _ _))
 |throw m=>exact Wo.ait (Tp.kq (.inr ⟨rfl,_,rfl,λh=>by cases h⟩))|unsupported u=>cases u<;>first|exact trivial|exact u4.elim
 |stuck m=>exact trivial
 rw[r1,r2];have mm:∀(e:Event)(b:Bool),e∈seen P fr'.fn (if b=true then #[]else Ae)->EvX (X++Y) Sh e:=by intro e b he;have:=xI _ he;split at this;simp at this;rcases r5 e this with h|h;simp at h;exact h
 have ahg:=mD.app Y;have alw:=kC.app Y;cases r3 with|value x x' hx=>exact .inr ⟨Y,_,w1,_,rfl,⟨⟨rfl,rfl⟩,⟨rfl,rfl⟩,ahg.finish hx,cs,lT,rfl,rfl,alw⟩,r4,λe he=>mm e (fr'.kind==.early) (by rwa[cz]at he)⟩|skip=>exact .inr ⟨Y,_,w1,_,rfl,⟨⟨rfl,rfl⟩,⟨rfl,rfl⟩,ahg.finish (V.lf (VA.empty _)),cs,lT,rfl,rfl,alw⟩,r4,λe he=>mm e (fr'.kind==.early) (by rwa[cz]at he)⟩|enter f a a' hf ha=>refine .inr ⟨Y,_,w1,_,rfl,⟨⟨rfl,rfl⟩,⟨rfl,rfl⟩,?_,fr::cs,fr'::lT,rfl,rfl,.cons ahg alw⟩,r4,λe he=>mm e (fr'.kind==.early) (by rwa[cz]at he)⟩;exact Ex.enter hF f hf ha _ _ (by rw[ahg.todo])
def mu{Sh R v w}(hw:WR E Sh X v w){fr fr' cs lT}(mD:Ex P E X fr fr')(kC:Qf P E X cs lT):Hr P E Sh X R w (.go {frame:=fr,callers:=cs++[wall],status:=.running,dying:=none} v #[]) (.go {frame:=fr',callers:=lT++R,status:=.running,dying:=none} w #[]):=.inr ⟨[],_,w,_,rfl,by rw[aO];exact⟨⟨rfl,rfl⟩,⟨rfl,rfl⟩,mD,cs,lT,rfl,rfl,kC⟩,.refl hw,λe he=>by simp at he⟩
theorem GV{id}:∀ {k k':List Item},exitTo id k=some k'->me P E k->me P E k'
 |[],_,h,_=>by cases h
 |it::k,k',h,hk=>by unfold exitTo at h;split at h;rename_i hh;cases hh;split at h;cases h;exact hk.tail;exact GV h hk.tail;rename_i hh;cases hh;exact GV h hk.tail;cases h
def run_choose{Sh} q{v w}(hw:WR E Sh X v w):∃t v1 w1,(choose q).run P v=.ok t v1/\(choose q).run P w=.ok t w1/\Out E Sh X w [] v1 w1:=by
 rcases(sN (P:=P) (E:=E) (X:=X) q).run #[] #[] hw with⟨h,v',es,u4,hr⟩|⟨a,v1,DU,Y,a',w1,Ae,r1,r2,r3,r4,r5⟩;rw[Sem.runT_eq]at hr;have:(choose q).run P v=.halt h v':=(Prod.mk.inj hr).1;unfold choose at this;rw[Sem.run]at this;split at this<;>cases this;rw[Sem.runT_eq]at r1 r2;obtain⟨rY,rfl⟩:=r3;have:Y=[]:=by simpa using rY
 subst this;exact⟨a,v1,w1,(Prod.mk.inj r1).1,(Prod.mk.inj r2).1,r4⟩
def al1{Sh}(hF:∀f fn b,E.F f->P.funcs[f]? =some fn->fn.body=some b->mO P E b)(hB:Bod P E)(hG:P.globals.size<=E.G){R fr fr' cs lT}(mD:Ex P E X fr fr')(kC:Qf P E X cs lT)(hm:fr.mode=.run) (hT:∀ops i l k o,fr.todo=.inRegion ops (i::l)::k->ops[i]? =some o->¬aeq E o) {v w} (hw:WR E Sh X v w) b b':Hr P E Sh X R w (stepG.exec P b true fr (cs++[wall]) none v) (stepG.exec P b' true fr' (lT++R) none w):=by
 have Oz:=mD.todo;have jo:=mD.ok;unfold stepG.exec;simp only[Oz];cases ht:fr.todo with
 |nil=>simp only[mD.round.1,mD.round.2];refine mu hw ⟨mD.fn,rfl,aGg,mD.tmps,mD.defers,rfl,.inr rfl,mD.kind,⟨rfl,rfl⟩⟩ kC|cons x k=>
 rw[ht]at jo;have hk:=jo.tail;cases x with
 |code c=>
  have hc:mO P E c:=jo.head;cases c with
  |ret=>simp only[mD.round.1,mD.round.2];refine mu hw ⟨mD.fn,rfl,jo,mD.tmps,mD.defers,rfl,.inr rfl,mD.kind,⟨rfl,rfl⟩⟩ kC|skip=>exact mu hw (mD.to k hk) kC
  |seq a b=>exact mu hw (mD.to _ (.cons (show oE P E (.code a)from hc.1) (.cons (show oE P E (.code b)from hc.2) hk))) kC|cond x a b=>
   have hx:=mD.eval x hc.1;dsimp only;revert hx;generalize fr.eval x=y;generalize fr'.eval x=y';intro hx;cases hx with
   |bool t=>refine mu hw (mD.to _ (.cons ?_ hk)) kC;cases t;exact hc.2.2;exact hc.2.1
   |_=>exact trivial
  |block id b=>exact mu hw (mD.to _ (.cons (show oE P E (.code b)from hc) (.cons (show oE P E (.inBlock id)from trivial) hk))) kC|loop b=>exact mu hw (mD.to _ (.cons (show oE P E (.code b)from hc) (.cons (show oE P E (.inLoop b)from hc) hk))) kC
  |exit id=>cases he:exitTo id k with|none=>simp only[mD.round.1,mD.round.2,he,Option.elim_none,Bool.false_eq_true,if_false];exact trivial|some k'=>simp only[he,Option.elim_some];exact mu hw (mD.to _ (GV he hk)) kC
  |refuse why=>exact trivial|region id ops draw=>dsimp only;cases draw with|false=>exact mu hw (mD.to _ (.cons (show oE P E (.inRegion ops _)from hc) hk)) kC|true=>obtain⟨t,v1,w1,h1,h2,h3⟩:=run_choose (P:=P) (.order fr.fn id) hw;simp only[aQ,Bool.false_eq_true,if_false];rw[show Question.order fr'.fn id=.order fr.fn id by rw[mD.fn],h1,h2];dsimp only;refine .inr ⟨[],_,w1,_,rfl,?_,h3,λe he=>by simp at he⟩;rw[aO];exact⟨⟨rfl,rfl⟩,⟨rfl,rfl⟩,mD.to _ (.cons (show oE P E (.inRegion ops _)from hc) hk),cs,lT,rfl,rfl,kC⟩
  |scope b=>exact hc.elim|label l=>exact hc.elim
  |goto l=>exact hc.elim|rangeFunc a b c d=>exact hc.elim
 |inBlock id=>exact mu hw (mD.to k hk) kC|inLoop b=>exact mu hw (mD.to _ (.cons (show oE P E (.code b)from jo.head) (.cons (show oE P E (.inLoop b)from jo.head) hk))) kC
 |inRegion ops l=>
  have au2:∀o∈ops,OpX P E o:=jo.head;cases l with
  |nil=>exact mu hw (mD.to k hk) kC|cons i l=>
  dsimp only;cases hi:ops[i]? with
  |none=>simp only[Option.map_none,Option.getD_none,Bool.false_eq_true,if_false];exact mu hw (mD.finish (V.lf (VA.empty _))) kC|some o=>
  have hox:=au2 o (Array.mem_of_getElem? hi);have acA:∀y,Region.wanted o y=true:=λy=>by unfold Region.wanted;rw[hox.1]
  simp only[Option.map_some,cV,acA,if_true];have hoo:ah4 P E (QX E) o:=by rcases hox.2 with h|h;exact h;exact absurd h (hT ops i l k o ht hi)
  have Ze:fr.oper? =some o:=by unfold Frame.oper?;rw[ht];exact hi
  have ho2:fr'.oper? =some o:=by unfold Frame.oper?;rw[Oz,ht];exact hi
  unfold stepG.oper;simp only[Ze,ho2,mD.round.1,mD.round.2];exact ahV hF hB (Yl hB hG mD.eval o hoo) mD kC hw
 |_=>exact jo.head.elim
theorem U7{γ} f f'(hf:∀a,RE P E (V E X) X (f a) (f' a)):∀l:List γ,RE P E (λr r'=>VA E X r.toArray r'.toArray) X (l.mapM f) (l.mapM f')
 |[]=>by rw[eC,eC];exact gK (VA.empty X)|a::l=>by rw[dE,dE];refine gG (hf a) λv v' hv=>gG (U7 f f' hf l) λr r' hr=>gK ?_;have:=(VA.one hv).append hr;simpa using this
def Rr fn{a a'}(ha:VA E X a a'):RE P E (V E X) X (results fn a) (results fn a'):=by
 have sq:∀t,V E X (a.getD t undef) (a'.getD t undef):=λt=>by rw[aN,aN];rcases ha.get t with⟨v,v',e1,e2,hv⟩|⟨e1,e2⟩;rw[e1,e2];exact hv;rw[e1,e2];exact V.lf (VA.empty X)
 unfold results;rw[dq,dq];refine gG (R:=VA E X) (gG (U7 _ _ (λr=>?_) _) λr r' hr=>gK hr) λr r' hr=>?_;cases r with|tmp t=>exact gK (sq t)|cell a t=>exact gG (Jr (sq a)) λb b' hb=>Fg hb t
 refine gK ?_;by_cases h1:r.size=1;have h2:r'.size=1:=by rw[<-hr.size];exact h1
 rw[dif_pos h1,dif_pos h2];exact hr.el 0 _ _ (Array.getElem?_eq_getElem ω) (Array.getElem?_eq_getElem ω);have h2:¬r'.size=1:=by rw[<-hr.size];exact h1
 rw[dif_neg h1,dif_neg h2];exact V.lf hr
def sE:Ea {frame:=wall,callers:=[],status:=.running,dying:=none}:=⟨rfl,rfl,⟨rfl,λ_ h=>by cases h⟩,.inr ⟨rfl,_,_,rfl⟩⟩
def G9{Sh R fr fr' cs lT}(mD:Ex P E X fr fr')(kC:Qf P E X cs lT){v w}(hw:WR E Sh X v w){x x'}(hx:V E X x x') b b':Hr P E Sh X R w (doReturn P b fr (cs++[wall]) none x v) (doReturn P b' fr' (lT++R) none x' w):=by
 unfold doReturn;rw[mD.kind];cases kC with
 |nil=>simp only[aX];cases fr.kind with|normal=>exact .inl (.inl sE)|wrapped=>exact .inl (.inl sE)|early=>exact .inl (.inl sE)|deferred=>exact .inl (.inl sE)|report=>exact .inl (.inl sE)
 |@cons c c' cs lT hc kC=>
 simp only[aU];cases fr.kind with
 |normal=>exact mu hw (hc.finish hx) kC|wrapped=>exact mu hw (hc.finish hx) kC
 |early=>exact mu hw hc kC|deferred=>rcases hc.live with h1|h1<;>(have h2:=hc.mode.trans h1;simp only[h1,h2];exact mu hw hc kC)
 |report=>rcases hc.live with h1|h1<;>(have h2:=hc.mode.trans h1;simp only[h1,h2];exact mu hw hc kC)
def aaF{Sh R fr fr' cs lT}(mD:Ex P E X fr fr')(kC:Qf P E X cs lT)(hm:fr.mode=.returning){v w}(hw:WR E Sh X v w) b b':Hr P E Sh X R w (unwind P b fr (cs++[wall]) none v) (unwind P b' fr' (lT++R) none w):=by
 have hm':fr'.mode=.returning:=mD.mode.trans hm;unfold unwind;simp only[mD.defers.1,mD.defers.2,hm,hm',mD.fn];cases hf:P.funcs[fr.fn]? with
 |none=>refine G9 mD kC hw ?_ b b';rw[aN,aN];rcases mD.tmps.get 0 with⟨v,v',e1,e2,hv⟩|⟨e1,e2⟩;rw[e1,e2];exact hv;rw[e1,e2];exact V.lf (VA.empty X)
 |some fn=>
 dsimp only;rcases(Rr (P:=P) fn mD.tmps).run #[] #[] hw with⟨h,v',es,u4,hr⟩|⟨a,v1,DU,Y,a',w1,Ae,r1,r2,r3,r4,r5⟩;rw[hr];cases h<;>exact trivial;obtain⟨hY,ha⟩:=r3;have:Y=[]:=by simpa using hY
 subst this;rw[r1,r2];rw[aO]at r5;have Lh:WR E Sh X v1 w1:=by have:=r4.rel;rwa[aO]at this
 have hr:=G9 (R:=R) mD kC Lh ha b b';dsimp only;generalize doReturn P b fr (cs++[wall]) none a v1=q at hr;generalize doReturn P b' fr' (lT++R) none a' w1=q' at hr;cases q with
 |go g0 u0 e0=>rcases hr with hr|⟨Y2,g1',w2,e2,rfl,h2,h3,h4⟩;exact .inl hr;refine .inr ⟨Y2,g1',w2,_,rfl,h2,by simpa using r4.trans (by simpa using h3),λe he=>?_⟩;rcases dM.1 he with h5|h5;rcases r5 e (xI _ h5)with h6|h6;simp at h6;exact h6.app Y2;exact h4 e h5
 |ended o u0 e0=>exact trivial|_=>exact hr.elim
def aba{Sh}(hF:∀f fn b,E.F f->P.funcs[f]? =some fn->fn.body=some b->mO P E b)(hB:Bod P E)(hG:P.globals.size<=E.G){R g g'}(h:GR P E X R g g') (hT:g.frame.mode=.run->∀ops i l k o,g.frame.todo=.inRegion ops (i::l)::k->ops[i]? =some o->¬aeq E o) {v w} (hw:WR E Sh X v w) b b':Hr P E Sh X R w (stepG P b g v) (stepG P b' g' w):=by
 obtain⟨fr,cs,st,dy,off⟩:=g;obtain⟨fr',lT,st',dy',akp⟩:=g';obtain⟨h1,⟨rfl,rfl⟩,h3,⟨ds,ds',rfl,rfl,h4⟩⟩:=h;rcases h3.live with hm|hm;replace hm:fr.mode=.run:=hm;have hm':fr'.mode=.run:=h3.mode.trans hm;have e1:stepG P b ⟨fr,ds++[wall],st,none,off⟩ v=stepG.exec P b true fr (ds++[wall]) none v:=by unfold stepG;simp only[hm]
 have e2:stepG P b' ⟨fr',ds'++R,st',none,akp⟩ w=stepG.exec P b' true fr' (ds'++R) none w:=by unfold stepG;simp only[hm']
 rw[e1,e2];exact al1 hF hB hG h3 h4 hm (hT hm) hw b b';replace hm:fr.mode=.returning:=hm;have hm':fr'.mode=.returning:=h3.mode.trans hm;have e1:stepG P b ⟨fr,ds++[wall],st,none,off⟩ v=unwind P b fr (ds++[wall]) none v:=by unfold stepG;simp only[hm]
 have e2:stepG P b' ⟨fr',ds'++R,st',none,akp⟩ w=unwind P b' fr' (ds'++R) none w:=by unfold stepG;simp only[hm']
 rw[e1,e2];exact aaF h3 h4 hm hw b b'
end
end Rn
def t0134{p:Prop}(h:p:=by simp at jy;rcases jy with rfl|rfl<;>exact⟨rfl,rfl,λm=>by simp⟩):p:=h
def t0123{p:Prop}(h:p:=by refine .over (λm' ops=>?_);rw[h0,pV,runT_many_ended (i:=0) aFU hs];simp):p:=h
def t099{p:Prop}(h:p:=by obtain⟨e,_,rfl⟩:=Go.Conc.mem_ofEvents jy;rfl):p:=h
def t050{p:Prop}(h:p:=by rw[List.foldl_cons,e];exact ih (λop jy=>h op (by simp at jy|-;exact .inr jy))):p:=h
def t033{p:Prop}(h:p:=by unfold deafStep;split;rename_i hh;exact absurd hh (this _);rename_i hh;exact absurd hh (this _);rfl):p:=h
namespace Tp
open Go.Conc
def pH(gs:Array Goroutine):Prop:=∀r b,partners gs r b=[]
def vE:pH #[ph]:=λr b=>by simp[partners,ph]
def XL{gs gs'}(h:pH gs)(h':pH gs') w c:ways w gs c=ways w gs' c:=by unfold ways;simp only[h _ _,h' _ _]
def oW:Way->Prop
 |.partner _ _=>False|_=>True
def Dk{gs}(h:pH gs) w c:∀x∈ways w gs c,oW x:=by
 unfold ways;simp only[h _ _];intro x hx;revert hx;repeat' split
 all_goals (intro hx;simp at hx;try(subst hx;exact trivial))
abbrev abp:Rest:={timers:=#[],alone:=none,slice:=none}
def Dl sl mono cases:timerAhead {timers:=#[],alone:=none,slice:=sl} mono cases=false:=by unfold timerAhead;rw[Array.any_eq_false];intro k hk;split<;>simp
def qL sl cases w:waitingAt {timers:=#[],alone:=none,slice:=sl} cases w=some w:=by unfold waitingAt;rw[Dl];rfl
def aeC(g g':Goroutine):Prop:=(g'.status=.blocked/\g'.frame=g.frame/\g'.callers=g.callers/\g'.dying=g.dying)∨(g'.status=.running/\g'.callers=g.callers/\g'.dying=g.dying/\((∃v,g'.frame=g.frame.finish v)∨∃l,g'.frame=g.frame.raise l))∨g'=g
def Wq(ops:Array MemOp):Prop:=∀op∈ops,op.g=0/\op.act.touch? =none/\∀m,op.act≠.mark m
structure amu(P:Program)(g:Goroutine)(cases:Array CommCase)(Am:Bool)(shape:CommShape)(w:World)(g':Goroutine)(w':World)(ops:Array MemOp)(k:Nat):Prop where
 drawn:w'.drawn=w.drawn+k
 tape:w'.tape=w.tape
 size:w.heap.size<=w'.heap.size
 left:aeC g g'
 aek:Wq ops
 same:∀τ n,Agree w τ n k->∀(gs:Array Goroutine)(sl:Option (Nat×Nat)),pH gs->communicate P {timers:=#[],alone:=none,slice:=sl} gs 0 g cases Am shape (w.re τ n)=(.next (crowd (gs.setIfInBounds 0 g') (w'.re τ (n+k)) sl),ops)
def Kt{P α Φ}{s:Sem α}(hs:Plain P Φ s) w:(∃k,(wR (s.run P w)).drawn=w.drawn+k/\(wR (s.run P w)).tape=w.tape/\w.heap.size<=(wR (s.run P w)).heap.size/\(∀a w',s.run P w=.ok a w'->Φ a)/\∀τ n,Agree w τ n k->s.run P (w.re τ n)=reR τ (n+k) (s.run P w))∨∃x w',s.run P w=.halt (.unsupported (.noEntry x)) w':=by rcases hs.run w #[]with⟨k,i⟩|⟨u,w',nM,h⟩;refine .inl ⟨k,?_,?_,?_,?_,?_⟩;simpa only[Sem.runT_eq]using i.drawn;simpa only[Sem.runT_eq]using i.tape;simpa only[Sem.runT_eq]using i.size;intro a w' h;exact i.post a w' (by rw[Sem.runT_eq];exact h);intro τ n ha;have:=i.same τ n ha;simp only[Sem.runT_eq,cU]at this;exact this.1;refine .inr ⟨u,w',?_⟩;rw[Sem.runT_eq]at h;exact(Prod.mk.inj h).1
def agk{P}(ready:List (Nat×CommCase×List Way))(h:∀x∈ready,∀y∈x.2.2,oW y) :
  Plain P (λx=>oW x.2.2) (do
   let a <-choose (.select ready.length);let(k,c,ws):=ready.getD a (0,default,[]);let b <-choose (.extern "which waiting goroutine is the partner" ws.length)
   pure (k,c,ws.getD b .closed):Sem (Nat×CommCase×Way)):=by
 intro a b;show oW ((ready.getD a (0,default,[])).2.2.getD b .closed);have hx:∀y∈(ready.getD a (0,default,[])).2.2,oW y:=by
  intro y hy;rw[ab]at hy;cases hr:ready[a]? with
  |none=>rw[hr]at hy;cases hy
  |some x=>rw[hr]at hy;exact h x (List.mem_of_getElem? hr) y hy
 generalize ready.getD a (0,default,[])=x at hx|-;rw[ab];cases hr:x.2.2[b]? with
 |none=>exact trivial
 |some y=>exact hx y (List.mem_of_getElem? hr)
def TP P g cases Am shape w(hg:g.status=.running){m' ops} (h:communicate P abp #[ph] 0 g cases Am shape w=(.next m',ops)):∃g' w' k,m'=solo g' w'/\amu P g cases Am shape w g' w' ops k:=by
 have ayA:∀(g':Goroutine)(gs:Array Goroutine)(u:World)(sl:Option (Nat×Nat)),({world:=u,gs:=gs.setIfInBounds 0 g',rest:={timers:=#[],alone:=none,slice:=sl}}:Machine)=crowd (gs.setIfInBounds 0 g') u sl:=λ_ _ _ _=>rfl;have SR:∀gs,pH gs->∀(u:World)(hu:u.heap=w.heap),(cases.zipIdx.toList.map λ(c,k)=>(k,c,ways u gs c)).filter (λ(_,_,ws)=> !ws.isEmpty)=(cases.zipIdx.toList.map λ(c,k)=>(k,c,ways w #[ph] c)).filter (λ(_,_,ws)=> !ws.isEmpty):=by
  intro gs DN u hu;congr 1;apply eB;rintro⟨c,k⟩_;have:ways u gs c=ways w #[ph] c:=by rw[XL DN vE];unfold ways;rw[hu]
  simp only[this]
 have hnp:∀x∈(cases.zipIdx.toList.map λ(c,k)=>(k,c,ways w #[ph] c)).filter (λ(_,_,ws)=> !ws.isEmpty),∀y∈x.2.2,oW y:=by intro x hx y hy;obtain⟨hx,_⟩:=eT.1 hx;obtain⟨⟨c,k⟩,_,rfl⟩:=List.mem_map.1 hx;exact Dk vE w c y hy
 have SZ:∀τ n,(w.re τ n).heap=w.heap:=λ_ _=>rfl;have hp:=Kt (agk (P:=P) _ hnp) w;dsimp only at hp SR;unfold communicate at h;dsimp only at h;split at h;cases h;rename_i Zk;split at h;rename_i IM;split at h;rename_i mQ;subst mQ;rw[qL]at h;cases h;refine⟨_,w,0,rfl,rfl,rfl,ν,.inl ⟨rfl,rfl,rfl,rfl⟩,λop jy=>by simp at jy,λτ n _ gs sl DN=>?_⟩;unfold communicate;dsimp only;simp only[SZ,SR gs DN (w.re τ n) rfl,qL];rw[if_neg Zk,if_pos IM];rfl;rename_i mQ;cases h;refine⟨_,w,0,rfl,rfl,rfl,ν,.inr (.inl ⟨rfl,rfl,rfl,.inl ⟨_,rfl⟩⟩),λop jy=>by simp at jy,λτ n _ gs sl DN=>?_⟩;unfold communicate;dsimp only;simp only[SZ,SR gs DN (w.re τ n) rfl,qL];rw[if_neg Zk,if_pos IM,if_neg mQ];rfl;rename_i IM;split at h;cases h;rename_i kk c way w1 hpk;rw[hpk]at hp;rcases hp with⟨k,e1,e2,e3,e4,e5⟩|⟨x,w',hx⟩;case inr=>cases hx
 replace e1:w1.drawn=w.drawn+k:=e1;replace e2:w1.tape=w.tape:=e2;replace e3:w.heap.size<=w1.heap.size:=e3;have hnw:=e4 _ _ rfl;have apz:∀τ n,(w1.re τ n).heap=w1.heap:=λ_ _=>rfl;have hpn:∀gs,pH gs->∀r b,partners gs r b=[]:=λ_ h=>h;have apF:∀u:World,Sem.run P (runtimePanic (.plain "send on closed channel"):Sem Unit) u=.halt (.panic (.iface P.rt.plainError (strVal "send on closed channel"))) u:=λu=>rfl;split at h;rw[apF]at h;cases h;refine⟨_,w1,k,rfl,e1,e2,e3,.inr (.inl ⟨hg,rfl,rfl,.inr ⟨_,rfl⟩⟩),λop jy=>by simp at jy,λτ n ha gs sl DN=>?_⟩;unfold communicate;dsimp only;simp only[SZ,SR gs DN (w.re τ n) rfl];rw[if_neg Zk,if_neg IM,e5 τ n ha];dsimp only[reR];rw[apF];rfl;cases h;refine⟨_,w1,k,rfl,e1,e2,e3,.inr (.inl ⟨rfl,rfl,rfl,.inl ⟨_,rfl⟩⟩),λop jy=>?_,λτ n ha gs sl DN=>?_⟩;simp at jy;subst jy;exact⟨rfl,rfl,λm=>by simp⟩;unfold communicate;dsimp only;simp only[SZ,SR gs DN (w.re τ n) rfl];rw[if_neg Zk,if_neg IM,e5 τ n ha];rfl;rename_i cap buf closed gB gN tm v hob hsd;cases h;refine⟨_,_,k,rfl,e1,e2,aGy,.inr (.inl ⟨rfl,rfl,rfl,.inl ⟨_,rfl⟩⟩),λop jy=>?_,λτ n ha gs sl DN=>?_⟩;exact t0134;unfold communicate;dsimp only;simp only[SZ,SR gs DN (w.re τ n) rfl];rw[if_neg Zk,if_neg IM,e5 τ n ha];dsimp only[reR];simp only[apz,hob,hsd];rfl;rename_i cap buf closed gB gN tm hob hsd;rw[vE _ _]at h;cases h;refine⟨_,_,k,rfl,e1,e2,aGy,.inr (.inl ⟨rfl,rfl,rfl,.inl ⟨_,rfl⟩⟩),λop jy=>?_,λτ n ha gs sl DN=>?_⟩;exact t0134;unfold communicate;dsimp only;simp only[SZ,SR gs DN (w.re τ n) rfl];rw[if_neg Zk,if_neg IM,e5 τ n ha];dsimp only[reR];simp only[apz,hob,hsd,hpn gs DN];rfl;exact hnw.elim;exact hnw.elim;cases h
structure Ld(g:Goroutine):Prop where
 run:g.status=.running
 dy:∀d,g.dying=some d->d.calling=true
 ady:ji g.dying g.frame g.callers
def amo(g:Goroutine):Prop:=(g.status=.blocked∨g.status=.waiting∨g.status=.finished)∨(g.status=.running/\arV g)
def Calm(gs:Array Goroutine):Prop:=∀j x,0<j->gs[j]? =some x->x.status=.running∨x.status=.finished
def Calm.no{gs}(h:Calm gs):pH (gs.setIfInBounds 0 ph):=λr b=>partners_nil λj g hj=>by rcases getElem?_stand gs 0 j g hj with⟨_,rfl⟩|⟨h0,hj⟩;exact offersAt_ph r b;exact offersAt_of_not_blocked (by rcases h j g ω hj with e|e<;>rw[e]<;>simp) r b
def Calm.woken{P gs}(h:Calm gs) g g' w:(gs.map (woken P g g' w)).setIfInBounds 0 g'=gs.setIfInBounds 0 g':=by apply bL;intro j;by_cases hj:j=0;subst hj;by_cases hs:0<gs.size;rw[aj aHf,aj hs];rw[aI aHf,aI aHf];rw[ah (aG hj),ah (aG hj),bu];cases hx:gs[j]? with|none=>rfl|some x=>rw[Option.map_some];unfold Go.Conc.woken;split;rw[again_running _ (h j x ω hx)];rfl
structure jN(P:Program)(g:Goroutine)(w:World)(g':Goroutine)(w':World)(ops:Array MemOp)(k:Nat):Prop where
 drawn:w'.drawn=w.drawn+k
 tape:w'.tape=w.tape
 size:w.heap.size<=w'.heap.size
 own:∀op∈ops,op.g=0
 deaf:∀t:Trace,Deaf (t++ops) 0=Deaf t 0
 same:∀τ n,Agree w τ n k->∀(gs:Array Goroutine)(sl:Option (Nat×Nat)),Calm gs->gs[0]? =some g->runT P (crowd gs (w.re τ n) sl) 0=(.next (crowd (gs.setIfInBounds 0 g') (w'.re τ (n+k)) sl),ops)
def po{fn pos es}(h:∀x,deafBehind x es=x) t:Deaf (t++MemOp.ofEvents 0 fn pos es) 0=Deaf t 0:=by rw[Deaf_own,h]
def ZE{ops}(h:Wq ops) t:Deaf (t++ops) 0=Deaf t 0:=by
 obtain⟨l⟩:=ops;rw[Deaf_append];generalize Deaf t 0=d;induction l with
 |nil=>rfl|cons y l ih=>
 have e:deafStep 0 d y=d:=by have:=(h y ζ).2.2;exact t033
 exact t050
def Sw x n f:(#[x]:Array Goroutine).modify (n+1) f=#[x]:=by apply bL;intro j;rw[bd];by_cases hj:n+1=j;subst hj;simp;simp[hj]
def uF{P gs w w1 sl g g2 c es}(hi:gs[0]? =some g)(h:stepG P true g w=.coroswitch g2 c true w1 es):(∃hh,w1.heap[c]? =some (.coro (some hh))/\runT P (crowd gs w sl) 0=(.next (crowd ((gs.setIfInBounds 0 {g2 with status:=.finished}).modify hh (λo=>{o with status:=.running})) {w1 with heap:=w1.heap.setIfInBounds c (.coro none)} sl),MemOp.ofEvents 0 g.frame.fn g.frame.place es))∨(w1.heap[c]? =some (.coro none)/\∃d,d.calling=false/\runT P (crowd gs w sl) 0=(.next (crowd (gs.setIfInBounds 0 {frame:=g2.frame,callers:=[],status:=.running,dying:=some d}) w1 sl),MemOp.ofEvents 0 g.frame.fn g.frame.place es))∨((∀hh,w1.heap[c]?≠some (.coro (some hh)))/\∃o w',runT P (crowd gs w sl) 0=(.ended o w',MemOp.ofEvents 0 g.frame.fn g.frame.place es)):=by
 obtain⟨gV,rfl⟩:=ae.1 hi;have hsw:=swapAt_of_lt gV {(default:Goroutine)with status:=.finished};have hr:runT P (crowd gs w sl) 0=runT P {world:=w,gs:=gs,rest:={timers:=#[],alone:=none,slice:=sl}} 0:=rfl;rw[hr];unfold runT;simp only[hsw,h,GStep.es,set_setIfInBounds gV,BEq.rfl];cases hh:w1.heap[c]? with
 |none=>exact .inr (.inr ⟨by simp,_,_,rfl⟩)|some o=>
 cases o with
 |coro x=>cases x with|none=>exact .inr (.inl ⟨rfl,_,rfl,rfl⟩)|some x=>exact .inl ⟨x,rfl,rfl⟩
 |_=>exact .inr (.inr ⟨by simp,_,_,rfl⟩)
inductive aez(P:Program)(g:Goroutine)(w:World):Prop
 |over (h:∀m' ops,stepT P (solo g w)≠(.next m',ops))
 |many (m':Machine) (ops:Array MemOp) (h:stepT P (solo g w)=(.next m',ops)) (h2:2<=m'.gs.size)
 |off (g':Goroutine) (w':World) (ops:Array MemOp) (h:stepT P (solo g w)=(.next (solo g' w'),ops)) (h2:amo g')
 |move (g':Goroutine) (w':World) (ops:Array MemOp) (k:Nat) (h:stepT P (solo g w)=(.next (solo g' w'),ops)) (h2:Ld g') (h3:g'.dying=g.dying) (h4:jN P g w g' w' ops k)
def JI{P}(hB:iT P) g w(h:Ld g):aez P g w:=by
 have h0:stepT P (solo g w)=runT P (solo g w) 0:=stepT_solo h.run;have pV:∀u,solo g u=crowd #[g] u none:=λ_=>rfl;rcases adn hB g w h.dy h.ady with⟨k,i⟩|pU
 ·have i1:=i.drawn;have i2:=i.tape;have i3:=i.size;have i5:=i.bal;have i6:=i.kind;have i7:=i.same;cases hs:stepG P true g w with
  |go g' w' es=>rw[hs]at i1 i2 i3 i5 i6 i7;refine .move g' w' _ k (h0.trans (runT_solo_go hs)) ⟨i6.2.2,by rw[i6.2.1];exact h.dy,by rw[i6.2.1];exact i6.1⟩ i6.2.1 ⟨i1,i2,i3,λop jy=>?_,po i5,λτ n ha gs sl DN hg=>?_⟩;exact t099;have:=runT_crowd_go (P:=P) (w:=w.re τ n) (sl:=sl) (i:=0) hg (i7 τ n ha);rw[DN.woken]at this;exact this|comm g2 cs bl sh w1 es=>
   rw[hs]at i1 i2 i3 i5 i6 i7;obtain⟨f1,f2,f3⟩:=i6;have hr:=runT_crowd_comm (P:=P) (gs:=#[g]) (sl:=none) (i:=0) aFU hs;cases hcm:communicate P abp #[ph] 0 g2 cs bl sh w1 with|mk r aek=>
   have qX:stepT P (solo g w)=(r,MemOp.ofEvents 0 g.frame.fn g.frame.place es++aek):=by rw[h0,pV,hr,show(#[g].setIfInBounds 0 ph:Array Goroutine)=#[ph]from rfl,show(crowd #[g] w none).rest=abp from rfl,hcm]
   cases r with
   |ended o w'=>exact .over (λm' ops=>by rw[qX];simp)|next m'=>
   obtain⟨g',w',k2,rfl,c⟩:=TP P g2 cs bl sh w1 f3 hcm;have hmv:∀(_:True),jN P g w g' w' (MemOp.ofEvents 0 g.frame.fn g.frame.place es++aek) (k+k2):=λ_=>by refine⟨by rw[c.drawn];show(gW (GStep.comm g2 cs bl sh w1 es)).drawn+k2=_;rw[i1];omega,c.tape.trans i2,ak i3 c.size,λop jy=>?_,λt=>?_,λτ n ha gs sl DN hg=>?_⟩;rcases dM.1 jy with jy|jy;exact t099;exact(c.aek op jy).1;rw[<-eG];exact(ZE c.aek _).trans (po i5 t);have:=runT_crowd_comm (P:=P) (gs:=gs) (sl:=sl) (i:=0) hg (i7 τ n (ha.mono ω));rw[this];have h2:=c.same τ (n+k) (λj hj=>by have:=ha (k+j) ω;rw[aZ,this];show w.tape _=w1.tape _;rw[show w1.tape=w.tape from i2,show w1.drawn=w.drawn+k from i1,aZ]) (gs.setIfInBounds 0 ph) sl DN.no;rw[show(crowd gs (w.re τ n) sl).rest={timers:=#[],alone:=none,slice:=sl}from rfl,h2,set_stand,aZ]
   rcases c.left with⟨l1,_,_,_⟩|⟨l1,l2,l3,l4⟩|rfl;exact .off g' w' _ qX (.inl (.inl l1));refine .move g' w' _ (k+k2) qX ⟨l1,by rw[l3,f2];exact h.dy,?_⟩ (l3.trans f2) (hmv trivial);rw[l3,l2,f2];rcases l4 with⟨v,e⟩|⟨l,e⟩;rw[e];exact f1.finish v;rw[e];exact f1.raise l;exact .move _ w' _ (k+k2) qX ⟨f3,by rw[f2];exact h.dy,by rw[f2];exact f1⟩ f2 (hmv trivial)
  |spawn g2 c w1 es=>exact .many _ _ (h0.trans (runT_solo_spawn hs)) (by simp[duo])|coroswitch g2 c b w1 es=>
   rw[hs]at i1 i2 i3 i5 i6 i7;obtain⟨f1,f2,f3,rfl⟩:=i6;rcases uF (P:=P) (gs:=#[g]) (sl:=none) aFU hs with⟨hh,hr⟩|⟨hh,d,hd,hr⟩|⟨o,hr⟩;cases hh0:hh with
   |zero=>
   subst hh0;refine .move {g2 with status:=.running} {w1 with heap:=w1.heap.setIfInBounds c (.coro none)} (MemOp.ofEvents 0 g.frame.fn g.frame.place es) k (by rw[h0,pV,hr.2,modify_eq_set _ 0 _ {g2 with status:=.finished} rfl];rfl) ⟨rfl,by show∀d,g2.dying=_->_;rw[f2];exact h.dy,by show ji g2.dying _ _;rw[f2];exact f1⟩ f2 ⟨i1,i2,(by show w.heap.size<=(w1.heap.setIfInBounds _ _).size;rw[bt];exact i3),λop jy=>?_,po i5,λτ n ha gs sl DN hg=>?_⟩;exact t099;rcases uF (P:=P) (w:=w.re τ n) (gs:=gs) (sl:=sl) hg (i7 τ n ha)with⟨h2,r1,r2⟩|⟨h2,d,hd,r2⟩|⟨zW,_⟩;rw[show(w1.re τ (n+k)).heap=w1.heap from rfl,hr.1]at r1;cases r1;rw[r2];have gV:0<gs.size:=(ae.1 hg).1;have:(gs.setIfInBounds 0 {g2 with status:=.finished}).modify 0 (λo=>{o with status:=.running})=gs.setIfInBounds 0 {g2 with status:=.running}:=by apply bL;intro j;rw[bd];by_cases hj:0=j;subst hj;simp[gV];simp[hj]
   rw[this];rfl;rw[show(w1.re τ (n+k)).heap=w1.heap from rfl,hr.1]at h2;cases h2;exact absurd (show(w1.re τ (n+k)).heap[c]? =some (.coro (some 0))from hr.1) (zW 0)
   |succ n=>refine .off {g2 with status:=.finished} {w1 with heap:=w1.heap.setIfInBounds c (.coro none)} (MemOp.ofEvents 0 g.frame.fn g.frame.place es) (by rw[h0,pV,hr.2,hh0,show(#[g].setIfInBounds 0 {g2 with status:=.finished}:Array Goroutine)=#[{g2 with status:=.finished}]from rfl,Sw];rfl) (.inl (.inr (.inr rfl)))
   exact .off {frame:=g2.frame,callers:=[],status:=.running,dying:=some d} w1 (MemOp.ofEvents 0 g.frame.fn g.frame.place es) (by rw[h0,pV,hr];rfl) (.inr ⟨rfl,d,rfl,λh=>by rw[hd]at h;cases h⟩);refine .over (λm' ops=>?_);obtain⟨o,w',e⟩:=hr;rw[h0,pV,e];simp
  |ended o w' es=>exact t0123|count _ _ _=>rw[hs]at i6;exact i6.elim
  |timer _ _ _ _=>rw[hs]at i6;exact i6.elim|alone _ _ _ _=>rw[hs]at i6;exact i6.elim
  |newcoro _ _ _ _ _=>rw[hs]at i6;exact i6.elim|collect _ _ _=>rw[hs]at i6;exact i6.elim
  |watch _ _ _=>rw[hs]at i6;exact i6.elim
 replace pU:Wo (stepG P true g w):=pU;cases hs:stepG P true g w with|go g' w' es=>rw[hs]at pU;exact .off g' w' _ (h0.trans (runT_solo_go hs)) pU|ended o w' es=>exact t0123|_=>rw[hs]at pU;exact pU.elim
end Tp
def t047{p:Prop}(h:p:=by exact .inr ⟨rfl,_,rfl,λh=>by rw[hd]at h;cases h⟩):p:=h
namespace Tp
open Go.Conc
def agw p fr d w(hd:d.calling=false):Wo (die p fr d w):=by have azg:∀(fr:Frame)(cs:List Frame)(d:Dying),d.calling=false->Wo (.go {frame:=fr,callers:=cs,status:=.running,dying:=some d} w #[]):=λfr cs d h=>.inr ⟨rfl,d,rfl,λh2=>by rw[h]at h2;cases h2⟩;unfold die;split;rename_i f hf;unfold writeOn;dsimp only;split;exact trivial;split;exact t047;exact .inl (.inl rfl);exact trivial;exact trivial;split;split;exact .inl (.inl rfl);unfold endWith;dsimp only;split;split<;>exact trivial;exact trivial;exact trivial;dsimp only;split;exact t047;split;exact t047;exact trivial;apply kq;split;exact .inr ⟨rfl,_,rfl,λ_=>⟨nK _ _ _ _,aGg,λ_=>rfl⟩⟩;exact t047;exact trivial;exact t098;exact trivial;exact trivial
def aif(m:Machine):Prop:=2<=m.gs.size∨∃g w,m=solo g w/\amo g
def Za{P g w}(h:g.status=.blocked∨g.status=.waiting∨g.status=.finished){m' ops}(hs:stepT P (solo g w)=(.next m',ops)):m'=solo g w:=by
 have hm:move P (solo g w)=askOn P (solo g w):=by simp[move,ask,solo]
 have hr:runnable (solo g w).gs (solo g w).world.os.mono=[]:=by rcases h with h|h|h<;>simp[solo,runnable_eq,Goroutine.canRun,h,List.range_succ]
 have ha:∀b,ahead (solo g w) b=none:=λb=>by rcases h with h|h|h<;>simp[ahead,solo,h]
 have hd:due (solo g w).rest.timers (solo g w).world.os.mono=[]:=by simp[due,solo]
 unfold stepT at hs;rw[hm]at hs;unfold askOn at hs;simp only[hr,hd,ha,List.isEmpty_nil,if_true,pure,Sem.run]at hs;split at hs
 ·rename_i m2 i2 hx;revert hx;repeat' split
  all_goals (intro hx;cases hx)
 rename_i s YL hx;cases hs;revert hx;simp only[bW,eg,if_false];split;intro hx;cases hx;rfl;split;intro hx;cases hx;intro hx;cases hx
def YM{P}(hB:iT P){g w}(h:amo g){m' ops}(hs:stepT P (solo g w)=(.next m',ops)):aif m':=by
 rcases h with h|⟨hr,d,hd,hf⟩;exact .inr ⟨g,w,Za h hs,.inl h⟩;cases hc:d.calling with
 |false=>
  have h0:stepT P (solo g w)=runT P (solo g w) 0:=stepT_solo hr;have hg:stepG P true g w=die P g.frame d w:=by obtain⟨fr,cs,st,dy,off⟩:=g;obtain rfl:dy=some d:=hd;obtain⟨a1,a2,a3,a4,a5,a6,a7⟩:=d;obtain rfl:a3=false:=hc;rfl
  have pU:=agw P g.frame d w hc;rw[<-hg]at pU;cases ig:stepG P true g w with
  |go g' w' es=>rw[ig]at pU;rw[h0,runT_solo_go ig]at hs;cases hs;exact .inr ⟨g',w',rfl,pU⟩
  |ended o w' es=>rw[h0,show solo g w=crowd #[g] w none from rfl,runT_many_ended (i:=0) aFU ig]at hs;cases hs
  |_=>rw[ig]at pU;exact pU.elim
 |true=>
 have hld:Ld g:=⟨hr,λd' hd'=>by rw[hd]at hd';cases hd';exact hc,by rw[hd];exact hf hc⟩;cases JI hB g w hld with
 |over hx=>exact absurd hs (hx _ _)|many m2 YL h1 h2=>rw[h1]at hs;cases hs;exact .inl h2
 |off g' w' YL h1 h2=>rw[h1]at hs;cases hs;exact .inr ⟨g',w',rfl,h2⟩
 |move g' w' YL k h1 h2 h3 h4=>rw[h1]at hs;cases hs;exact .inr ⟨g',w',rfl,.inr ⟨h2.run,d,h3.trans hd,λ_=>by have:=h2.ady;rw[h3,hd]at this;exact this⟩⟩
theorem Hn{P}(hB:iT P):∀N {m m':Machine},aif m->runN P N m=.next m'->aif m'
 |0,m,m',h,hr=>by cases hr;exact h
 |N+1,m,m',h,hr=>by
  simp only[runN]at hr;cases hs:stepT P m with
  |mk r ops=>
  have ig:step P m=r:=by unfold step;rw[hs]
  rw[ig]at hr;cases r with
  |ended o w=>cases hr
  |next m2=>refine Hn hB N ?_ hr;rcases h with h|⟨g,w,rfl,ho⟩;exact .inl (ak h (stepT_size P m m2 true (by rw[hs])));exact YM hB ho hs
def pt{g g' w w'}(h:solo g w=solo g' w'):g=g'/\w=w':=by unfold solo at h;injection h with h1 h2 h3;exact⟨by simpa using h2,h1⟩
def Kh(g:Goroutine):Prop:=g.status=.running/\g.dying=none
def Vj{g w}(h:Kh g):¬aif (solo g w):=by rintro(h2|⟨g',w',e,ho⟩);simp[solo]at h2;obtain⟨rfl,rfl⟩:=pt e;rcases ho with ho|⟨_,d,hd,_⟩;rcases ho with ho|ho|ho<;>rw[h.1]at ho<;>cases ho;rw[h.2]at hd;cases hd
def BP{P}(hB:iT P){g gS w wS}(h:Ld g)(hd:g.dying=none){N}(hr:runN P (N+1) (solo g w)=.next (solo gS wS))(hg:Kh gS):∃g' w' ops k,Ld g'/\g'.dying=none/\jN P g w g' w' ops k/\runN P N (solo g' w')=.next (solo gS wS):=by
 simp only[runN]at hr;have ig:step P (solo g w)=(stepT P (solo g w)).1:=rfl;rw[ig]at hr;cases JI hB g w h with
 |over hx=>
  cases hs:stepT P (solo g w)with
  |mk r ops=>
  rw[hs]at hr;cases r with
  |ended o w'=>cases hr
  |next m=>exact absurd hs (hx _ _)
 |many m2 ops h1 h2=>rw[h1]at hr;exact absurd (Hn hB N (.inl h2) hr) (Vj hg)|off g' w' ops h1 h2=>rw[h1]at hr;exact absurd (Hn hB N (.inr ⟨g',w',rfl,h2⟩) hr) (Vj hg)
 |move g' w' ops k h1 h2 h3 h4=>rw[h1]at hr;exact⟨g',w',ops,k,h2,h3.trans hd,h4,hr⟩
def ad0 g:Calm #[g]:=λj x hj hx=>by
 have:j<1:=by simpa using(ae.1 hx).1
 omega
def jN.solo{P g g' w w' ops k}(h:jN P g w g' w' ops k)(hr:g.status=.running) τ n(ha:Agree w τ n k):stepT P (solo g (w.re τ n))=(.next (solo g' (w'.re τ (n+k))),ops):=by rw[stepT_solo hr];exact h.same τ n ha #[g] none (ad0 g) rfl
def AV{P m m1 ops}(h:stepT P m=(.next m1,ops)) N:runN P (N+1) m=runN P N m1:=by simp only[runN];have ig:step P m=(stepT P m).1:=rfl;rw[ig,h]
theorem abf{P}(hB:iT P):∀N {g gS:Goroutine}{w wS:World},Ld g->g.dying=none->runN P N (solo g w)=.next (solo gS wS)->Kh gS->∀τ n,(∀i,τ (n+i)=w.tape (w.drawn+i))->∃j,runN P N (solo g (w.re τ n))=.next (solo gS (wS.re τ (n+j)))
 |0,g,gS,w,wS,_,_,hr,_,τ,n,_=>by simp only[runN]at hr;injection hr with hr;obtain⟨rfl,rfl⟩:=pt hr;exact⟨0,rfl⟩
 |N+1,g,gS,w,wS,h,hd,hr,hg,τ,n,ht=>by obtain⟨g',w',ops,k,h1,h2,h3,h4⟩:=BP hB h hd hr hg;have hm:=h3.solo h.run τ n (λj _=>ht j);obtain⟨j,hj⟩:=abf hB N h1 h2 h4 hg τ (n+k) (λi=>by rw[h3.tape,h3.drawn,aZ,aZ];exact ht (k+i));exact⟨k+j,by rw[AV hm,hj,aZ]⟩
inductive Term(P:Program)(Stop:Goroutine->World->Prop):Goroutine->World->Prop
 |stop {g:Goroutine} {w:World} (h:Stop g w):Term P Stop g w
 |next {g:Goroutine} {w:World} (nx:(Nat->Question->Nat)->Nat->Goroutine×World) (h1:∀τ n,∃ops k,jN P g (w.re τ n) (nx τ n).1 (nx τ n).2 ops k) (h2:∀τ n,Ld (nx τ n).1/\(nx τ n).1.dying=none) (h3:∀τ n,Term P Stop (nx τ n).1 (nx τ n).2):Term P Stop g w
def Term.step{P Stop g w}(h:∀τ n,∃g' w' ops k,jN P g (w.re τ n) g' w' ops k/\Ld g'/\g'.dying=none/\Term P Stop g' w'):Term P Stop g w:=by
 have h':∀τ n,∃x:Goroutine×World,∃ops k,jN P g (w.re τ n) x.1 x.2 ops k/\Ld x.1/\x.1.dying=none/\Term P Stop x.1 x.2:=λτ n=>let⟨g',w',ops,k,h⟩:=h τ n;⟨(g',w'),ops,k,h⟩
 refine .next (λτ n=>Classical.choose (h' τ n)) (λτ n=>?_) (λτ n=>?_) (λτ n=>?_);obtain⟨ops,k,h1,_⟩:=db (h' τ n);exact⟨ops,k,h1⟩;obtain⟨ops,k,_,h2,h3,_⟩:=db (h' τ n);exact⟨h2,h3⟩;obtain⟨ops,k,_,_,_,h4⟩:=db (h' τ n);exact h4
def I3(P:Program)(Stop:Goroutine->World->Prop)(g:Goroutine)(w:World):Prop:=∀τ n,∃N gS wS,runN P N (solo g (w.re τ n))=.next (solo gS wS)/\Kh gS/\Stop gS wS
structure St(P:Program)(Stop:Goroutine->World->Prop) where
 g:Goroutine
 w:World
 ld:Ld g
 dy:g.dying=none
 bad:¬Term P Stop g w
 runs:I3 P Stop g w
section
variable{P:Program}{Stop:Goroutine->World->Prop}
def I3.next(hB:iT P)(hS:∀g w τ n,Stop g w->Stop g (w.re τ n)){g g' w w' ops k}(h:I3 P Stop g w)(hl:Ld g)(hns:¬Stop g w)(hm:jN P g w g' w' ops k)(hl':Ld g')(hd':g'.dying=none):I3 P Stop g' w':=by
 intro τ n;let τ':Nat->Question->Nat:=λi=>if i<k then w.tape (w.drawn+i)else τ (n+(i-k))
 obtain⟨N,gS,wS,h1,h2,h3⟩:=h τ' 0;cases N with
 |zero=>simp only[runN]at h1;injection h1 with h1;obtain⟨rfl,rfl⟩:=pt h1;exact absurd (by have:=hS _ _ w.tape w.drawn h3;exact this) hns
 |succ N=>have hs:=hm.solo hl.run τ' 0 (λi hi=>by show τ' (0+i)=_;rw[aC];exact if_pos hi);rw[AV hs]at h1;obtain⟨j,hj⟩:=abf hB N (w:=w'.re τ' (0+k)) hl' hd' h1 h2 τ n (λi=>by show _=τ' (0+k+i);rw[show τ' (0+k+i)=τ (n+(0+k+i-k))from if_neg ω];congr 1;omega);exact⟨N,gS,_,hj,h2,hS _ _ _ _ h3⟩
def St.next(hB:iT P)(hS:∀g w τ n,Stop g w->Stop g (w.re τ n))(s:St P Stop):∃(s':St P Stop)(τ:Nat->Question->Nat)(n:Nat)(ops:Array MemOp)(k:Nat),jN P s.g (s.w.re τ n) s'.g s'.w ops k:=by
 obtain⟨g,w,ld,dy,bad,runs⟩:=s;have hns:¬Stop g w:=λh=>bad (.stop h);have:¬∀τ n,∃g' w' ops k,jN P g (w.re τ n) g' w' ops k/\Ld g'/\g'.dying=none/\Term P Stop g' w':=λh=>bad (.step h);obtain⟨τ,h2⟩:=Classical.not_forall.1 this;obtain⟨n,h3⟩:=Classical.not_forall.1 h2;obtain⟨N,gS,wS,h1,hg,ig⟩:=runs τ n;cases N with
 |zero=>simp only[runN]at h1;injection h1 with h1;obtain⟨rfl,rfl⟩:=pt h1;exact absurd (by have:=hS _ _ w.tape w.drawn ig;exact this) hns
 |succ N=>obtain⟨g',w',ops,k,a1,a2,a3,a4⟩:=BP hB ld dy h1 hg;have aoo:I3 P Stop g (w.re τ n):=λτ2 n2=>runs τ2 n2;refine⟨⟨g',w',a1,a2,λht=>h3 ⟨g',w',ops,k,a3,a1,a2,ht⟩,aoo.next hB hS ld (λh=>hns (by have:=hS _ _ w.tape w.drawn h;exact this)) a3 a1 a2⟩,τ,n,ops,k,a3⟩
def PL(hB:iT P)(hS:∀g w τ n,Stop g w->Stop g (w.re τ n))(s0:St P Stop):False:=by
 classical
 have hn:∀s:St P Stop,∃x:St P Stop× (Nat->Question->Nat)×Nat×Array MemOp×Nat,jN P s.g (s.w.re x.2.1 x.2.2.1) x.1.g x.1.w x.2.2.2.1 x.2.2.2.2:=λs=>let⟨s',τ,n,ops,k,h⟩:=s.next hB hS;⟨⟨s',τ,n,ops,k⟩,h⟩
 let nx:St P Stop->St P Stop× (Nat->Question->Nat)×Nat×Array MemOp×Nat:=λs=>Classical.choose (hn s)
 have Ax:∀s:St P Stop,jN P s.g (s.w.re (nx s).2.1 (nx s).2.2.1) (nx s).1.g (nx s).1.w (nx s).2.2.2.1 (nx s).2.2.2.2:=λs=>db (hn s);let f:Nat->St P Stop:=λi=>Nat.rec s0 (λ_ s=>(nx s).1) i
 have hf:∀i,f (i+1)=(nx (f i)).1:=λ_=>rfl;let kk:Nat->Nat:=λi=>(nx (f i)).2.2.2.2
 let c:Nat->Nat:=λi=>Nat.rec 0 (λj x=>x+kk j) i
 have hc:∀i,c (i+1)=c i+kk i:=λ_=>rfl;have aiW:∀i j,i<=j->c i<=c j:=by intro i j h;induction h with|refl=>exact ν|step _ ih=>rw[hc];omega
 let σ:Nat->Question->Nat:=λx=>if h:∃i,c i<=x/\x<c (i+1)then(nx (f (Classical.choose h))).2.1 ((nx (f (Classical.choose h))).2.2.1+(x-c (Classical.choose h)))else λ_=>0
 have hσ:∀i j,j<kk i->σ (c i+j)=(nx (f i)).2.1 ((nx (f i)).2.2.1+j):=by
  intro i j hj;have hex:∃i',c i'<=c i+j/\c i+j<c (i'+1):=⟨i,by omega,by rw[hc];omega⟩;have hi:Classical.choose hex=i:=by have h12:c (Classical.choose hex)<=c i+j/\c i+j<c (Classical.choose hex+1):=db hex;generalize Classical.choose hex=i0 at h12|-;obtain⟨h1,h2⟩:=h12;have e1:=hc i;have e2:=hc i0;rcases Nat.lt_trichotomy i0 i with h|h|h;have:c (i0+1)<=c i:=aiW _ _ h;omega;exact h;have:c (i+1)<=c i0:=aiW _ _ h;omega
  show(if h:∃i',c i'<=c i+j/\c i+j<c (i'+1)then _ else _)=_;rw[dif_pos hex];have hi2:c hex.choose=c i:=congrArg c hi;have hi3:f hex.choose=f i:=congrArg f hi;show(nx (f hex.choose)).2.1 ((nx (f hex.choose)).2.2.1+(c i+j-c hex.choose))=_;rw[hi2,hi3,show c i+j-c i=j by omega]
 have jm:∀i,runN P i (solo s0.g (s0.w.re σ 0))=.next (solo (f i).g ((f i).w.re σ (c i))):=by intro i;induction i with|zero=>rfl|succ i ih=>rw[runN_add P i 1,ih];have hm:=(Ax (f i)).solo (f i).ld.run σ (c i) (λj hj=>hσ i j hj);have:=AV hm 0;dsimp only;rw[show(f i).w.re σ (c i)=((f i).w.re (nx (f i)).2.1 (nx (f i)).2.2.1).re σ (c i)from rfl,this];rfl
 obtain⟨N,gS,wS,h1,h2,h3⟩:=s0.runs σ 0;rw[jm N]at h1;injection h1 with h1;obtain⟨rfl,rfl⟩:=pt h1;have:=hS _ _ (f N).w.tape (f N).w.drawn h3;exact(f N).bad (.stop this)
def y6(hB:iT P)(hS:∀g w τ n,Stop g w->Stop g (w.re τ n)){g w}(hl:Ld g)(hd:g.dying=none)(h:I3 P Stop g w):Term P Stop g w:=aV λhn=>PL hB hS ⟨g,w,hl,hd,hn,h⟩
end
end Tp
def t014{p:Prop}(h:p:=by
 obtain rfl:g=a:=by rw[h0]at hi;exact(aA hi).symm
 obtain⟨a',w',ops,b1,b2,b3,b4⟩:=h d;have Mo:=ig.trans (b3 gs vh (zH hL) h0);have gV:0<gs.size:=(ae.1 h0).1;obtain⟨N,gs2,a2,w2,sl2,t2,q2,r2,h2,L2,P2,s2⟩:=b4 (gs.setIfInBounds 0 a') vh (t++ops) q (by simp[gV]) (CU hL a' gV b1) (hP.app0 b1 (b2 t));exact⟨N+1,gs2,a2,w2,sl2,t2,q2,by simp only[runNT,Mo];exact r2,h2,L2,P2,s2⟩):p:=h
namespace Tp
open Go.Conc
open Go.ConcN (sumTo upd sumTo_upd upd_ne upd_same)
structure ny(t:Trace):Prop where
 clean:∀said,¬Race said t
 known:∀i a,touchAt t i=some a->a.loc.isMemory=true->Knows t 0 i
 over:t.HandedOver
 hears:Deaf t 0=0
def YF:ny #[]:=⟨λsaid=>by rintro⟨i,j,_,⟨a,b,ha,_⟩,_⟩;simp[Trace.act?]at ha,λi a ha=>by simp[touchAt,Trace.act?]at ha,λi g hg=>by simp[Trace.g?]at hg,rfl⟩
section
variable{t u:Trace}
def ny.app0(h:ny t)(hu:∀op∈u,op.g=0)(hd:Deaf (t++u) 0=Deaf t 0):ny (t++u):=by refine⟨λsaid=>noRace_append (h.clean said) hu λi a ha op jy b hb hc=>h.known i a ha hc.2.1,λi a ha hm=>?_,handedOver_app h.over λop jy=>.inl (hu op jy),hd.trans h.hears⟩;obtain⟨x,hx,Au⟩:=touch_of ha;rcases getElem?_append_cases hx with⟨_,wV⟩|⟨_,hxu⟩;exact(h.known i a aGo hm).app u;have:=knows_own hx;rw[hu x hxu]at this;exact this
def ny.appMute{g}(h:ny t)(hg:g≠0)(hu:∀op∈u,op.g=g)(hn:∀op∈u,op.act.touch? =none):ny (t++u):=by refine⟨λsaid=>noRace_append (h.clean said) hu λi a _ op jy b hb _=>(by rw[hn op jy]at hb;cases hb),λi a ha hm=>?_,handedOver_app h.over λop jy=>.inr (hn op jy),(Deaf_other t hg u hu).trans h.hears⟩;obtain⟨x,hx,Au⟩:=touch_of ha;rcases getElem?_append_cases hx with⟨_,wV⟩|⟨_,hxu⟩;exact(h.known i a aGo hm).app u;rw[hn x hxu]at Au;cases Au
theorem ny.mute(h:ny t){g}(hg:g≠0){fn pos es}(hm:∀e∈es,e.mute=true):ny (t++MemOp.ofEvents g fn pos es):=h.appMute hg aFZ (λop jy=>by obtain⟨e,he,rfl⟩:=Go.Conc.mem_ofEvents jy;exact touch_mute (hm e he))
end
def zH{P t gs q}(h:Leavers P t gs q):Calm gs:=λj x hj hx=>(h.old j x hj hx).status
def CU{P t u gs q}(h:Leavers P t gs q) g'(h0:0<gs.size)(hu:∀op∈u,op.g=0):Leavers P (t++u) (gs.setIfInBounds 0 g') q:=⟨λj x hj hx=>by
 rw[ah ω]at hx;rw[Deaf_other t (g:=j) (g':=0) ω _ hu];exact h.old j x hj hx,λj hj=>by
 rw[bt]at hj;rw[Deaf_other t (g:=j) (g':=0) ω _ hu];exact h.above j hj⟩
def slip{P t gs q w sl i a g}(hL:Leavers P t gs q)(hP:ny t)(h0:gs[0]? =some a)(ha:a.status=.running)(hi:gs[i]? =some g)(pT:0<i)(hg:g.status=.running):∃gs' ops q',runT P (crowd gs w sl) i=(.next (crowd gs' w sl),ops)/\gs'[0]? =some a/\gs'.size=gs.size/\Leavers P (t++ops) gs' q'/\ny (t++ops)/\sumTo gs'.size q'<sumTo gs.size q:=by
 have hq:=hL.old i g pT hi;have kV:(i==0)=false:=aFJ;have gV:i<gs.size:=(ae.1 hi).1;cases hqi:q i with
 |zero=>rw[hqi]at hq;rw[hq.1]at hg;cases hg
 |succ k=>
 rw[hqi]at hq;rcases hq with⟨hf,_⟩|⟨_,g',es,hm,akV,hq'⟩;rw[hf]at hg;cases hg;have acJ:=runT_crowd_go (P:=P) (w:=w) (sl:=sl) (i:=i) hi (by rw[kV];exact akV w);have pL:((gs.map (woken P g g' w)).setIfInBounds i g').size=gs.size:=ζ;have api:sumTo gs.size (upd q i k)+(k+1)=sumTo gs.size q+k:=by have:=sumTo_upd q k id gV;simpa[hqi]using this
 refine⟨_,_,upd q i k,acJ,?_,pL,⟨λj x hj hx=>?_,λj hj=>?_⟩,hP.mute ω hm,by rw[pL];omega⟩;have iZ:i≠0:=by omega
 rw[ah iZ,bu,h0];simp[woken_run ha];by_cases ij:i=j;subst ij;rw[aj aH3]at hx;obtain rfl:=aA hx;rw[upd_same,Deaf_own];exact hq';rw[ah ij,bu]at hx;obtain⟨y,hy,rfl⟩:=aS.1 hx;have hqj:=hL.old j y hj hy;rw[woken_quitsD hqj,upd_ne q k (aG ij),Deaf_other t ij _ aFZ];exact hqj;rw[Deaf_other t (g':=i) aGx _ aFZ];exact hL.above j aJe
def xb{P t gs q a}(hL:Leavers P t gs q)(h0:gs[0]? =some a)(ha:a.status=.running):∀g∈gs,awake g:=by
 intro g hg;obtain⟨i,hi,rfl⟩:=Array.mem_iff_getElem.1 hg;rcases cY i with rfl|pT;have:gs[0]=a:=by simpa[Array.getElem?_eq_getElem hi]using h0
 rw[this];exact awake_of (.inl ha);exact awake_of ((hL.old i _ pT (Array.getElem?_eq_getElem hi)).status.elim .inl λx=>.inr (.inr x))
def Ih(P:Program)(Stop:Goroutine->World->Prop)(a:Goroutine)(w:World):Prop:=∀(gs:Array Goroutine)(sl:Option (Nat×Nat))(t:Trace)(q:Nat->Nat),gs[0]? =some a->Leavers P t gs q->ny t->∃(N:Nat)(gs':Array Goroutine)(a':Goroutine)(w':World)(vh:Option (Nat×Nat))(t':Trace)(q':Nat->Nat),runNT P N (crowd gs w sl) t=(.next (crowd gs' w' vh),t')/\gs'[0]? =some a'/\Leavers P t' gs' q'/\ny t'/\Stop a' w'
section
variable{P:Program}{Stop Hq:Goroutine->World->Prop}{a:Goroutine}{w:World}
def Ih.stop(h:Stop a w):Ih P Stop a w:=λgs sl t q h0 hL hP=>⟨0,gs,a,w,sl,t,q,rfl,h0,hL,hP,h⟩
def Ih.trans(h:Ih P Stop a w)(h':∀a' w',Stop a' w'->Ih P Hq a' w'):Ih P Hq a w:=by intro gs sl t q h0 hL hP;obtain⟨N,gs1,a1,w1,sl1,t1,q1,r1,h1,L1,P1,s1⟩:=h gs sl t q h0 hL hP;obtain⟨N2,gs2,a2,w2,sl2,t2,q2,r2,h2,L2,P2,s2⟩:=h' a1 w1 s1 gs1 sl1 t1 q1 h1 L1 P1;exact⟨N+N2,gs2,a2,w2,sl2,t2,q2,by rw[runNT_add,r1];exact r2,h2,L2,P2,s2⟩
def Ih.mono(h:Ih P Stop a w)(h':∀a' w',Stop a' w'->Hq a' w'):Ih P Hq a w:=h.trans λa' w' s=>.stop (h' a' w' s)
def Ih.step(hr:a.status=.running)(h:∀d,∃a' w' ops,(∀op∈ops,op.g=0)/\(∀t,Deaf (t++ops) 0=Deaf t 0)/\(∀gs sl,Calm gs->gs[0]? =some a->runT P (crowd gs (w.at d) sl) 0=(.next (crowd (gs.setIfInBounds 0 a') w' sl),ops))/\Ih P Stop a' w'):Ih P Stop a w:=by
 have key:∀(M:Nat)(gs:Array Goroutine)(sl:Option (Nat×Nat))(t:Trace)(q:Nat->Nat)(e:Nat),sumTo gs.size q<=M->gs[0]? =some a->Leavers P t gs q->ny t->∃(N:Nat)(gs':Array Goroutine)(a':Goroutine)(w':World)(vh:Option (Nat×Nat))(t':Trace)(q':Nat->Nat),runNT P N (crowd gs (w.at e) sl) t=(.next (crowd gs' w' vh),t')/\gs'[0]? =some a'/\Leavers P t' gs' q'/\ny t'/\Stop a' w':=by
  intro M;induction M with
  |zero=>intro gs sl t q e hM h0 hL hP;obtain⟨i,g,d,vh,hi,hg,ig⟩:=crowd_pick (P:=P) (w:=w.at e) (sl:=sl) (xb hL h0 hr) ⟨0,a,h0,hr⟩;rcases cY i with rfl|pT;exact t014;obtain⟨gs',ops,q',c1,c2,c3,c4,c5,c6⟩:=slip (w:=(w.at e).at d) (sl:=vh) hL hP h0 hr hi pT hg;omega
  |succ M ih=>intro gs sl t q e hM h0 hL hP;obtain⟨i,g,d,vh,hi,hg,ig⟩:=crowd_pick (P:=P) (w:=w.at e) (sl:=sl) (xb hL h0 hr) ⟨0,a,h0,hr⟩;rcases cY i with rfl|pT;exact t014;obtain⟨gs',ops,q',c1,c2,c3,c4,c5,c6⟩:=slip (w:=(w.at e).at d) (sl:=vh) hL hP h0 hr hi pT hg;obtain⟨N,gs2,a2,w2,sl2,t2,q2,r2,h2,L2,P2,s2⟩:=ih gs' vh (t++ops) q' d ω c2 c4 c5;exact⟨N+1,gs2,a2,w2,sl2,t2,q2,by simp only[runNT,ig.trans c1];exact r2,h2,L2,P2,s2⟩
 intro gs sl t q h0 hL hP;exact key _ gs sl t q w.drawn ν h0 hL hP
def P0(hS:∀g w τ n,Stop g w->Stop g (w.re τ n))(h:Term P Stop a w):Ld a->∀τ n,Ih P Stop a (w.re τ n):=by induction h with|stop h=>exact λ_ τ n=>.stop (hS _ _ _ _ h)|next nx h1 h2 h3 ih=>intro hl τ n;refine Ih.step hl.run λd=>?_;obtain⟨ops,k,hm⟩:=h1 τ d;refine⟨_,_,ops,hm.own,hm.deaf,λgs sl hc h0=>hm.same τ d (λ_ _=>rfl) gs sl hc h0,?_⟩;exact ih τ d (h2 τ d).1 τ (d+k)
def P7(hB:iT P)(hS:∀g w τ n,Stop g w->Stop g (w.re τ n))(hl:Ld a)(hd:a.dying=none)(h:I3 P Stop a w):Ih P Stop a w:=P0 hS (y6 hB hS hl hd h) hl w.tape w.drawn
end
end Tp
