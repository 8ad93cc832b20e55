import Derived.Test.YtlpcjiollnnmgabGreatDoorMZ
import Derived.Conc.Own
import GoSem.ClaimLeaving
set_option maxRecDepth 100000
set_option maxHeartbeats 8000000
set_option linter.all false
def Go.World.re(w:Go.World)(τ:Nat->Go.Question->Nat)(n:Nat):Go.World:={w with tape:=τ,drawn:=n}
namespace Go.Proofs.YtlpcjiollnnmgabGreatDoor
namespace Rn
structure Env where
 G:Nat
 C:Nat->Option Nat
 F:Nat->Prop
variable{E:Env}
def At(E:Env)(X:List Nat)(r b:Nat):Prop:=E.G<=r/\X[r-E.G]? =some b
def flat:Value->Prop
 |.agg _|.tuple _=>False|_=>True
inductive V(E:Env)(X:List Nat):Value->Value->Prop
 |bool (b:Bool):V E X (.bool b) (.bool b)
 |int (k:IntKind) (n:Int):V E X (.int k n) (.int k n)
 |string (s:ByteArray):V E X (.string s) (.string s)
 |ptrN:V E X (.pointer none) (.pointer none)
 |ptr (r b off:Nat) (sp:Option Nat) (h:At E X r b):V E X (.pointer (some ⟨r,off,sp⟩)) (.pointer (some ⟨b,off,sp⟩))
 |fp (n c:Nat):V E X (.slice none n c) (.slice none n c)
 |slice (r b off:Nat) (sp:Option Nat) (n c:Nat) (h:At E X r b):V E X (.slice (some ⟨r,off,sp⟩) n c) (.slice (some ⟨b,off,sp⟩) n c)
 |Bu:V E X (.map none) (.map none)
 |map (r b:Nat) (h:At E X r b):V E X (.map (some r)) (.map (some b))
 |sq:V E X (.chan none) (.chan none)
 |chan (r b:Nat) (h:E.C r=some b):V E X (.chan (some r)) (.chan (some b))
 |func (f:FuncId) (a a' c c':Array Value) (hF:E.F f) (h1:a.size=a'.size) (h2:∀(i:Nat)(v v':Value),a[i]? =some v->a'[i]? =some v'->V E X v v') (h3:c.size=c'.size) (h4:∀(i:Nat)(v v':Value),c[i]? =some v->c'[i]? =some v'->V E X v v'):V E X (.func (.func f) a c) (.func (.func f) a' c')
 |nilFunc:V E X .nilFunc .nilFunc
 |iface (t:TypeId) (v v':Value) (h:V E X v v'):V E X (.iface t v) (.iface t v')
 |nilIface:V E X .nilIface .nilIface
 |agg (a a':Array Value) (h1:a.size=a'.size) (h2:∀(i:Nat)(v v':Value),a[i]? =some v->a'[i]? =some v'->V E X v v'):V E X (.agg a) (.agg a')
 |tuple (a a':Array Value) (h1:a.size=a'.size) (h2:∀(i:Nat)(v v':Value),a[i]? =some v->a'[i]? =some v'->V E X v v'):V E X (.tuple a) (.tuple a')
 |undef (v:Value) (h:flat v):V E X (.func (.method "") #[.nilIface] #[]) v
structure VA(E:Env)(X:List Nat)(a a':Array Value):Prop where
 size:a.size=a'.size
 el:∀(i:Nat)(v v':Value),a[i]? =some v->a'[i]? =some v'->V E X v v'
structure ME(E:Env)(X:List Nat)(e e':MapEntry):Prop where
 key:V E X e.key e'.key
 val:V E X e.val e'.val
 born:e.born=e'.born
structure MA(E:Env)(X:List Nat)(a a':Array MapEntry):Prop where
 size:a.size=a'.size
 el:∀(i:Nat)(v v':MapEntry),a[i]? =some v->a'[i]? =some v'->ME E X v v'
inductive mP(E:Env)(X:List Nat):Obj->Obj->Prop
 |cells (c c':Array Value) (e:TypeId) (fz Hk:Nat×Nat) (h:VA E X c c') (hf:Hk=fz∨fz=(0,c.size)):mP E X (.cells c e fz) (.cells c' e Hk)
 |map (a a':Array MapEntry) (n:Nat) (h:MA E X a a'):mP E X (.map a n) (.map a' n)
 |Fi (s:Nat) (x:Array Nat) (n:Nat):mP E X (.mapIter none s x n) (.mapIter none s x n)
 |iter (r b s:Nat) (x:Array Nat) (n:Nat) (h:At E X r b):mP E X (.mapIter (some r) s x n) (.mapIter (some b) s x n)
 |number (r b off:Nat) (sp:Option Nat) (l:Bool) (h:At E X r b):mP E X (.number ⟨r,off,sp⟩ l) (.number ⟨b,off,sp⟩ l)
def At.app{X r b}(h:At E X r b) Y:At E (X++Y) r b:=by obtain⟨h1,h2⟩:=h;refine⟨h1,?_⟩;rw[List.getElem?_append_left (List.getElem?_eq_some_iff.1 h2).1];exact h2
def V.app{X v v'}(h:V E X v v') Y:V E (X++Y) v v':=by induction h with|bool b=>exact .bool b|int k n=>exact .int k n|string s=>exact .string s|ptrN=>exact .ptrN|ptr r b o s h=>exact .ptr r b o s (h.app Y)|fp n c=>exact .fp n c|slice r b o s n c h=>exact .slice r b o s n c (h.app Y)|Bu=>exact .Bu|map r b h=>exact .map r b (h.app Y)|sq=>exact .sq|chan r b h=>exact .chan r b h|func f a a' c c' hF h1 _ h3 _ i1 i2=>exact .func f a a' c c' hF h1 i1 h3 i2|nilFunc=>exact .nilFunc|iface t v v' _ i=>exact .iface t v v' i|nilIface=>exact .nilIface|agg a a' h1 _ i=>exact .agg a a' h1 i|tuple a a' h1 _ i=>exact .tuple a a' h1 i|undef v h=>exact .undef v h
theorem VA.app{X a a'}(h:VA E X a a') Y:VA E (X++Y) a a':=⟨h.size,λi v v' h1 h2=>(h.el i v v' h1 h2).app Y⟩
theorem MA.app{X a a'}(h:MA E X a a') Y:MA E (X++Y) a a':=⟨h.size,λi v v' h1 h2=>let x:=h.el i v v' h1 h2;⟨x.key.app Y,x.val.app Y,x.born⟩⟩
def mP.app{X o o'}(h:mP E X o o') Y:mP E (X++Y) o o':=by cases h with|cells c c' e fz Hk h hf=>exact .cells c c' e fz Hk (h.app Y) hf|map a a' n h=>exact .map a a' n (h.app Y)|Fi s x n=>exact .Fi s x n|iter r b s x n h=>exact .iter r b s x n (h.app Y)|number r b o s l h=>exact .number r b o s l (h.app Y)
def VA.get{X a a'}(h:VA E X a a')(i:Nat):(∃v v',a[i]? =some v/\a'[i]? =some v'/\V E X v v')∨(a[i]? =none/\a'[i]? =none):=by
 by_cases hi:i<a.size;have KH:i<a'.size:=by rw[<-h.size];exact hi
 exact .inl ⟨a[i],a'[i],Array.getElem?_eq_getElem hi,Array.getElem?_eq_getElem KH,h.el i _ _ (Array.getElem?_eq_getElem hi) (Array.getElem?_eq_getElem KH)⟩;exact .inr ⟨Array.getElem?_eq_none (by omega),Array.getElem?_eq_none (by rw[<-h.size];omega)⟩
def VA.empty X:VA E X #[] #[]:=⟨rfl,λi v v' h=>by simp at h⟩
def VA.push{X a a'}(h:VA E X a a'){v v'}(hv:V E X v v'):VA E X (a.push v) (a'.push v'):=by refine⟨by simp[h.size],λi x x' h1 h2=>?_⟩;rw[Array.getElem?_push]at h1 h2;rw[<-h.size]at h2;split at h1;rename_i hi;rw[if_pos hi]at h2;cases h1;cases h2;exact hv;rename_i hi;rw[if_neg hi]at h2;exact h.el i x x' h1 h2
def VA.one{X v v'}(hv:V E X v v'):VA E X #[v] #[v']:=(VA.empty X).push hv
def VA.set{X a a'}(h:VA E X a a') i{v v'}(hv:V E X v v'):VA E X (a.setIfInBounds i v) (a'.setIfInBounds i v'):=by refine⟨by simp[h.size],λj x x' h1 h2=>?_⟩;by_cases hj:i=j;subst hj;by_cases hi:i<a.size;rw[Array.getElem?_setIfInBounds_self_of_lt hi]at h1;rw[Array.getElem?_setIfInBounds_self_of_lt (by rw[<-h.size];exact hi)]at h2;cases h1;cases h2;exact hv;rw[Array.getElem?_eq_none (by simpa using hi)]at h1;cases h1;rw[Array.getElem?_setIfInBounds_ne hj]at h1 h2;exact h.el j x x' h1 h2
def VA.append{X a a' b b'}(h:VA E X a a')(h':VA E X b b'):VA E X (a++b) (a'++b'):=by refine⟨by simp[h.size,h'.size],λi x x' h1 h2=>?_⟩;rw[Array.getElem?_append]at h1 h2;rw[<-h.size]at h2;split at h1;rename_i hi;rw[if_pos hi]at h2;exact h.el i x x' h1 h2;rename_i hi;rw[if_neg hi]at h2;exact h'.el _ x x' h1 h2
def VA.extract{X a a'}(h:VA E X a a') s e:VA E X (a.extract s e) (a'.extract s e):=by refine⟨by simp[h.size],λi x x' h1 h2=>?_⟩;rw[Array.getElem?_extract]at h1 h2;rw[<-h.size]at h2;split at h1;rename_i hi;rw[if_pos hi]at h2;exact h.el _ x x' h1 h2;cases h1
def VA.map{X α} f f'(l:Array α)(h:∀a∈l,V E X (f a) (f' a)):VA E X (l.map f) (l.map f'):=by
 refine⟨by simp,λi x x' h1 h2=>?_⟩;rw[Array.getElem?_map]at h1 h2;cases hl:l[i]? with
 |none=>rw[hl]at h1;cases h1
 |some y=>rw[hl]at h1 h2;cases h1;cases h2;exact h y (Array.mem_of_getElem? hl)
def V.PQ{X a a'}(h:VA E X a a'):V E X (.agg a) (.agg a'):=.agg a a' h.size h.el
def V.eI{X a a'}(h:VA E X a a'):V E X (.tuple a) (.tuple a'):=.tuple a a' h.size h.el
def V.cells{X v v'}(h:V E X v v'):VA E X v.cells v'.cells:=by
 cases h with
 |agg a a' h1 h2=>exact⟨h1,h2⟩|undef _ hf=>
 have:v'.cells=#[v']:=by cases v'<;>first|rfl|exact hf.elim
 rw[this];exact VA.one (.undef v' hf)
 |tuple a a' h1 h2=>exact VA.one (.tuple a a' h1 h2)|ptr r b o s h=>exact VA.one (.ptr r b o s h)
 |slice r b o s n c h=>exact VA.one (.slice r b o s n c h)|map r b h=>exact VA.one (.map r b h)
 |chan r b h=>exact VA.one (.chan r b h)|func f a a' c c' hF h1 h2 h3 h4=>exact VA.one (.func f a a' c c' hF h1 h2 h3 h4)
 |iface t v v' h=>exact VA.one (.iface t v v' h)|bool b=>exact VA.one (.bool b)
 |int k n=>exact VA.one (.int k n)|string s=>exact VA.one (.string s)
 |ptrN=>exact VA.one .ptrN|fp n c=>exact VA.one (.fp n c)
 |Bu=>exact VA.one .Bu|sq=>exact VA.one .sq
 |nilFunc=>exact VA.one .nilFunc|nilIface=>exact VA.one .nilIface
inductive Clean:Value->Prop
 |bool (b:Bool):Clean (.bool b)
 |int (k:IntKind) (n:Int):Clean (.int k n)
 |string (s:ByteArray):Clean (.string s)
 |ptrN:Clean (.pointer none)
 |fp (n c:Nat):Clean (.slice none n c)
 |Bu:Clean (.map none)
 |sq:Clean (.chan none)
 |nilFunc:Clean .nilFunc
 |nilIface:Clean .nilIface
 |agg (a:Array Value) (h:∀(i:Nat) v,a[i]? =some v->Clean v):Clean (.agg a)
 |tuple (a:Array Value) (h:∀(i:Nat) v,a[i]? =some v->Clean v):Clean (.tuple a)
def Clean.self{v}(h:Clean v) X:V E X v v:=by induction h with|bool b=>exact .bool b|int k n=>exact .int k n|string s=>exact .string s|ptrN=>exact .ptrN|fp n c=>exact .fp n c|Bu=>exact .Bu|sq=>exact .sq|nilFunc=>exact .nilFunc|nilIface=>exact .nilIface|agg a _ i=>exact .agg a a rfl (λj v v' h h'=>by rw[h]at h';cases h';exact i j v h)|tuple a _ i=>exact .tuple a a rfl (λj v v' h h'=>by rw[h]at h';cases h';exact i j v h)
inductive Exact:Value->Prop
 |bool (b:Bool):Exact (.bool b)
 |int (k:IntKind) (n:Int):Exact (.int k n)
 |string (s:ByteArray):Exact (.string s)
 |agg (a:Array Value) (h:∀(i:Nat) v,a[i]? =some v->Exact v):Exact (.agg a)
 |two (a:Array Value) (h:∀(i:Nat) v,a[i]? =some v->Exact v) (hn:0<a.size):Exact (.tuple a)
def Exact.clean{v}(h:Exact v):Clean v:=by induction h with|bool b=>exact .bool b|int k n=>exact .int k n|string s=>exact .string s|agg a _ i=>exact .agg a i|two a _ _ i=>exact .tuple a i
def Exact.eq{v}(h:Exact v):∀ {X:List Nat}{v':Value},V E X v v'->v'=v:=by
 induction h with
 |bool b=>intro X v' h;cases h;rfl
 |int k n=>intro X v' h;cases h;rfl
 |string s=>intro X v' h;cases h;rfl
 |agg a _ ih=>intro X v' h;cases h with|agg _ a' h1 h2=>congr 1;apply Array.ext_getElem?;intro i;rcases(VA.mk h1 h2:VA E X a a').get i with⟨x,x',e1,e2,hx⟩|⟨e1,e2⟩;rw[e1,e2,ih i x e1 hx];rw[e1,e2]
 |two a _ hn ih=>intro X v' h;cases h with|tuple _ a' h1 h2=>congr 1;apply Array.ext_getElem?;intro i;rcases(VA.mk h1 h2:VA E X a a').get i with⟨x,x',e1,e2,hx⟩|⟨e1,e2⟩;rw[e1,e2,ih i x e1 hx];rw[e1,e2]
end Rn
namespace Rn
def norm(P:Program){α:Type}:Sem α->Sem α
 |.program k=>norm P (k P)|s=>s
theorem cZ P{α}:∀(s:Sem α)(w)(es),s.runT P w es=(norm P s).runT P w es
 |.program k,w,es=>by rw[Sem.runT,norm];exact cZ P (k P) w es|.pure _,_,_|.load _ _ _,_,_|.store _ _ _ _,_,_|.new _ _,_,_|.shape _ _,_,_|.freeze _ _ _,_,_|.frozen _ _,_,_|.getObj _ _,_,_|.setObj _ _ _,_,_|.choose _ _,_,_|.sys _ _,_,_|.mark _ _,_,_|.halt _,_,_=>rfl
theorem en P{α β}(f:α->Sem β):∀s:Sem α,norm P (s.bind f)=norm P ((norm P s).bind f)
 |.program k=>by show norm P ((k P).bind f)=norm P ((norm P (k P)).bind f);exact en P f (k P)|.pure _|.load _ _ _|.store _ _ _ _|.new _ _|.shape _ _|.freeze _ _ _|.frozen _ _|.getObj _ _|.setObj _ _ _|.choose _ _|.sys _ _|.mark _ _|.halt _=>rfl
def eu:Halt->Prop
 |.unsupported (.initOrder _)=>False|_=>True
def dc(P:Program){α:Type}:Sem α->Prop
 |.program k=>dc P (k P)|.shape _ k=>∀z,dc P (k z)|.frozen _ k=>∀b,dc P (k b)|.mark _ k=>dc P k|.halt h=>eu h|_=>False
theorem dc.bind{P α β}{f:α->Sem β}:∀ {s:Sem α},dc P s->dc P (s.bind f)
 |.program k,h=>dc.bind (s:=k P) h|.shape _ k,h=>λz=>dc.bind (h z)|.frozen _ k,h=>λz=>dc.bind (h z)|.mark _ k,h=>dc.bind (s:=k) h|.halt _,h=>h|.pure _,h|.load _ _ _,h|.store _ _ _ _,h|.new _ _,h|.getObj _ _,h|.setObj _ _ _,h|.choose _ _,h|.sys _ _,h|.freeze _ _ _,h=>h.elim
theorem dc.run{P α}:∀ {s:Sem α},dc P s->∀w es,∃h iI,eu h/\s.runT P w es=(.halt h w,iI)
 |.program k,h,w,es=>by rw[Sem.runT];exact dc.run (s:=k P) h w es|.shape r k,h,w,es=>by rw[Sem.runT];exact dc.run (h _) w es|.frozen r k,h,w,es=>by rw[Sem.runT];exact dc.run (h _) w es|.mark m k,h,w,es=>by rw[Sem.runT];exact dc.run (s:=k) h w _|.halt x,h,w,es=>⟨x,es,h,by rw[Sem.runT]⟩|.pure _,h,_,_|.load _ _ _,h,_,_|.store _ _ _ _,h,_,_|.new _ _,h,_,_|.getObj _ _,h,_,_|.setObj _ _ _,h,_,_|.choose _ _,h,_,_|.sys _ _,h,_,_|.freeze _ _ _,h,_,_=>h.elim
def dU(P:Program)(E:Env){α:Type}(Φ:List Nat->α->α->Prop):Sem α->List Nat->Sem α->Prop
 |.pure a,X,s'=>∃a',norm P s'=.pure a'/\Φ X a a'|.load m a k,X,s'=>∃b k',m=.plain/\norm P s'=.load .plain ⟨b,a.off,a.spot⟩ k'/\At E X a.block b/\∀v v',V E X v v'->dU P E Φ (k v) X (k' v')|.store m a x k,X,s'=>∃b x' k',m=.plain/\norm P s'=.store .plain ⟨b,a.off,a.spot⟩ x' k'/\At E X a.block b/\V E X x x'/\dU P E Φ k X k'|.new o k,X,s'=>∃o' k',norm P s'=.new o' k'/\mP E X o o'/\∀b,dU P E Φ (k (E.G+X.length)) (X++[b]) (k' b)|.shape r k,X,s'=>(∃b k',norm P s'=.shape b k'/\At E X r b/\∀z,dU P E Φ (k z) X (k' z))∨∀z,dc P (k z)|.getObj r k,X,s'=>∃b k',norm P s'=.getObj b k'/\At E X r b/\∀o o',mP E X o o'->dU P E Φ (k o) X (k' o')|.setObj r o k,X,s'=>∃b o' k',norm P s'=.setObj b o' k'/\At E X r b/\mP E X o o'/\dU P E Φ k X k'|.choose q k,X,s'=>∃k',norm P s'=.choose q k'/\∀n,dU P E Φ (k n) X (k' n)|.program k,X,s'=>dU P E Φ (k P) X s'|.mark m k,X,s'=>(∃k',m=.noRoom/\norm P s'=.mark .noRoom k'/\dU P E Φ k X k')∨dc P k|.frozen _ k,_,_=>∀b,dc P (k b)|.freeze _ _ _,_,_|.sys _ _,_,_=>False|.halt h,_,_=>eu h
theorem dU.norm{P E α Φ}:∀ {s:Sem α}{X:List Nat}{s' Pv:Sem α},Rn.norm P s'=Rn.norm P Pv->dU P E Φ s X s'->dU P E Φ s X Pv
 |.pure a,X,s',Pv,e,⟨a',h1,h⟩=>⟨a',e.symm.trans h1,h⟩|.load m a k,X,s',Pv,e,⟨b,k',h0,h1,h⟩=>⟨b,k',h0,e.symm.trans h1,h⟩|.store m a x k,X,s',Pv,e,⟨b,x',k',h0,h1,h⟩=>⟨b,x',k',h0,e.symm.trans h1,h⟩|.new o k,X,s',Pv,e,⟨o',k',h1,h⟩=>⟨o',k',e.symm.trans h1,h⟩|.shape r k,X,s',Pv,e,.inl ⟨b,k',h1,h⟩=>.inl ⟨b,k',e.symm.trans h1,h⟩|.shape r k,X,s',Pv,e,.inr h=>.inr h|.getObj r k,X,s',Pv,e,⟨b,k',h1,h⟩=>⟨b,k',e.symm.trans h1,h⟩|.setObj r o k,X,s',Pv,e,⟨b,o',k',h1,h⟩=>⟨b,o',k',e.symm.trans h1,h⟩|.choose q k,X,s',Pv,e,⟨k',h1,h⟩=>⟨k',e.symm.trans h1,h⟩|.program k,X,s',Pv,e,h=>dU.norm (s:=k P) e h|.mark m k,X,s',Pv,e,.inl ⟨k',h0,h1,h⟩=>.inl ⟨k',h0,e.symm.trans h1,h⟩|.mark m k,X,s',Pv,e,.inr h=>.inr h|.freeze _ _ _,_,_,_,_,h=>h.elim|.frozen _ _,_,_,_,_,h=>h|.sys _ _,_,_,_,_,h=>h.elim|.halt _,_,_,_,_,h=>h
theorem dU.bind{P E α β Φ Ψ}{f f':α->Sem β}:∀ {s:Sem α}{X:List Nat}{s':Sem α},(∀Y a a',Φ (X++Y) a a'->dU P E Ψ (f a) (X++Y) (f' a'))->dU P E Φ s X s'->dU P E Ψ (s.bind f) X (s'.bind f')
 |.pure a,X,s',hf,h=>by obtain⟨a',hn,h⟩:=h;have:=hf [] a a' (by simpa using h);rw[List.append_nil]at this;refine dU.norm ?_ this;rw[en P f' s',hn];rfl
 |.load m a k,X,s',hf,h=>by obtain⟨b,k',h1,hn,h2,h3⟩:=h;exact⟨b,_,h1,by rw[en P f' s',hn];rfl,h2,λv v' hv=>dU.bind hf (h3 v v' hv)⟩
 |.store m a x k,X,s',hf,h=>by obtain⟨b,x',k',h1,hn,h2,h3,h4⟩:=h;exact⟨b,x',_,h1,by rw[en P f' s',hn];rfl,h2,h3,dU.bind hf h4⟩
 |.new o k,X,s',hf,h=>by obtain⟨o',k',hn,h1,h2⟩:=h;refine⟨o',_,by rw[en P f' s',hn];rfl,h1,λb=>dU.bind (λY a a' ha=>?_) (h2 b)⟩;have:=hf ([b]++Y) a a' (by simpa using ha);simpa using this
 |.shape r k,X,s',hf,h=>by rcases h with⟨b,k',hn,h1,h2⟩|h;exact .inl ⟨b,_,by rw[en P f' s',hn];rfl,h1,λz=>dU.bind hf (h2 z)⟩;exact .inr λz=>(h z).bind
 |.getObj r k,X,s',hf,h=>by obtain⟨b,k',hn,h1,h2⟩:=h;exact⟨b,_,by rw[en P f' s',hn];rfl,h1,λo o' ho=>dU.bind hf (h2 o o' ho)⟩
 |.setObj r o k,X,s',hf,h=>by obtain⟨b,o',k',hn,h1,h2,h3⟩:=h;exact⟨b,o',_,by rw[en P f' s',hn];rfl,h1,h2,dU.bind hf h3⟩
 |.choose q k,X,s',hf,h=>by obtain⟨k',hn,h1⟩:=h;exact⟨_,by rw[en P f' s',hn];rfl,λn=>dU.bind hf (h1 n)⟩
 |.program k,X,s',hf,h=>dU.bind (s:=k P) hf h|.mark m k,X,s',hf,h=>by rcases h with⟨k',h0,hn,h1⟩|h;exact .inl ⟨_,h0,by rw[en P f' s',hn];rfl,dU.bind hf h1⟩;exact .inr h.bind
 |.freeze _ _ _,_,_,_,h=>h.elim|.frozen _ _,_,_,_,h=>λb=>(h b).bind|.sys _ _,_,_,_,h=>h.elim|.halt _,_,_,_,h=>h
structure WR(E:Env)(Sh:Nat->Prop)(X:List Nat)(v w:World):Prop where
 size:v.heap.size=E.G+X.length
 el:∀(i b:Nat),X[i]? =some b->∃o o',v.heap[E.G+i]? =some o/\w.heap[b]? =some o'/\mP E X o o'
 eY:∀r,r<E.G->v.heap[r]? =some (.cells #[] 0 (0,0))
 nodup:X.Nodup
 shared:∀(i b:Nat),X[i]? =some b->Sh b->∃c e,v.heap[E.G+i]? =some (.cells c e (0,c.size))
 low:∀b,Sh b->b<w.heap.size
 tape:v.tape=w.tape
 drawn:v.drawn=w.drawn
def UG(X:List Nat)(Sh:Nat->Prop)(e:Event):Prop:=e=noRoomEvent∨(e.sync=false/\((∃a:Addr,e.loc=.cell a/\a.block∈X/\(e.write=true->¬Sh a.block))∨∃r,e.loc=.obj r/\r∈X/\(e.write=true->¬Sh r)))
def UG.app{X Sh e}(h:UG X Sh e) Y:UG (X++Y) Sh e:=by rcases h with h|⟨h1,⟨a,h2,h3,h4⟩|⟨r,h2,h3,h4⟩⟩;exact .inl h;exact .inr ⟨h1,.inl ⟨a,h2,List.mem_append_left _ h3,h4⟩⟩;exact .inr ⟨h1,.inr ⟨r,h2,List.mem_append_left _ h3,h4⟩⟩
structure Out(E:Env)(Sh:Nat->Prop)(X:List Nat)(w:World)(Y:List Nat)(v1 w1:World):Prop where
 rel:WR E Sh (X++Y) v1 w1
 size:w.heap.size<=w1.heap.size
 fresh:∀b∈Y,w.heap.size<=b/\b<w1.heap.size
 others:∀b,b<w.heap.size->b∉X->w1.heap[b]? =w.heap[b]?
 shared:∀b,Sh b->w1.heap[b]? =w.heap[b]?
 all:∀b,w.heap.size<=b->b<w1.heap.size->b∈Y
 os:w1.os=w.os
 tape:w1.tape=w.tape
 output:w1.output=w.output
def Out.refl{E Sh X v w}(h:WR E Sh X v w):Out E Sh X w [] v w:=⟨by simpa using h,ν,(λb hb=>by cases hb),λ_ _ _=>rfl,λ_ _=>rfl,(λb h1 h2=>by omega),rfl,rfl,rfl⟩
theorem Out.trans{E:Env}{Sh:Nat->Prop}{X Y Z:List Nat}{w v1 w1 v2 w2:World}(h:Out E Sh X w Y v1 w1)(h':Out E Sh (X++Y) w1 Z v2 w2):Out E Sh X w (Y++Z) v2 w2 where
 rel:=by have:=h'.rel;rwa[List.append_assoc]at this
 size:=Nat.le_trans h.size h'.size;fresh:=λb hb=>by rcases List.mem_append.1 hb with hb|hb;exact⟨(h.fresh b hb).1,Nat.lt_of_lt_of_le (h.fresh b hb).2 h'.size⟩;exact⟨Nat.le_trans h.size (h'.fresh b hb).1,(h'.fresh b hb).2⟩
 others:=λb hb hn=>by
  have hy:b∉X++Y:=λhm=>by rcases List.mem_append.1 hm with hm|hm;exact hn hm;have:=(h.fresh b hm).1;omega
  rw[h'.others b (Nat.lt_of_lt_of_le hb h.size) hy,h.others b hb hn]
 shared:=λb hb=>(h'.shared b hb).trans (h.shared b hb);all:=λb h1 h2=>by by_cases hb:b<w1.heap.size;exact List.mem_append_left _ (h.all b h1 hb);exact List.mem_append_right _ (h'.all b (by omega) h2)
 os:=h'.os.trans h.os;tape:=h'.tape.trans h.tape;output:=h'.output.trans h.output
section
variable{E:Env}{Sh:Nat->Prop}{X:List Nat}{v w:World}
def WR.obj(h:WR E Sh X v w){r b}(ha:At E X r b):∃o o',v.heap[r]? =some o/\w.heap[b]? =some o'/\mP E X o o':=by obtain⟨o,o',h1,h2,h3⟩:=h.el _ _ ha.2;exact⟨o,o',by rw[show E.G+(r-E.G)=r by have:=ha.1;omega]at h1;exact h1,h2,h3⟩
def WR.lt(h:WR E Sh X v w){b}(hb:b∈X):b<w.heap.size:=by obtain⟨i,hi⟩:=List.getElem?_of_mem hb;obtain⟨o,o',_,h2,_⟩:=h.el i b hi;exact(Array.getElem?_eq_some_iff.1 h2).1
def WR.put(h:WR E Sh X v w){r b}(ha:At E X r b){o o'}(ho:mP E X o o')(hs:¬Sh b):Out E Sh X w [] {v with heap:=v.heap.setIfInBounds r o} {w with heap:=w.heap.setIfInBounds b o'}:=by
 have bZ:∀(i b2:Nat),X[i]? =some b2->E.G+i≠r->b2≠b:=λi b2 hi hn e=>by subst e;have h2:=ha.2;have aM:=(List.getElem?_eq_some_iff.1 hi).1;have:i=r-E.G:=(List.getElem?_inj aM h.nodup).1 (hi.trans h2.symm);have:=ha.1;omega
 have Cd:b∈X:=List.mem_of_getElem? ha.2;have jI:=h.lt Cd;refine⟨?_,(by simp),(λb hb=>by cases hb),λb2 hb hn=>?_,λb2 hb=>?_,(λb2 h1 h2=>by simp at h2;omega),rfl,rfl,rfl⟩;rw[List.append_nil];refine⟨by simpa using h.size,λi b2 hi=>?_,λr2 hr=>?_,h.nodup,λi b2 hi hb=>?_,λb2 hb=>by simpa using h.low b2 hb,h.tape,h.drawn⟩;obtain⟨o1,o1',h1,h2,h3⟩:=h.el i b2 hi;by_cases hr:E.G+i=r;subst hr;have:b2=b:=by have:=ha.2;rw[show E.G+i-E.G=i by omega,hi]at this;exact Option.some.inj this
 subst this;refine⟨o,o',?_,?_,ho⟩;rw[Array.getElem?_setIfInBounds_self_of_lt (Array.getElem?_eq_some_iff.1 h1).1];rw[Array.getElem?_setIfInBounds_self_of_lt jI];refine⟨o1,o1',?_,?_,h3⟩;rw[Array.getElem?_setIfInBounds_ne (Ne.symm hr)];exact h1;rw[Array.getElem?_setIfInBounds_ne (Ne.symm (bZ i b2 hi hr))];exact h2;rw[Array.getElem?_setIfInBounds_ne (by have:=ha.1;omega)];exact h.eY r2 hr;obtain⟨c,e,h1⟩:=h.shared i b2 hi hb;refine⟨c,e,?_⟩;by_cases hr:E.G+i=r;subst hr;have:b2=b:=by have:=ha.2;rw[show E.G+i-E.G=i by omega,hi]at this;exact Option.some.inj this
 subst this;exact absurd hb hs;rw[Array.getElem?_setIfInBounds_ne (Ne.symm hr)];exact h1;show(w.heap.setIfInBounds b o')[b2]? =_;rw[Array.getElem?_setIfInBounds_ne (λe=>by subst e;exact hn Cd)];show(w.heap.setIfInBounds b o')[b2]? =_;rw[Array.getElem?_setIfInBounds_ne (λe=>by subst e;exact hs hb)]
def WR.new(h:WR E Sh X v w){o o'}(ho:mP E X o o'):Out E Sh X w [w.heap.size] {v with heap:=v.heap.push o} {w with heap:=w.heap.push o'}:=by
 have hn:w.heap.size∉X:=λhm=>by have:=h.lt hm;omega
 refine⟨⟨?_,λi b hi=>?_,λr hr=>?_,?_,λi b hi hb=>?_,λb hb=>?_,h.tape,h.drawn⟩,(by simp),λb hb=>?_,λb hb _=>?_,λb hb=>?_,λb h1 h2=>?_,rfl,rfl,rfl⟩;simp[h.size];omega;by_cases aM:i<X.length;rw[List.getElem?_append_left aM]at hi;obtain⟨o1,o1',h1,h2,h3⟩:=h.el i b hi;refine⟨o1,o1',?_,?_,h3.app _⟩;rw[Array.getElem?_push_lt (Array.getElem?_eq_some_iff.1 h1).1,<-Array.getElem?_eq_getElem];exact h1;rw[Array.getElem?_push_lt (Array.getElem?_eq_some_iff.1 h2).1,<-Array.getElem?_eq_getElem];exact h2;rw[List.getElem?_append_right (by omega)]at hi;have:i-X.length=0:=by have:=(List.getElem?_eq_some_iff.1 hi).1;simp at this;omega
 rw[this]at hi;simp at hi;subst hi;have hi2:i=X.length:=by omega
 subst hi2;refine⟨o,o',?_,?_,ho.app _⟩;rw[<-h.size];simp;simp;have aM:r<v.heap.size:=by rw[h.size];omega
 rw[Array.getElem?_push_lt aM,<-Array.getElem?_eq_getElem];exact h.eY r hr;rw[List.nodup_append];exact⟨h.nodup,by simp,λa ha b hb=>by simp at hb;subst hb;exact λe=>hn (e▸ha)⟩;have jI:=h.low b hb;by_cases aM:i<X.length;rw[List.getElem?_append_left aM]at hi;obtain⟨c,e,h1⟩:=h.shared i b hi hb;refine⟨c,e,?_⟩;rw[Array.getElem?_push_lt (Array.getElem?_eq_some_iff.1 h1).1,<-Array.getElem?_eq_getElem];exact h1;rw[List.getElem?_append_right (by omega)]at hi;have:=List.mem_of_getElem? hi;simp at this;omega;have:=h.low b hb;simp;omega;simp at hb;subst hb;simp;show(w.heap.push o')[b]? =_;rw[Array.getElem?_push_lt hb,<-Array.getElem?_eq_getElem];have:=h.low b hb;show(w.heap.push o')[b]? =_;rw[Array.getElem?_push_lt this,<-Array.getElem?_eq_getElem];simp at h2|-;omega
end
def ox{α}(a:Array α) j f x(h:a[j]? =some x):a.modify j f=a.setIfInBounds j (f x):=by obtain⟨aM,rfl⟩:=Array.getElem?_eq_some_iff.1 h;apply Array.ext_getElem?;intro m;rw[Array.getElem?_modify];by_cases hm:j=m;subst hm;simp[aM];simp[hm]
def WR.load{E Sh X v w}(h:WR E Sh X v w){a b}(ha:At E X a.block b){x}(hx:v.cell? a=some x):∃x',w.cell? ⟨b,a.off,a.spot⟩=some x'/\V E X x x':=by
 obtain⟨o,o',h1,h2,h3⟩:=h.obj ha;unfold World.cell? at hx|-;rw[h1]at hx;dsimp only;rw[h2];cases h3 with
 |cells c c' e fz Hk hc hf=>
  dsimp only at hx|-;cases hs:a.spot with
  |some s=>rw[hs]at hx;cases hx
  |none=>rw[hs]at hx;simp only[Option.isSome_none,Bool.false_eq_true,if_false]at hx|-;rcases hc.get a.off with⟨y,y',e1,e2,hy⟩|⟨e1,e2⟩;rw[e1]at hx;cases hx;exact⟨y',e2,hy⟩;rw[e1]at hx;cases hx
 |_=>cases hx
def WR.far{E Sh X v w}(h:WR E Sh X v w){a b}(ha:At E X a.block b) P m:(∃x,eu x/\v.farLoad P a m=.error x)/\∀y,∃x,eu x/\v.farStore P a y m=.error x:=by
 obtain⟨o,o',h1,h2,h3⟩:=h.obj ha;constructor;unfold World.farLoad;rw[h1];cases h3<;>refine⟨_,?_,rfl⟩<;>first|trivial|(unfold World.noCell;rw[h1];trivial)
 intro y;unfold World.farStore;rw[h1];cases h3<;>refine⟨_,?_,rfl⟩<;>first|trivial|(unfold World.noCell;rw[h1];trivial)
def ab0{E X x x'}(h:V E X x x')(hf:flat x):flat x':=by cases h<;>first|exact trivial|assumption|exact hf.elim
def WR.store{E Sh X v w}(h:WR E Sh X v w){a b}(ha:At E X a.block b){x x'}(hx:V E X x x'){y}(hy:v.cell? a=some y)(hf:v.frozen? a=false):(∃y',w.cell? ⟨b,a.off,a.spot⟩=some y')/\w.frozen? ⟨b,a.off,a.spot⟩=false/\¬Sh b/\Out E Sh X w [] (v.setCell a x) (w.setCell ⟨b,a.off,a.spot⟩ x'):=by
 obtain⟨y',hy',_⟩:=h.load ha hy;obtain⟨o,o',h1,h2,h3⟩:=h.obj ha;have kC:∃c c' e fz Hk,o=.cells c e fz/\o'=.cells c' e Hk/\VA E X c c'/\(Hk=fz∨fz=(0,c.size))/\a.off<c.size/\a.spot=none:=by
  unfold World.cell? at hy;rw[h1]at hy;cases h3 with
  |cells c c' e fz Hk hc hf=>
   dsimp only at hy;cases hs:a.spot with
   |some s=>rw[hs]at hy;cases hy
   |none=>rw[hs]at hy;simp only[Option.isSome_none,Bool.false_eq_true,if_false]at hy;exact⟨c,c',e,fz,Hk,rfl,rfl,hc,hf,(Array.getElem?_eq_some_iff.1 hy).1,rfl⟩
  |_=>cases hy
 obtain⟨c,c',e,fz,Hk,rfl,rfl,hc,hfz,aM,hsp⟩:=kC;have hf2:¬(fz.1<=a.off/\a.off<fz.2):=by unfold World.frozen? at hf;rw[h1]at hf;simpa using hf
 have nA:¬Sh b:=λhb=>by obtain⟨c2,e2,h4⟩:=h.shared _ _ ha.2 hb;rw[show E.G+(a.block-E.G)=a.block by have:=ha.1;omega,h1]at h4;cases h4;exact hf2 ⟨Nat.zero_le _,aM⟩
 refine⟨⟨y',hy'⟩,?_,nA,?_⟩;unfold World.frozen?;dsimp only;rw[h2];have:¬(Hk.1<=a.off/\a.off<Hk.2):=λhh=>by rcases hfz with rfl|rfl;exact hf2 hh;exact hf2 ⟨Nat.zero_le _,aM⟩
 simpa using this;unfold World.setCell;dsimp only;rw[ox _ _ _ _ h1,ox _ _ _ _ h2,hsp];exact h.put ha (.cells _ _ e fz Hk (hc.set _ hx) (hfz.imp id λe=>by rw[e];simp)) nA
def kU(P:Program)(E:Env)(Sh:Nat->Prop){α:Type}(Φ:List Nat->α->α->Prop)(s s':Sem α)(X:List Nat)(v w:World)(pj jJ:Array Event):Prop:=(∃h v' es,eu h/\s.runT P v pj=(.halt h v',es))∨∃a v1 zw Y a' w1 uP,s.runT P v pj=(.ok a v1,zw)/\s'.runT P w jJ=(.ok a' w1,uP)/\Φ (X++Y) a a'/\Out E Sh X w Y v1 w1/\∀e∈uP,e∈jJ∨UG (X++Y) Sh e
section
variable{P:Program}{E:Env}{Sh:Nat->Prop}{α:Type}{Φ:List Nat->α->α->Prop}
def kU.of{s s' t t' X Y v w v1 w1 es iI zw uP}(h:kU P E Sh Φ t t' (X++Y) v1 w1 zw uP)(ho:Out E Sh X w Y v1 w1)(h1:s.runT P v es=t.runT P v1 zw)(h2:s'.runT P w iI=t'.runT P w1 uP) (he:∀x∈uP,x∈iI∨UG (X++Y) Sh x):kU P E Sh Φ s s' X v w es iI:=by rcases h with⟨hh,v',e,pd,hr⟩|⟨a,v2,e2,Z,a',w2,e2',r1,r2,r3,r4,r5⟩;exact .inl ⟨hh,v',e,pd,h1.trans hr⟩;refine .inr ⟨a,v2,e2,Y++Z,a',w2,e2',h1.trans r1,h2.trans r2,by rwa[<-List.append_assoc],ho.trans r4,λx hx=>?_⟩;rw[<-List.append_assoc];rcases r5 x hx with h|h;exact(he x h).imp id (·.app Z);exact .inr h
def kU.halt{s s' X v w es iI x}(hx:eu x)(h:s.runT P v es=(.halt x v,es)):kU P E Sh Φ s s' X v w es iI:=.inl ⟨_,_,_,hx,h⟩
def kU.UJ{s s' t t' X v w v1 w1 es iI zw uP}(h:kU P E Sh Φ t t' X v1 w1 zw uP)(ho:Out E Sh X w [] v1 w1)(h1:s.runT P v es=t.runT P v1 zw)(h2:s'.runT P w iI=t'.runT P w1 uP) (he:∀x∈uP,x∈iI∨UG X Sh x):kU P E Sh Φ s s' X v w es iI:=kU.of (Y:=[]) (by rwa[List.append_nil]) ho h1 h2 (by rwa[List.append_nil])
theorem dU.run:∀ {s:Sem α}{X:List Nat}{s':Sem α},dU P E Φ s X s'->∀ {v w:World}(pj jJ:Array Event),WR E Sh X v w->kU P E Sh Φ s s' X v w pj jJ
 |.pure a,X,s',h,v,w,pj,jJ,hw=>by obtain⟨a',hn,h⟩:=h;exact .inr ⟨a,v,pj,[],a',w,jJ,rfl,by rw[cZ,hn];rfl,by rwa[List.append_nil],.refl hw,λe he=>.inl he⟩
 |.load m a k,X,s',h,v,w,pj,jJ,hw=>by
  obtain⟨b,k',rfl,hn,ha,hk⟩:=h;cases hc:v.cell? a with
  |none=>obtain⟨⟨x,pd,hx⟩,_⟩:=hw.far ha P (Mode.plain==.atomic);exact .halt (x:=x) pd (by rw[Sem.runT];simp only[hc,hx])
  |some y=>obtain⟨y',hy',hv⟩:=hw.load ha hc;refine kU.UJ (dU.run (hk y y' hv) (pj.push ⟨.cell a,false,false⟩) (jJ.push ⟨.cell ⟨b,a.off,a.spot⟩,false,false⟩) hw) (.refl hw) (by rw[Sem.runT];simp only[hc];rfl) (by rw[cZ P s',hn,Sem.runT];simp only[hy'];rfl) ?_;intro x hx;rcases Array.mem_push.1 hx with h2|rfl;exact .inl h2;exact .inr (.inr ⟨rfl,.inl ⟨_,rfl,List.mem_of_getElem? ha.2,λhh=>by cases hh⟩⟩)
 |.store m a x k,X,s',h,v,w,pj,jJ,hw=>by
  obtain⟨b,x',k',rfl,hn,ha,hx,hk⟩:=h;by_cases DQ:flat x;have hs:∀(x:Value)(_:flat x)(a:Addr)(k:Sem α)(u:World)(es:Array Event),(Sem.store .plain a x k).runT P u es=match u.cell? a with
   |some _=>if u.frozen? a then(.halt (.unsupported (.unsafePointer "a write to bytes that a string shares")) u,es)else k.runT P (u.setCell a x) (es.push ⟨.cell a,true,false⟩)
   |none=>match u.farStore P a x false with
    |.ok (w,Gb)=>k.runT P w (es++Gb.toArray.map (⟨.cell ·,true,false⟩))
    |.error h=>(.halt h u,es):=by
   intro x hx a k u es;cases x<;>first|exact hx.elim|rfl
  cases hc:v.cell? a with
  |none=>obtain⟨_,aqp⟩:=hw.far ha P false;obtain⟨z,pd,hz⟩:=aqp x;exact .halt (x:=z) pd (by rw[hs x DQ];simp only[hc,hz])
  |some y=>cases fS:v.frozen? a with|true=>exact .halt (x:=.unsupported (.unsafePointer "a write to bytes that a string shares")) trivial (by rw[hs x DQ];simp only[hc,fS,if_true])|false=>obtain⟨⟨y',h1⟩,h2,h3,h4⟩:=hw.store ha hx hc fS;refine kU.UJ (dU.run hk (pj.push ⟨.cell a,true,false⟩) (jJ.push ⟨.cell ⟨b,a.off,a.spot⟩,true,false⟩) (by simpa using h4.rel)) h4 (by rw[hs x DQ];simp only[hc,fS,Bool.false_eq_true,if_false]) (by rw[cZ P s',hn,hs x' (ab0 hx DQ)];simp only[h1,h2,Bool.false_eq_true,if_false]) ?_;intro e he;rcases Array.mem_push.1 he with h5|rfl;exact .inl h5;exact .inr (.inr ⟨rfl,.inl ⟨_,rfl,List.mem_of_getElem? ha.2,λ_=>h3⟩⟩)
  have:(∃c,x=.agg c)∨∃c,x=.tuple c:=by cases x<;>first|exact .inl ⟨_,rfl⟩|exact .inr ⟨_,rfl⟩|exact absurd trivial DQ
  rcases this with⟨c,rfl⟩|⟨c,rfl⟩<;>exact .halt (x:=.stuck "store: not the value of one cell") trivial (by rw[Sem.runT])
 |.new o k,X,s',h,v,w,pj,jJ,hw=>by obtain⟨o',k',NW,ho,hk⟩:=h;have hn:=hw.new ho;refine kU.of (Y:=[w.heap.size]) (dU.run (hk w.heap.size) pj jJ hn.rel) hn (by rw[Sem.runT,hw.size]) (by rw[cZ P s',NW,Sem.runT]) (λe he=>.inl he)
 |.shape r k,X,s',h,v,w,pj,jJ,hw=>by
  rcases h with⟨b,k',hn,ha,hk⟩|h;case inr=>obtain⟨x,iI,pd,hx⟩:=dc.run (s:=.shape r k) h v pj;exact .inl ⟨x,v,iI,pd,hx⟩
  have hz:v.shape? r=w.shape? b:=by obtain⟨o,o',h1,h2,h3⟩:=hw.obj ha;unfold World.shape?;rw[h1,h2];cases h3 with|cells c c' e fz Hk hc hf=>simp only[hc.size]|_=>rfl
  exact kU.UJ (dU.run (hk (v.shape? r)) pj jJ hw) (.refl hw) (by rw[Sem.runT]) (by rw[cZ P s',hn,Sem.runT,hz]) (λe he=>.inl he)
 |.getObj r k,X,s',h,v,w,pj,jJ,hw=>by
  obtain⟨b,k',hn,ha,hk⟩:=h;obtain⟨o,o',h1,h2,h3⟩:=hw.obj ha;have hm:=List.mem_of_getElem? ha.2;have Tt:=hk o o' h3;have gr:∀x∈jJ.push ⟨.obj b,false,false⟩,x∈jJ∨UG X Sh x:=by intro x hx;rcases Array.mem_push.1 hx with h5|rfl;exact .inl h5;exact .inr (.inr ⟨rfl,.inr ⟨_,rfl,hm,λhh=>by cases hh⟩⟩)
  cases h3 with|cells c c' e fz Hk hc hf=>exact .halt (x:=.stuck "getObj: a row of cells") trivial (by rw[Sem.runT];simp only[h1])|map a a' n hma=>exact kU.UJ (dU.run Tt (pj.push ⟨.obj r,false,false⟩) _ hw) (.refl hw) (by rw[Sem.runT];simp only[h1];rfl) (by rw[cZ P s',hn,Sem.runT];simp only[h2];rfl) gr|Fi s x n=>exact kU.UJ (dU.run Tt (pj.push ⟨.obj r,false,false⟩) _ hw) (.refl hw) (by rw[Sem.runT];simp only[h1];rfl) (by rw[cZ P s',hn,Sem.runT];simp only[h2];rfl) gr|number r2 b2 o2 s l hi=>exact kU.UJ (dU.run Tt (pj.push ⟨.obj r,false,false⟩) _ hw) (.refl hw) (by rw[Sem.runT];simp only[h1];rfl) (by rw[cZ P s',hn,Sem.runT];simp only[h2];rfl) gr|iter r2 b2 s x n hi=>exact kU.UJ (dU.run Tt (pj.push ⟨.obj r,false,false⟩) _ hw) (.refl hw) (by rw[Sem.runT];simp only[h1];rfl) (by rw[cZ P s',hn,Sem.runT];simp only[h2];rfl) gr
 |.setObj r o k,X,s',h,v,w,pj,jJ,hw=>by
  obtain⟨b,o2,k',hn,ha,ho,hk⟩:=h;obtain⟨p,p',h1,h2,h3⟩:=hw.obj ha;have hm:=List.mem_of_getElem? ha.2;have Qw:o2.isChan=false:=by cases ho<;>rfl
  have aqC:o.isChan=false:=by cases ho<;>rfl
  have main:(∀c e f,p≠.cells c e f)->(∀c e f,p'≠.cells c e f)->kU P E Sh Φ (.setObj r o k) s' X v w pj jJ:=by
   intro hp KF;have nA:¬Sh b:=λhb=>by obtain⟨c2,e2,h4⟩:=hw.shared _ _ ha.2 hb;rw[show E.G+(r-E.G)=r by have:=ha.1;omega,h1]at h4;cases h4;exact hp _ _ _ rfl
   have ajj:=hw.put ha ho nA;refine kU.UJ (dU.run hk (pj.push ⟨.obj r,true,false⟩) (jJ.push ⟨.obj b,true,false⟩) (by simpa using ajj.rel)) ajj ?_ ?_ ?_;rw[Sem.runT,aqC];cases p<;>first|exact absurd rfl (hp _ _ _)|simp only[h1]
   rw[cZ P s',hn,Sem.runT,Qw];cases p'<;>first|exact absurd rfl (KF _ _ _)|simp only[h2]
   intro x hx;rcases Array.mem_push.1 hx with h5|rfl;exact .inl h5;exact .inr (.inr ⟨rfl,.inr ⟨_,rfl,hm,λ_=>nA⟩⟩)
  cases h3 with|cells c c' e fz Hk hc hf=>exact .halt (x:=.stuck "setObj: a row of cells") trivial (by rw[Sem.runT];simp only[h1])|map a a' n hma=>exact main (λ_ _ _ e=>by cases e) (λ_ _ _ e=>by cases e)|Fi s x n=>exact main (λ_ _ _ e=>by cases e) (λ_ _ _ e=>by cases e)|number r2 b2 o2 s l hi=>exact main (λ_ _ _ e=>by cases e) (λ_ _ _ e=>by cases e)|iter r2 b2 s x n hi=>exact main (λ_ _ _ e=>by cases e) (λ_ _ _ e=>by cases e)
 |.choose q k,X,s',h,v,w,pj,jJ,hw=>by
  obtain⟨k',hn,hk⟩:=h;by_cases hq:q.forced=true;exact kU.UJ (dU.run (hk 0) pj jJ hw) (.refl hw) (by rw[Sem.runT,if_pos hq]) (by rw[cZ P s',hn,Sem.runT,if_pos hq]) (λe he=>.inl he);have e1:q.cut (v.tape v.drawn q)=q.cut (w.tape w.drawn q):=by rw[hw.tape,hw.drawn]
  have hw2:WR E Sh X {v with drawn:=v.drawn+1} {w with drawn:=w.drawn+1}:=⟨hw.size,hw.el,hw.eY,hw.nodup,hw.shared,hw.low,hw.tape,by show v.drawn+1=w.drawn+1;rw[hw.drawn]⟩;have ho:Out E Sh X w [] {v with drawn:=v.drawn+1} {w with drawn:=w.drawn+1}:=⟨by simpa using hw2,ν,(λb hb=>by cases hb),λ_ _ _=>rfl,λ_ _=>rfl,(λb h1 h2=>by simp at h2;omega),rfl,rfl,rfl⟩;exact kU.UJ (dU.run (hk (q.cut (v.tape v.drawn q))) pj jJ hw2) ho (by rw[Sem.runT,if_neg hq]) (by rw[cZ P s',hn,Sem.runT,if_neg hq,e1]) (λe he=>.inl he)
 |.program k,X,s',h,v,w,pj,jJ,hw=>by exact kU.UJ (dU.run (s:=k P) h pj jJ hw) (.refl hw) (by rw[Sem.runT]) rfl (λe he=>.inl he)|.mark m k,X,s',h,v,w,pj,jJ,hw=>by
  rcases h with⟨k',rfl,hn,hk⟩|h;case inr=>obtain⟨x,iI,pd,hx⟩:=dc.run (s:=.mark m k) h v pj;exact .inl ⟨x,v,iI,pd,hx⟩
  refine kU.UJ (dU.run hk (pj.push noRoomEvent) (jJ.push noRoomEvent) hw) (.refl hw) (by rw[Sem.runT];rfl) (by rw[cZ P s',hn,Sem.runT];rfl) ?_;intro x hx;rcases Array.mem_push.1 hx with h5|rfl;exact .inl h5;exact .inr (.inl rfl)
 |.freeze _ _ _,_,_,h,_,_,_,_,_=>h.elim|.frozen a k,_,_,h,v,_,pj,_,_=>by obtain⟨x,iI,pd,hx⟩:=dc.run (s:=.frozen a k) h v pj;exact .inl ⟨x,v,iI,pd,hx⟩
 |.sys _ _,_,_,h,_,_,_,_,_=>h.elim|.halt x,_,_,h,v,_,pj,_,_=>.halt (x:=x) h (by rw[Sem.runT])
end
end Rn
namespace Rn
section
variable{P:Program}{E:Env}{X:List Nat}{α β:Type}
abbrev RE(P:Program)(E:Env){α:Type}(R:α->α->Prop)(X:List Nat)(s s':Sem α):Prop:=dU P E (λX' a a'=>X'=X/\R a a') s X s'
abbrev RG(P:Program)(E:Env){α:Type}(R:List Nat->α->α->Prop)(X:List Nat)(s s':Sem α):Prop:=dU P E R s X s'
def AR(E:Env)(X:List Nat)(a a':Addr):Prop:=At E X a.block a'.block/\a'.off=a.off/\a'.spot=a.spot
def AR.eq{a a'}(h:AR E X a a'):a'=⟨a'.block,a.off,a.spot⟩:=by obtain⟨b,o,s⟩:=a';obtain⟨_,h1,h2⟩:=h;dsimp only at h1 h2;rw[h1,h2]
def AR.add{a a'}(h:AR E X a a') n:AR E X (a.add n) (a'.add n):=by unfold Addr.add;split;exact h;exact⟨h.1,by rw[h.2.1],rfl⟩
def az{R}{a a':α}(h:R a a'):RE P E R X (pure a) (pure a'):=⟨a',rfl,rfl,h⟩
def gC{R}{a a':α}(h:R X a a'):RG P E R X (pure a) (pure a'):=⟨a',rfl,h⟩
def ay{R Ψ s s'}{f f':α->Sem β}(h:RE P E R X s s')(hf:∀a a',R a a'->RG P E Ψ X (f a) (f' a')):RG P E Ψ X (s >>= f) (s' >>= f'):=by refine dU.bind (λY a a' ha=>?_) h;rw[ha.1];exact hf a a' ha.2
def jS{R Ψ s s'}{f f':α->Sem β}(h:RG P E R X s s')(hf:∀Y a a',R (X++Y) a a'->RG P E Ψ (X++Y) (f a) (f' a')):RG P E Ψ X (s >>= f) (s' >>= f'):=dU.bind hf h
def cJ{Ψ s}{f f':α->Sem β}(h:RE P E Eq X s s)(hf:∀a,RG P E Ψ X (f a) (f' a)):RG P E Ψ X (s >>= f) (s >>= f'):=ay h λa a' e=>by subst e;exact hf a
def bind_pure':∀s:Sem α,s.bind pure=s:=by intro s;induction s with|pure a=>rfl|load m a k ih=>exact congrArg (Sem.load m a) (funext ih)|store m a v k ih=>exact congrArg (Sem.store m a v) ih|new o k ih=>exact congrArg (Sem.new o) (funext ih)|shape r k ih=>exact congrArg (Sem.shape r) (funext ih)|freeze a n k ih=>exact congrArg (Sem.freeze a n) ih|frozen a k ih=>exact congrArg (Sem.frozen a) (funext ih)|getObj r k ih=>exact congrArg (Sem.getObj r) (funext ih)|setObj r o k ih=>exact congrArg (Sem.setObj r o) ih|choose q k ih=>exact congrArg (Sem.choose q) (funext ih)|sys c k ih=>exact congrArg (Sem.sys c) (funext ih)|program k ih=>exact congrArg Sem.program (funext ih)|mark m k ih=>exact congrArg (Sem.mark m) ih|halt h=>rfl
def PC{R R'}{s s':Sem α}(h:RG P E R X s s')(hr:∀Y a a',R (X++Y) a a'->R' (X++Y) a a'):RG P E R' X s s':=by have:=jS (f:=pure) (f':=pure) h λY a a' ha=>gC (P:=P) (E:=E) (hr Y a a' ha);rwa[show(s >>= pure)=s from bind_pure' s,show(s' >>= pure)=s' from bind_pure' s']at this
def Gz{R R'}{s s':Sem α}(h:RE P E R X s s')(hr:∀a a',R a a'->R' a a'):RE P E R' X s s':=PC h λ_ _ _ x=>⟨x.1,hr _ _ x.2⟩
def tV{R Ψ}{s s':Sem α}(h:RE P E R X s s')(hr:∀a a',R a a'->Ψ X a a'):RG P E Ψ X s s':=PC h λY a a' x=>by rw[x.1];exact hr a a' x.2
def V7{R c}[Decidable c]{a b a' b':Sem α}(h1:RE P E R X a a')(h2:RE P E R X b b'):RE P E R X (if c then a else b) (if c then a' else b'):=by split<;>assumption
def dR{Ψ c}[Decidable c]{a b a' b':Sem α}(h1:RG P E Ψ X a a')(h2:RG P E Ψ X b b'):RG P E Ψ X (if c then a else b) (if c then a' else b'):=by split<;>assumption
def MP:RE P E (λa b=>a=P/\b=P) X program program:=⟨_,rfl,rfl,rfl,rfl⟩
def qN{Ψ}{f f':Program->Sem β}(hf:RG P E Ψ X (f P) (f' P)):RG P E Ψ X (program >>= f) (program >>= f'):=ay MP λa b ⟨e1,e2⟩=>by subst e1;subst e2;exact hf
def pE t:RE P E (λa b=>a=b/\P.info? t=some a) X (typeInfo t) (typeInfo t):=by unfold typeInfo;refine qN ?_;split;rename_i i h;exact az ⟨rfl,h⟩;exact trivial
def gF t:RE P E Eq X (typeInfo t) (typeInfo t):=Gz (pE t) λ_ _ h=>h.1
def bF t:RE P E (λa b=>a=b/\P.underlying t=some a) X (underlying t) (underlying t):=by unfold underlying;refine qN ?_;split;rename_i i h;exact az ⟨rfl,h⟩;exact trivial
def bL t:RE P E Eq X (underlying t) (underlying t):=Gz (bF t) λ_ _ h=>h.1
def dM t:RE P E Eq X (sizeOf t) (sizeOf t):=cJ (gF t) λ_=>az rfl
def JM t:RE P E Eq X (isAgg t) (isAgg t):=by unfold isAgg;refine cJ (bL t) λd=>?_;split<;>exact az rfl
def jN(P:Program)(t:TypeId):Prop:=∀i z,P.info? t=some i->i.zero=some z->Clean z
def gD t(h:jN P t):RE P E (λa b=>a=b/\Clean a) X (zeroValue t) (zeroValue t):=by unfold zeroValue;refine ay (pE t) λa b ⟨e,hi⟩=>?_;subst e;split;rename_i z hz;exact az ⟨rfl,h _ _ hi hz⟩;exact trivial
def AD n:RE P E (λ_ _=>True) X (askRoom n) (askRoom n):=by unfold askRoom;split;exact .inl ⟨_,rfl,rfl,_,rfl,rfl,trivial⟩;exact az trivial
def m8 q:RE P E Eq X (choose q) (choose q):=⟨_,rfl,λn=>⟨_,rfl,rfl,rfl⟩⟩
def PH{a a'}(h:AR E X a a'):RE P E (V E X) X (load a) (load a'):=by rw[h.eq];exact⟨_,_,rfl,rfl,h.1,λv v' hv=>⟨_,rfl,rfl,hv⟩⟩
def V3{a a'}(h:AR E X a a'){v v'}(hv:V E X v v'):RE P E (λ_ _=>True) X (store a v) (store a' v'):=by rw[h.eq];exact⟨_,_,_,rfl,rfl,h.1,hv,_,rfl,rfl,trivial⟩
def m6{r b}(h:At E X r b):RE P E Eq X (shape r) (shape b):=.inl ⟨_,_,rfl,h,λz=>⟨_,rfl,rfl,rfl⟩⟩
def gG{r b}(h:At E X r b):RE P E (mP E X) X (getObj r) (getObj b):=⟨_,_,rfl,h,λo o' ho=>⟨_,rfl,rfl,ho⟩⟩
def vy{r b}(h:At E X r b){o o'}(ho:mP E X o o'):RE P E (λ_ _=>True) X (setObj r o) (setObj b o'):=⟨_,_,_,rfl,h,ho,_,rfl,rfl,trivial⟩
def qM{o o'}(ho:mP E X o o'):RG P E (λX' r b=>X'=X++[b]/\At E X' r b) X (newObj o) (newObj o'):=⟨_,_,rfl,ho,λb=>⟨_,rfl,rfl,by omega,by rw[show E.G+X.length-E.G=X.length by omega];simp⟩⟩
theorem m7{a a'}(h:AR E X a a'):∀n i {c c':Array Value},VA E X c c'->RE P E (VA E X) X (loadCellsFrom a i n c) (loadCellsFrom a' i n c')
 |0,i,c,c',hc=>az hc|n+1,i,c,c',hc=>ay (PH (h.add i)) λv v' hv=>m7 h n (i+1) (hc.push hv)
def n5{a a'}(h:AR E X a a') n:RE P E (VA E X) X (loadCells a n) (loadCells a' n):=m7 h n 0 (VA.empty X)
def Az{a a'}(h:AR E X a a') t:RE P E (V E X) X (loadVar t a) (loadVar t a'):=by unfold loadVar;refine cJ (JM t) λb=>?_;split;exact cJ (dM t) λn=>ay (n5 h n) λc c' hc=>az (V.PQ hc);exact PH h
theorem mB{a a'}(h:AR E X a a'):∀l l' i,VA E X l.toArray l'.toArray->RE P E (λ_ _=>True) X (storeCells a l i) (storeCells a' l' i)
 |[],l',i,hl=>by
  have:l'=[]:=by have:=hl.size;simp at this;exact List.eq_nil_of_length_eq_zero this.symm
  subst this;exact az trivial|v::l,[],i,hl=>by have:=hl.size;simp at this|v::l,v'::l',i,hl=>by have h0:=hl.el 0 v v' (by simp) (by simp);refine ay (V3 (h.add i) h0) λ_ _ _=>mB h l l' (i+1) ⟨by have:=hl.size;simpa using this,λj x x' h1 h2=>hl.el (j+1) x x' (by simpa using h1) (by simpa using h2)⟩
def JJ{a a'}(h:AR E X a a') t{v v'}(hv:V E X v v'):RE P E (λ_ _=>True) X (storeVar t a v) (storeVar t a' v'):=by unfold storeVar;have hc:=hv.cells;refine cJ (dM t) λn=>?_;rw[<-hc.size];split;exact trivial;exact mB h _ _ 0 (by simpa using hc)
def qL e{c c'}(hc:VA E X c c'):RG P E (λX' a a'=>(∃b,X'=X++[b])/\AR E X' a a') X (newRow e c) (newRow e c'):=by unfold newRow;refine dU.bind (λY r b hr=>?_) (qM (.cells c c' e (0,0) (0,0) hc (.inl rfl)));exact⟨_,rfl,⟨b,hr.1⟩,hr.2,rfl,rfl⟩
def EG t{v v'}(hv:V E X v v'):RG P E (λX' a a'=>(∃b,X'=X++[b])/\AR E X' a a') X (newVar t v) (newVar t v'):=qL t hv.cells
def aaI t{c c'}(hc:VA E X c c') off:RE P E (V E X) X (part t c off) (part t c' off):=by unfold part;refine cJ (JM t) λb=>?_;split;exact cJ (dM t) λn=>az (V.PQ (hc.extract _ _));rcases hc.get off with⟨v,v',e1,e2,hv⟩|⟨e1,e2⟩;rw[e1,e2];exact az hv;rw[e1,e2];exact trivial
def n7{v v'}(h:V E X v v'):RE P E Eq X (asIntOf v) (asIntOf v'):=by cases h<;>first|exact trivial|exact az rfl
def AE{v v'}(h:V E X v v'):RE P E Eq X (asInt v) (asInt v'):=ay (n7 h) λ_ _ e=>by subst e;exact az rfl
def Sj{v v'}(h:V E X v v'):RE P E Eq X (asBool v) (asBool v'):=by cases h<;>first|exact trivial|exact az rfl
def j6{v v'}(h:V E X v v'):RE P E (AR E X) X (Instr.sureAddr v) (Instr.sureAddr v'):=by cases h<;>first|exact trivial|exact az ⟨by assumption,rfl,rfl⟩
def Wc:RuntimeError->Prop
 |.bounds _ _ _ _|.error _|.plain _|.nilDeref=>True|_=>False
def fY{Ψ e e'}(h:Wc e):RG P E Ψ X (runtimePanic e:Sem α) (runtimePanic e'):=by refine qN ?_;cases e<;>first|exact trivial|exact h.elim
def fZ{Ψ} k x y c:RG P E Ψ X (boundsPanic k x y c:Sem α) (boundsPanic k x y c):=by unfold boundsPanic;dsimp only;split;refine cJ (ay (m8 _) λa b e=>by subst e;exact az rfl) λb=>?_;refine fY ?_;exact trivial;refine cJ (az rfl) λb=>fY ?_;exact trivial
def EM{v v'}(h:V E X v v'):RE P E (AR E X) X (asAddr v) (asAddr v'):=by
 cases h;case ptrN=>show RE P E (AR E X) X (runtimePanic .nilDeref) (runtimePanic .nilDeref);exact fY trivial
 case ptr r b o s h=>exact az (R:=AR E X) ⟨h,rfl,rfl⟩
 case undef h=>cases v'<;>first|exact trivial|exact h.elim
 all_goals exact trivial
def VW t(hz:jN P t):RG P E (λX' v v'=>V E X' v v') X (Instr.alloc t true (.tuple #[])) (Instr.alloc t true (.tuple #[])):=by unfold Instr.alloc;refine ay (gD t hz) ?_;rintro z z'⟨e,hc⟩;subst e;refine jS (EG t (hc.self X)) ?_;rintro Y a a'⟨_,ha⟩;rw[ha.eq];exact⟨_,rfl,.ptr _ _ _ _ ha.1⟩
def aeE t{v v'}(hv:V E X v v'):RG P E (λX' v v'=>V E X' v v') X (Instr.box t v) (Instr.box t v'):=by unfold Instr.box;refine jS (EG t hv) ?_;rintro Y a a'⟨_,ha⟩;rw[ha.eq];exact⟨_,rfl,.ptr _ _ _ _ ha.1⟩
def Se t{v v'}(hv:V E X v v'):RE P E (V E X) X (Instr.loadAt t v) (Instr.loadAt t v'):=ay (j6 hv) λa a' ha=>Az ha t
def MJ t{v v' x x'}(hv:V E X v v')(hx:V E X x x'):RE P E (λ_ _=>True) X (Instr.storeAt t v x) (Instr.storeAt t v' x'):=ay (j6 hv) λa a' ha=>JJ ha t hx
theorem Cs place:∀l l' c c',l.length=l'.length->(∀(i:Nat)(p p'),l[i]? =some p->l'[i]? =some p'->p.1=p'.1/\V E X p.2 p'.2)->VA E X c c'->(∃d d',Instr.fill place c l=some d/\Instr.fill place c' l'=some d'/\VA E X d d')∨(Instr.fill place c l=none/\Instr.fill place c' l'=none)
 |[],[],c,c',_,_,hc=>.inl ⟨c,c',rfl,rfl,hc⟩|[],_::_,_,_,h,_,_=>by simp at h|_::_,[],_,_,h,_,_=>by simp at h|(i,v)::l,(i',v')::l',c,c',hl,hp,hc=>by
  obtain⟨e,hv⟩:=hp 0 _ _ rfl rfl;dsimp only at e hv;subst e;have hvc:=hv.cells;unfold Instr.fill;cases hpl:place i with
  |none=>exact .inr ⟨rfl,rfl⟩|some x=>
  obtain⟨off,size⟩:=x;dsimp only;rw[<-hvc.size,<-hc.size];split;exact .inr ⟨rfl,rfl⟩;refine Cs place l l' _ _ (by simpa using hl) (λj p p' h1 h2=>hp (j+1) p p' (by simpa using h1) (by simpa using h2)) ?_;have key:∀(w w':List Value)(d d':Array Value)(k:Nat),VA E X w.toArray w'.toArray->VA E X d d'->VA E X ((w.zipIdx k).foldl (λcs (x:Value×Nat)=>cs.setIfInBounds (off+x.2) x.1) d) ((w'.zipIdx k).foldl (λcs (x:Value×Nat)=>cs.setIfInBounds (off+x.2) x.1) d'):=by intro w;induction w with|nil=>intro w' d d' k hww hd;have e2:w'=[]:=List.eq_nil_of_length_eq_zero (by have:=hww.size;simpa using this.symm);subst e2;exact hd|cons x w ih=>intro w' d d' k hww hd;cases w' with|nil=>have:=hww.size;simp at this|cons x' w'=>rw[List.zipIdx_cons,List.zipIdx_cons,List.foldl_cons,List.foldl_cons];exact ih w' _ _ (k+1) ⟨by have:=hww.size;simpa using this,λj y y' h1 h2=>hww.el (j+1) y y' (by simpa using h1) (by simpa using h2)⟩ (hd.set _ (hww.el 0 x x' (by simp) (by simp)))
  rw[<-Array.foldl_toList,<-Array.foldl_toList,Array.toList_zipIdx,Array.toList_zipIdx];exact key _ _ _ _ 0 (by simpa using hvc) hc
structure PR(E:Env)(X:List Nat)(l l':Array (Nat×Value)):Prop where
 size:l.size=l'.size
 el:∀(i:Nat)(p p':Nat×Value),l[i]? =some p->l'[i]? =some p'->p.1=p'.1/\V E X p.2 p'.2
theorem PD{γ}(f:γ->Sem α)(hf:∀a,RE P E Eq X (f a) (f a)):∀(l:List γ),RE P E Eq X (l.mapM f) (l.mapM f)
 |[]=>by rw[List.mapM_nil];exact az rfl|a::l=>by rw[List.mapM_cons];exact cJ (hf a) λb=>cJ (PD f hf l) λr=>az rfl
def V5{γ}(f:γ->Sem α)(hf:∀a,RE P E Eq X (f a) (f a))(l:Array γ):RE P E Eq X (l.mapM f) (l.mapM f):=by rw[Array.mapM_eq_mapM_toList];refine ay (R:=Eq) (PD f hf _) λa b e=>?_;subst e;exact az rfl
def Wa t(hz:jN P t){l l'}(hl:PR E X l l'):RE P E (V E X) X (Instr.build t l) (Instr.build t l'):=by unfold Instr.build;refine ay (gD t hz) ?_;rintro z z'⟨e,hc⟩;subst e;have hzc:=(hc.self (E:=E) X).cells;have XK:∀place,(∃d d',Instr.fill place z.cells l.toList=some d/\Instr.fill place z.cells l'.toList=some d'/\VA E X d d')∨(Instr.fill place z.cells l.toList=none/\Instr.fill place z.cells l'.toList=none):=λplace=>Cs place _ _ _ _ (by simpa using hl.size) (λi p p' h1 h2=>hl.el i p p' (by simpa using h1) (by simpa using h2)) hzc;dsimp only;refine cJ (bL t) λd=>?_;split;refine cJ (V5 _ (λf=>cJ (dM _) λn=>az rfl) _) λplaces=>?_;rcases XK (places[·]?)with⟨d,d',e1,e2,hd⟩|⟨e1,e2⟩;rw[e1,e2];exact az (V.PQ hd);rw[e1,e2];exact trivial;refine cJ (dM _) λsize=>?_;rcases XK (λi=>some (i*size,size))with⟨d,d',e1,e2,hd⟩|⟨e1,e2⟩;rw[e1,e2];exact az (V.PQ hd);rw[e1,e2];exact trivial;exact trivial
def VA.lY{z:Array Value}(hz:∀(i:Nat) v,z[i]? =some v->Clean v) n:VA E X ((Array.range n).map (z[· % z.size]!)) ((Array.range n).map (z[· % z.size]!)):=by
 refine VA.map _ _ _ λa ha=>?_;have hc:Clean (z[a % z.size]!):=by rw[getElem!_def];cases hh:z[a % z.size]? with|none=>exact(Clean.bool false:Clean (.bool false)) |> λ_=>(show Clean (default:Value)from .bool false)|some v=>exact hz _ _ hh
 exact hc.self X
def Ls(z:Value):(∃a,z=.agg a)∨z.cells=#[z]:=by cases z<;>first|exact .inl ⟨_,rfl⟩|exact .inr rfl
def Clean.cells{z}(h:Clean z):∀(i:Nat) v,z.cells[i]? =some v->Clean v:=by
 rcases Ls z with⟨a,rfl⟩|e;cases h with|agg _ h=>exact h
 intro i v hv;rw[e]at hv;have:=Array.mem_of_getElem? hv;simp at this;subst this;exact h
def Dz t (hz : ∀ e, P.underlying t = some (.slice e) -> jN P e) n {l l'} (hl : PR E X l l') : RG P E (λX' v v' => V E X' v v') X (Instr.buildSlice t n l) (Instr.buildSlice t n l') := by
  unfold Instr.buildSlice
  refine ay (bF t) ?_
  rintro d d' ⟨e, hu⟩
  subst e
  split
  · rename_i elem
    refine cJ (dM _) λsize => ?_
    dsimp only
    refine dR trivial ?_
    have il : ∀ z : Array Value, (∀ (i : Nat) v, z[i]? = some v -> Clean v) -> RG P E (λX' v v' => V E X' v v') X
        (match Instr.fill (λi => some (i * size, size)) ((Array.range (n * size)).map (z[· % z.size]!)) l.toList with
          | some cells => do pure (.slice (some (<- newRow elem cells)) n n)
          | _ => stuck "buildSlice: a part of the wrong size")
        (match Instr.fill (λi => some (i * size, size)) ((Array.range (n * size)).map (z[· % z.size]!)) l'.toList with
          | some cells => do pure (.slice (some (<- newRow elem cells)) n n)
          | _ => stuck "buildSlice: a part of the wrong size") := by
      intro z hc
      rcases Cs (E := E) (X := X) (λi => some (i * size, size)) l.toList l'.toList _ _ (by simpa using hl.size) (λi p p' h1 h2 => hl.el i p p' (by simpa using h1) (by simpa using h2)) (VA.lY hc (n * size)) with ⟨d, d', e1, e2, hd⟩ | ⟨e1, e2⟩
      · rw [e1, e2]
        refine jS (qL elem hd) ?_
        rintro Y a a' ⟨_, ha⟩
        rw [ha.eq]
        exact ⟨_, rfl, .slice _ _ _ _ _ _ ha.1⟩
      · rw [e1, e2]; exact trivial
    refine dR ?_ ?_
    · exact ay (R := λa b => a = #[] /\ b = #[]) (az ⟨rfl, rfl⟩) (λa b ⟨e1, e2⟩ => by subst e1; subst e2; exact il _ (λi v h => by simp at h))
    · refine ay (gD _ (hz _ hu)) ?_
      rintro z z' ⟨e, hc⟩
      subst e
      exact ay (R := λa b => a = z.cells /\ b = z.cells) (az ⟨rfl, rfl⟩) (λa b ⟨e1, e2⟩ => by subst e1; subst e2; exact il _ hc.cells)
  · exact trivial
def IC(P:Program)(t:TypeId):Prop:=∀(fs:Array Field)(f:Field)(i:TypeInfo)(n:Nat),P.underlying t=some (.struct fs)->fs[n]? =some f->P.info? f.type=some i->i.size≠0
def MS t(hs:IC P t){v v'}(hv:V E X v v') n:RE P E (V E X) X (Instr.fieldAt t v n) (Instr.fieldAt t v' n):=by
 unfold Instr.fieldAt;refine ay (bF t) ?_;rintro d d'⟨e,hu⟩;subst e;split;rename_i fields;split;rename_i f hf;refine ay (j6 hv) λa a' ha=>?_;have hp:RE P E (AR E X) X (fieldPlace a f) (fieldPlace a' f):=by
  unfold fieldPlace;have lU:RE P E (λx y=>x=y/\x≠0) X (sizeOf f.type) (sizeOf f.type):=by unfold sizeOf;refine ay (pE f.type) ?_;rintro i i'⟨e,hi⟩;subst e;exact az ⟨rfl,hs _ _ _ _ hu hf hi⟩
  refine ay lU ?_;rintro x y⟨e,bZ⟩;subst e;rw[if_neg bZ,if_neg bZ];exact az (ha.add _)
 refine ay hp λa a' ha=>?_;rw[ha.eq];exact az (.ptr _ _ _ _ ha.1);exact trivial;exact trivial
def JL (n : Int) k (len : Nat) elem aif {a a'} (ha : AR E X a a') : RE P E (V E X) X
    (if 0 <= n /\ n < len then do pure (.pointer (some (a.add (n.toNat * (<- sizeOf elem)))))
      else if aif = true then unsupported (.noEntry "op/indexAddr.an index out of range at an array of length 0 or 1 (ledger 616)") else boundsPanic k n len .index)
    (if 0 <= n /\ n < len then do pure (.pointer (some (a'.add (n.toNat * (<- sizeOf elem)))))
      else if aif = true then unsupported (.noEntry "op/indexAddr.an index out of range at an array of length 0 or 1 (ledger 616)") else boundsPanic k n len .index) := by
  refine dR ?_ (dR trivial (fZ _ _ _ _))
  refine cJ (dM _) λm => ?_
  have := ha.add (n.toNat * m)
  rw [this.eq]
  exact az (.ptr _ _ _ _ this.1)
def MR t{v v' i i'}(hv:V E X v v')(hi:V E X i i'):RE P E (V E X) X (Instr.indexAt t v i) (Instr.indexAt t v' i'):=by
 unfold Instr.indexAt;refine ay (n7 hi) ?_;rintro⟨k,n⟩_ rfl;dsimp only;refine cJ (bL t) λd=>?_;cases d with
 |array len elem=>refine ay (j6 hv) λa a' ha=>?_;refine ay (R:=λx y=>x=(some a,len,elem)/\y=(some a',len,elem)) (az ⟨rfl,rfl⟩) ?_;rintro _ _⟨rfl,rfl⟩;refine cJ (bL t) λd2=>?_;exact JL n k len elem _ ha
 |slice elem=>
  cases hv with
  |fp m c=>refine ay (R:=λx y=>x=(none,m,elem)/\y=(none,m,elem)) (az ⟨rfl,rfl⟩) ?_;rintro _ _⟨rfl,rfl⟩;refine cJ (bL t) λd2=>?_;exact fZ _ _ _ _
  |slice r b o s m c h=>refine ay (R:=λx y=>x=(some ⟨r,o,s⟩,m,elem)/\y=(some ⟨b,o,s⟩,m,elem)) (az ⟨rfl,rfl⟩) ?_;rintro _ _⟨rfl,rfl⟩;refine cJ (bL t) λd2=>?_;exact JL n k m elem _ ⟨h,rfl,rfl⟩
  |_=>exact trivial
 |_=>exact trivial
inductive VO(E:Env)(X:List Nat):Option Value->Option Value->Prop
 |none:VO E X none none
 |some {v v':Value} (h:V E X v v'):VO E X (some v) (some v')
def jU{v v'}(hv:V E X v v') y c:RE P E Eq X (Instr.sliceBound v y c) (Instr.sliceBound v' y c):=by unfold Instr.sliceBound;refine ay (n7 hv) ?_;rintro⟨k,n⟩_ rfl;exact V7 (az rfl) (fZ _ _ _ _)
def gg b len cap {l l' h h' m m'} (hl : VO E X l l') (hh : VO E X h h') (hm : VO E X m m') : RE P E Eq X (Instr.sliceBounds b len cap l h m) (Instr.sliceBounds b len cap l' h' m') := by
  unfold Instr.sliceBounds
  have yN : ∀ (hi mx : Nat) (b2 b3 : Bool), b2 = b3 -> RE P E Eq X
      (do let l <- match l with
            | some v => Instr.sliceBound v hi (if b2 then .slice3C else .sliceB)
            | none => pure 0
          pure (l, hi, mx))
      (do let l <- match l' with
            | some v => Instr.sliceBound v hi (if b3 then .slice3C else .sliceB)
            | none => pure 0
          pure (l, hi, mx)) := by
    intro hi mx b2 b3 e
    subst e
    cases hl with
    | none => exact az rfl
    | some hv => exact ay (jU hv _ _) λa a' e => by subst e; exact az rfl
  cases hm with
  | none =>
    refine cJ (az rfl) λmx => ?_
    cases hh with
    | none => exact cJ (az rfl) λhi => yN _ _ _ _ rfl
    | some hv => exact ay (jU hv _ _) λa a' e => by subst e; exact yN _ _ _ _ rfl
  | some hv =>
    refine ay (jU hv _ _) λmx mx' e => ?_
    subst e
    cases hh with
    | none => exact trivial
    | some hv => exact ay (jU hv _ _) λa a' e => by subst e; exact yN _ _ _ _ rfl
def V4 t{v v'}(hv:V E X v v'){l l' h h' m m'}(hl:VO E X l l')(hh:VO E X h h')(hm:VO E X m m'):RE P E (V E X) X (Instr.slice t v l h m) (Instr.slice t v' l' h' m'):=by
 unfold Instr.slice;refine cJ (bL t) λd=>?_;cases d with
 |string=>
  cases hv with
  |string s=>
   cases hm with
   |none=>refine ay (gg _ _ _ hl hh .none) ?_;rintro⟨a,b,c⟩_ rfl;exact az (.string _)
   |some _=>exact trivial
  |_=>exact trivial
 |slice elem=>
  cases hv with
  |fp n c=>refine ay (gg _ _ _ hl hh hm) ?_;rintro⟨a,b,c⟩_ rfl;refine cJ (dM _) λz=>?_;split<;>exact az (.fp _ _)
  |slice r b o s n c hr=>refine ay (gg _ _ _ hl hh hm) ?_;rintro⟨x,y,z⟩_ rfl;refine cJ (dM _) λq=>?_;split;exact az (.slice _ _ _ _ _ _ hr);have ha:AR E X ((⟨r,o,s⟩:Addr).add (x*q)) ((⟨b,o,s⟩:Addr).add (x*q)):=AR.add (show AR E X ⟨r,o,s⟩ ⟨b,o,s⟩from⟨hr,rfl,rfl⟩) _;simp only[Option.map_some];rw[ha.eq];exact az (.slice _ _ _ _ _ _ ha.1)
  |_=>exact trivial
 |pointer arr=>refine ay (EM hv) λa a' ha=>?_;refine cJ (bL arr) λd2=>?_;split;refine ay (gg _ _ _ hl hh hm) ?_;rintro⟨x,y,z⟩_ rfl;refine cJ (dM _) λq=>?_;split;rw[ha.eq];exact az (.slice _ _ _ _ _ _ ha.1);have hb:=ha.add (x*q);rw[hb.eq];exact az (.slice _ _ _ _ _ _ hb.1);exact trivial
 |_=>cases hv<;>exact trivial
def MK t{v v'}(hv:V E X v v'){l l' h h' m m'}(hl:VO E X l l')(hh:VO E X h h')(hm:VO E X m m'):RE P E (V E X) X (Instr.sliceAt t v l h m) (Instr.sliceAt t v' l' h' m'):=by unfold Instr.sliceAt;refine cJ (bL t) λd=>?_;split;refine ay (j6 hv) λa a' ha=>?_;refine ay (gg _ _ _ hl hh hm) ?_;rintro⟨x,y,z⟩_ rfl;refine cJ (dM _) λq=>?_;split;rw[ha.eq];exact az (.slice _ _ _ _ _ _ ha.1);have hb:=ha.add (x*q);rw[hb.eq];exact az (.slice _ _ _ _ _ _ hb.1);exact V4 t hv hl hh hm
def V8 t{v v' i i'}(hv:V E X v v')(hi:V E X i i'):RE P E (V E X) X (Instr.index t v i) (Instr.index t v' i'):=by
 unfold Instr.index;refine ay (n7 hi) ?_;rintro⟨k,n⟩_ rfl;dsimp only;refine cJ (bL t) λd=>?_;cases d with
 |array len elem=>cases hv with|agg a a' h1 h2=>refine dR ?_ (fZ _ _ _ _);exact cJ (dM _) λm=>aaI elem ⟨h1,h2⟩ _|_=>exact trivial
 |string=>cases hv with|string s=>dsimp only;split;exact az (.int _ _);exact fZ _ _ _ _|_=>exact trivial
 |_=>cases hv<;>exact trivial
def MT i{v v'}(hv:V E X v v'):RE P E (V E X) X (Instr.extract v i) (Instr.extract v' i):=by
 cases hv with
 |tuple a a' h1 h2=>unfold Instr.extract;dsimp only;rcases(VA.mk h1 h2:VA E X a a').get i with⟨x,x',e1,e2,hx⟩|⟨e1,e2⟩;rw[e1,e2];exact az hx;rw[e1,e2];exact trivial
 |_=>exact trivial
def m9{v v'}(hv:V E X v v'):RE P E (V E X) X (Conv.bytesToString v) (Conv.bytesToString v'):=by
 cases hv with
 |fp n c=>exact az (.string _)|slice r b o s n c h=>
  unfold Conv.bytesToString;refine ay (n5 (show AR E X ⟨r,o,s⟩ ⟨b,o,s⟩from⟨h,rfl,rfl⟩) n) λc c' hc=>?_;have key:∀(l l':List Value)(s:ByteArray),VA E X l.toArray l'.toArray->RE P E Eq X
    (forIn l s λc r=>match c with
     |.int .u8 n=>pure (ForInStep.yield (r.push (UInt8.ofNat n.toNat)))
     |_=>stuck "bytesToString: byte expected" :Sem ByteArray)
    (forIn l' s λc r=>match c with
     |.int .u8 n=>pure (ForInStep.yield (r.push (UInt8.ofNat n.toNat)))
     |_=>stuck "bytesToString: byte expected" :Sem ByteArray):=by
   intro l;induction l with
   |nil=>
    intro l' s hl;have:l'=[]:=List.eq_nil_of_length_eq_zero (by have:=hl.size;simpa using this.symm)
    subst this;exact az rfl
   |cons x l ih=>
    intro l' s hl;cases l' with
    |nil=>have:=hl.size;simp at this
    |cons x' l'=>
     have hx:=hl.el 0 x x' (by simp) (by simp)
     have hl':VA E X l.toArray l'.toArray:=⟨by have:=hl.size;simpa using this,λj y y' h1 h2=>hl.el (j+1) y y' (by simpa using h1) (by simpa using h2)⟩
     rw[List.forIn_cons,List.forIn_cons];cases hx with
     |int k n=>
      cases k<;>first|exact trivial|(refine ay (R:=λx y=>x=ForInStep.yield (s.push (UInt8.ofNat n.toNat))/\y=x) (az ⟨rfl,rfl⟩) ?_;rintro _ _ ⟨rfl,rfl⟩;exact ih l' _ hl')
     |_=>exact trivial
  dsimp only;rw[<-Array.forIn_toList,<-Array.forIn_toList];refine ay (key c.toList c'.toList _ (by simpa using hc)) ?_;rintro s _ rfl;exact az (.string _)
 |_=>exact trivial
def nt{Ψ}:∀ {s t:Sem α}{s':Sem α},norm P s=norm P t->RG P E Ψ X s s'->RG P E Ψ X t s':=by
 have key:∀(t s':Sem α),RG P E Ψ X (norm P t) s'->RG P E Ψ X t s':=by intro t;induction t with|program k ih=>intro s' h;exact ih P s' h|_=>intro s' h;exact h
 have ape:∀(t s':Sem α),RG P E Ψ X t s'->RG P E Ψ X (norm P t) s':=by intro t;induction t with|program k ih=>intro s' h;exact ih P s' h|_=>intro s' h;exact h
 intro s t s' e h;exact key t s' (e▸ape s s' h)
def fI{t d}(h:P.underlying t=some d):norm P (underlying t)=.pure d:=by show norm P (match P.underlying t with|some d=>pure d|none=>stuck "no such type")=_;rw[h];rfl
def yJ{Ψ t d}(h:P.underlying t=some d){f:TypeDesc->Sem α}{s'}(hf:RG P E Ψ X (f d) s'):RG P E Ψ X (underlying t >>= f) s':=by refine nt ?_ hf;show _=norm P ((underlying t).bind f);rw[en,fI h];rfl
def OX(P:Program)(src dst:TypeId):Prop:=(∃k j,P.underlying dst=some (.int k)/\P.underlying src=some (.int j))∨(P.underlying dst=some .string/\∃e,P.underlying src=some (.slice e)/\P.underlying e=some (.int .u8))
def MU src dst(h:OX P src dst){v v'}(hv:V E X v v'):RE P E (V E X) X (convert src dst v) (convert src dst v'):=by
 unfold convert;refine ay (bF src) ?_;rintro ds _⟨rfl,hs⟩;refine ay (bF dst) ?_;rintro dd _⟨rfl,hd⟩;rcases h with⟨k,j,h1,h2⟩|⟨h1,e,h2,h3⟩;rw[h1]at hd;rw[h2]at hs;cases hd;cases hs;cases hv with|int j n=>exact az (.int _ _)|_=>exact trivial
 rw[h1]at hd;rw[h2]at hs;cases hd;cases hs;have hu:RE P E (λa b=>a=.int .u8/\b=.int .u8) X (underlying e) (underlying e):=Gz (bF e) λa b ⟨e1,e2⟩=>by subst e1;rw[h3]at e2;cases e2;exact⟨rfl,rfl⟩
 cases hv with
 |int k n=>exact az (.string _)|string s=>exact az (.string _)
 |slice r b o s n c h=>refine ay hu ?_;rintro _ _⟨rfl,rfl⟩;exact m9 (.slice r b o s n c h)
 |fp n c=>refine ay hu ?_;rintro _ _⟨rfl,rfl⟩;exact m9 (.fp n c)
 |_=>exact yJ h3 trivial
def JN op k a b:RE P E (V E X) X (Op.intArith op k a b) (Op.intArith op k a b):=by unfold Op.intArith;cases op<;>first|exact az (.int _ _)|exact trivial
def MQ op k a b:RE P E (V E X) X (Op.intBits op k a b) (Op.intBits op k a b):=by unfold Op.intBits;dsimp only;cases op<;>first|exact az (.int _ _)|exact trivial
def Sf op a b:RE P E (V E X) X (Op.intCmp op a b) (Op.intCmp op a b):=by unfold Op.intCmp;cases op<;>first|exact az (.bool _)|exact trivial
def JK op k j a b:RE P E (V E X) X (Op.shift op k a j b) (Op.shift op k a j b):=by unfold Op.shift;split;refine fY ?_;exact trivial;dsimp only;cases op<;>first|exact az (.int _ _)|exact trivial
def u5(op:BinOp):Prop:=match op with
 |.add|.sub|.mul|.and|.or|.xor|.shl|.shr|.lss|.geq=>True
 |_=>False
def xu{r b}(h:At E X r b):RE P E (λx y=>x=none/\y=none∨∃a a' l,x=some (a,l)/\y=some (a',l)/\AR E X a a') X (numberAt r) (numberAt b):=by unfold numberAt;refine ay (R:=Eq) (m6 h) λz _ e=>?_;subst e;cases z with|some z=>exact az (.inl ⟨rfl,rfl⟩)|none=>refine ay (gG h) λo o' ho=>?_;cases ho with|number r b o s l h=>exact az (.inr ⟨_,_,l,rfl,rfl,h,rfl,rfl⟩)|_=>exact az (.inl ⟨rfl,rfl⟩)
def EJ{r b}(h:At E X r b):RE P E (λx y=>x=none/\y=none) X (viewAt r) (viewAt b):=by unfold viewAt;refine ay (R:=Eq) (m6 h) λz _ e=>?_;subst e;cases z with|some z=>exact az ⟨rfl,rfl⟩|none=>refine ay (gG h) λo o' ho=>?_;cases ho<;>exact az ⟨rfl,rfl⟩
def fG{a a'}(h:AR E X a a'):RE P E (λx y=>AR E X x.1 y.1/\x.2=y.2) X (behindNumber a) (behindNumber a'):=by unfold behindNumber;refine ay (xu h.1) λx y ZN=>?_;rcases ZN with⟨rfl,rfl⟩|⟨b,b',l,rfl,rfl,hb⟩;exact az ⟨h,rfl⟩;exact az ⟨hb,rfl⟩
def Sb{a a'}(h:AR E X a a'):RE P E (λ_ _=>True) X (noView a) (noView a'):=by unfold noView;refine ay (EJ h.1) ?_;rintro _ _⟨rfl,rfl⟩;exact az trivial
def Si{a a'}(h:AR E X a a'):RE P E Eq X (byteOf a) (byteOf a'):=by unfold byteOf;rw[h.2.2];cases a.spot with|some s=>exact az rfl|none=>refine qN ?_;refine ay (Sb h) λ_ _ _=>?_;refine ay (R:=Eq) (m6 h.1) λz _ e=>?_;subst e;cases z with|none=>exact trivial|some z=>refine V7 (az rfl) ?_;rw[h.2.1];split;exact az rfl;exact trivial
def PP(E:Env)(X:List Nat)(v v':Value):Prop:=∃a a',v=.pointer (some a)/\v'=.pointer (some a')/\AR E X a a'
def PP.v{v v'}(h:PP E X v v'):V E X v v':=by obtain⟨a,a',rfl,rfl,ha⟩:=h;rw[ha.eq];exact .ptr _ _ _ _ ha.1
def kL ts t{a a'}(h:a=none/\a'=none∨∃b b',a=some b/\a'=some b'/\AR E X b b'){v v'}(hv:V E X v v'):RE P E (PP E X) X (Builtin.unsafeAdd_ ts t #[.pointer a,v]) (Builtin.unsafeAdd_ ts t #[.pointer a',v']):=by unfold Builtin.unsafeAdd_;dsimp only;refine ay (R:=Eq) (AE hv) λn _ e=>?_;subst e;rcases h with⟨rfl,rfl⟩|⟨b,b',rfl,rfl,hb⟩;refine dR trivial (dR trivial trivial);refine dR ?_ (dR trivial ?_);refine ay (EJ hb.1) ?_;rintro _ _⟨rfl,rfl⟩;exact az ⟨b,b',rfl,rfl,hb⟩;refine ay (R:=Eq) (m6 hb.1) λz _ e=>?_;subst e;cases z with|none=>exact trivial|some z=>refine qN ?_;rw[hb.2.1];split;exact az ⟨_,_,rfl,rfl,hb.1,rfl,hb.2.2⟩;exact trivial
def Jz{a a'}(h:AR E X a a') l:RG P E (λX' v v'=>V E X' v v') X (asNumber a l) (asNumber a' l):=by unfold asNumber;rw[h.eq];refine jS (qM (.number a.block a'.block a.off a.spot l h.1)) ?_;rintro Y r b⟨_,hr⟩;exact⟨_,rfl,.ptr _ _ _ _ hr⟩
def lj t{a a'}(h:a=none/\a'=none∨∃b b',a=some b/\a'=some b'/\AR E X b b'){y y'}(hy:V E X y y'):RG P E (λX' v v'=>V E X' v v') X (movedNumber t (.pointer a) y) (movedNumber t (.pointer a') y'):=by unfold movedNumber;refine cJ (bL t) λd=>?_;dsimp only;refine dR trivial ?_;rcases h with⟨rfl,rfl⟩|⟨b,b',rfl,rfl,hb⟩;have:=kL (P:=P) (E:=E) (X:=X) #[] t (.inl ⟨rfl,rfl⟩) hy;exact tV this λ_ _ h=>h.v;refine ay (fG hb) ?_;rintro⟨a,l⟩⟨a',l'⟩⟨ha,hl⟩;dsimp only at ha hl|-;subst hl;refine ay (kL #[] t (.inr ⟨a,a',rfl,rfl,ha⟩) hy) ?_;rintro _ _⟨c,c',rfl,rfl,hc⟩;exact Jz hc l
def yu t{a a'}(h:a=none/\a'=none∨∃b b',a=some b/\a'=some b'/\AR E X b b'){y y'}(hy:V E X y y'):RG P E (λX' v v'=>V E X' v v') X (movedPointer t (.pointer a) y) (movedPointer t (.pointer a') y'):=by unfold movedPointer;rcases h with⟨rfl,rfl⟩|⟨b,b',rfl,rfl,hb⟩;exact tV (kL (P:=P) (E:=E) (X:=X) #[] t (.inl ⟨rfl,rfl⟩) hy) λ_ _ h=>h.v;dsimp only;refine ay (xu hb.1) λx y ZN=>?_;have hgo:=tV (Ψ:=λX' v v'=>V E X' v v') (kL (P:=P) (E:=E) (X:=X) #[] t (.inr ⟨b,b',rfl,rfl,hb⟩) hy) λ_ _ h=>h.v;rcases ZN with⟨rfl,rfl⟩|⟨_,_,l,rfl,rfl,_⟩;exact hgo;exact trivial
def Gy{a a' b b'}(hG:P.globals.size<=E.G)(ha:AR E X a a')(hb:AR E X b b'){Ψ}:RG P E Ψ X (Op.twoPlaces a b) (Op.twoPlaces a' b'):=by
 unfold Op.twoPlaces;refine nt (s:=.halt (.unsupported .addressObserved)) ?_ trivial;have:(a.block != b.block || decide (a.block≥P.globals.size))=true:=by have:=ha.1.1;simp;right;omega
 show _=norm P (if(a.block != b.block || decide (a.block≥P.globals.size))=true then _ else _);rw[if_pos this];rfl
def AF{a a'}(ha:AR E X a a') k n:RE P E (V E X) X (Op.addrMod k a n) (Op.addrMod k a' n):=by unfold Op.addrMod;refine ay (R:=Eq) (m6 ha.1) λz _ e=>?_;subst e;cases z with|none=>exact trivial|some z=>refine cJ (gF _) λi=>?_;dsimp only;refine dR trivial ?_;refine ay (R:=Eq) (Si ha) λx _ e=>?_;subst e;exact az (.int _ _)
def JI op a b:RE P E (V E X) X (Op.stringOp op a b) (Op.stringOp op a b):=by unfold Op.stringOp;dsimp only;cases op<;>first|exact az (.bool _)|exact dR trivial (az (.string _))|exact trivial
def SR:Value->Bool
 |.int _ _|.string _|.pointer _|.float _ _|.complex _ _ _=>true|_=>false
def Za op(h:u5 op) t:∀x y,SR x=false->∃k,eu k/\binOp op t x y=.halt k:=by
 intro x y hx;cases op<;>first
  |exact h.elim
  |(cases x<;>first
    |exact Bool.noConfusion hx
    |(cases y<;>first|(refine⟨_,?_,rfl⟩;exact trivial)|(rename_i a;cases a<;>(refine⟨_,?_,rfl⟩;exact trivial))))
def Y9 op(h:u5 op) t:∀x y,SR y=false->∃k,eu k/\binOp op t x y=.halt k:=by
 intro x y hx;cases op<;>first
  |exact h.elim
  |(cases y<;>first
    |exact Bool.noConfusion hx
    |(cases x<;>first|(refine⟨_,?_,rfl⟩;exact trivial)|(rename_i a;cases a<;>(refine⟨_,?_,rfl⟩;exact trivial))))
def mg{Ψ}{s s':Sem α}(h:∃k,eu k/\s=.halt k):RG P E Ψ X s s':=by obtain⟨k,hk,rfl⟩:=h;exact hk
def MB op(h:u5 op) t k j a b:RE P E (V E X) X (binOp op t (.int k a) (.int j b)) (binOp op t (.int k a) (.int j b)):=by
 cases op<;>first
  |exact h.elim
  |exact dR trivial (JN _ _ _ _)
  |exact dR trivial (MQ _ _ _ _)
  |exact dR trivial (Sf _ _ _)
  |exact JK .shl k j a b
  |exact JK .shr k j a b
def AO(E:Env)(X:List Nat)(a a':Option Addr):Prop:=a=none/\a'=none∨∃b b',a=some b/\a'=some b'/\AR E X b b'
def ao{r b o s}(h:At E X r b):AO E X (some ⟨r,o,s⟩) (some ⟨b,o,s⟩):=.inr ⟨_,_,rfl,rfl,h,rfl,rfl⟩
def Gq {a a' b b'} (ha : AR E X a a') (hb : AR E X b b') {Ψ} {f f' : Addr -> Addr -> Sem Value} (hf : ∀ c c' d d', AR E X c c' -> AR E X d d' -> RG P E Ψ X (f c d) (f' c' d')) :
    RG P E Ψ X (do f (<- behindNumber a).1 (<- behindNumber b).1) (do f' (<- behindNumber a').1 (<- behindNumber b').1) := by
  refine ay (fG ha) ?_
  rintro x y ⟨h1, _⟩
  refine ay (fG hb) ?_
  rintro u v ⟨h2, _⟩
  exact hf _ _ _ _ h1 h2
def My{a a' b b'}(hG:P.globals.size<=E.G)(ha:AR E X a a')(hb:AR E X b b'){Ψ}{f f':Nat×Nat->Sem Value}:RG P E Ψ X (Op.twoPlaces a b >>= f) (Op.twoPlaces a' b' >>= f'):=dU.bind (Φ:=λ_ _ _=>False) (λ_ _ _ h=>h.elim) (Gy hG ha hb)
def tO op(h:u5 op) t{a a'}(ha:AO E X a a') k n:RG P E (λX' v v'=>V E X' v v') X (binOp op t (.pointer a) (.int k n)) (binOp op t (.pointer a') (.int k n)):=by
 cases op<;>first
  |exact h.elim
  |exact trivial
  |exact cJ (bL t) λd=>dR (yu t ha (.int _ _)) (lj t ha (.int _ _))
  |exact lj t ha (.int _ _)
  |skip
 case lss=>rcases ha with⟨rfl,rfl⟩|⟨b,b',rfl,rfl,hb⟩<;>exact trivial
 case geq=>rcases ha with⟨rfl,rfl⟩|⟨b,b',rfl,rfl,hb⟩<;>exact trivial
 case and=>rcases ha with⟨rfl,rfl⟩|⟨b,b',rfl,rfl,hb⟩;exact trivial;refine ay (fG hb) ?_;rintro x y⟨h1,_⟩;exact tV (AF h1 _ _) λ_ _ h=>h
def tP op(h:u5 op) t{a a'}(ha:AO E X a a') k n:RG P E (λX' v v'=>V E X' v v') X (binOp op t (.int k n) (.pointer a)) (binOp op t (.int k n) (.pointer a')):=by
 cases op<;>first
  |exact h.elim
  |exact trivial
  |exact lj t ha (.int _ _)
  |skip
 case and=>rcases ha with⟨rfl,rfl⟩|⟨b,b',rfl,rfl,hb⟩;exact trivial;refine ay (fG hb) ?_;rintro x y⟨h1,_⟩;exact tV (AF h1 _ _) λ_ _ h=>h
def kK op(h:u5 op) t(hG:P.globals.size<=E.G){a a' b b'}(ha:AO E X a a')(hb:AO E X b b'):RG P E (λX' v v'=>V E X' v v') X (binOp op t (.pointer a) (.pointer b)) (binOp op t (.pointer a') (.pointer b')):=by
 rcases ha with⟨rfl,rfl⟩|⟨c,c',rfl,rfl,hc⟩;rcases hb with⟨rfl,rfl⟩|⟨d,d',rfl,rfl,hd⟩<;>cases op<;>first|exact h.elim|exact trivial
 rcases hb with⟨rfl,rfl⟩|⟨d,d',rfl,rfl,hd⟩;cases op<;>first|exact h.elim|exact trivial
 cases op;case sub=>exact Gq (f:=λa b=>Op.addrSub .u64 a b) (f':=λa b=>Op.addrSub .u64 a b) hc hd λ_ _ _ _ h1 h2=>My hG h1 h2
 case lss=>exact Gq (f:=λa b=>Op.addrCmp .lss a b) (f':=λa b=>Op.addrCmp .lss a b) hc hd λ_ _ _ _ h1 h2=>My hG h1 h2
 case geq=>exact Gq (f:=λa b=>Op.addrCmp .geq a b) (f':=λa b=>Op.addrCmp .geq a b) hc hd λ_ _ _ _ h1 h2=>My hG h1 h2
 all_goals first|exact h.elim|exact trivial
def VU op(h:u5 op) t(hG:P.globals.size<=E.G){x x' y y'}(hx:V E X x x')(hy:V E X y y'):RG P E (λX' v v'=>V E X' v v') X (binOp op t x y) (binOp op t x' y'):=by
 have aS:∀k n s,∃z,eu z/\binOp op t (.int k n) (.string s)=.halt z:=λk n s=>by cases op<;>first|exact h.elim|(refine⟨_,?_,rfl⟩;exact trivial)
 have LY:∀k n s,∃z,eu z/\binOp op t (.string s) (.int k n)=.halt z:=λk n s=>by cases op<;>first|exact h.elim|(refine⟨_,?_,rfl⟩;exact trivial)
 have IS:∀a s,∃z,eu z/\binOp op t (.string s) (.pointer a)=.halt z:=λa s=>by cases a<;>cases op<;>first|exact h.elim|(refine⟨_,?_,rfl⟩;exact trivial)
 have hsp:∀a s,∃z,eu z/\binOp op t (.pointer a) (.string s)=.halt z:=λa s=>by cases a<;>cases op<;>first|exact h.elim|(refine⟨_,?_,rfl⟩;exact trivial)
 have ZQ:∀a b,binOp op t (.string a) (.string b)=Op.stringOp op a b:=λa b=>by cases op<;>first|exact h.elim|rfl
 by_cases hn:SR x=true/\SR y=true;obtain⟨h1,h2⟩:=hn;have hAO:∀ {v v'},V E X v v'->∀a,v=.pointer a->∃a',v'=.pointer a'/\AO E X a a':=by
  intro v v' hv a e;cases hv with
  |ptrN=>cases e;exact⟨_,rfl,.inl ⟨rfl,rfl⟩⟩
  |ptr r b o s h=>cases e;exact⟨_,rfl,.inr ⟨_,_,rfl,rfl,h,rfl,rfl⟩⟩
  |_=>cases e
 cases hx with
 |int k n=>cases hy with|int j m=>exact tV (MB op h t k j n m) λ_ _ h=>h|string s=>exact mg (aS _ _ _)|ptrN=>exact tP op h t (.inl ⟨rfl,rfl⟩) k n|ptr r b o s hr=>exact tP op h t (ao hr) k n|_=>cases h2
 |string s=>cases hy with|int j m=>exact mg (LY _ _ _)|string s2=>rw[ZQ];exact tV (JI op s s2) λ_ _ h=>h|ptrN=>exact mg (IS _ _)|ptr r b o s hr=>exact mg (IS _ _)|_=>cases h2
 |ptrN=>cases hy with|int j m=>exact tO op h t (.inl ⟨rfl,rfl⟩) j m|string s=>exact mg (hsp _ _)|ptrN=>exact kK op h t hG (.inl ⟨rfl,rfl⟩) (.inl ⟨rfl,rfl⟩)|ptr r b o s hr=>exact kK op h t hG (.inl ⟨rfl,rfl⟩) (ao hr)|_=>cases h2
 |ptr r b o s hr=>cases hy with|int j m=>exact tO op h t (ao hr) j m|string s=>exact mg (hsp _ _)|ptrN=>exact kK op h t hG (ao hr) (.inl ⟨rfl,rfl⟩)|ptr r b o s mR=>exact kK op h t hG (ao hr) (ao mR)|_=>cases h2
 |_=>cases h1
 cases Qq:SR x with|false=>exact mg (Za op h t x y Qq)|true=>cases hny:SR y with|false=>exact mg (Y9 op h t x y hny)|true=>exact absurd ⟨Qq,hny⟩ hn
end
end Rn
namespace Tp
def Agree(w:World)(τ:Nat->Question->Nat)(n k:Nat):Prop:=∀i,i<k->τ (n+i)=w.tape (w.drawn+i)
def ZL{α:Type}(τ:Nat->Question->Nat)(n:Nat):Result α->Result α
 |.ok a w=>.ok a (w.re τ n)|.halt h w=>.halt h (w.re τ n)
def wR{α:Type}:Result α->World
 |.ok _ w=>w|.halt _ w=>w
def alO(c:Sys):Prop:=∀os,∃x,Kernel.perform c os=.done x
def GO:Mark->Prop
 |.noRoom|.disable|.enable|.extern _=>True|_=>False
def ac7:Mark->Nat->Prop
 |.noRoom,_|.disable,_|.extern _,_=>True|.enable,d=>0<d|_,_=>False
def afa:Mark->Nat->Nat
 |.disable,d=>d+1|.enable,d=>d-1|_,d=>d
def s8:Halt->Prop
 |.panic _|.goexit=>True|_=>False
def ako(h:Halt):Nat->Prop
 |0=>True|_+1=>¬s8 h
def aiv(p:Prop):Nat->Prop
 |0=>p|_+1=>False
def bk(P:Program){α:Type}(Φ:α->Prop):Sem α->Nat->Prop
 |.pure a,d=>aiv (Φ a) d|.load _ _ k,d=>∀v,bk P Φ (k v) d|.store _ _ _ k,d=>bk P Φ k d|.new _ k,d=>∀r,bk P Φ (k r) d|.shape _ k,d=>∀s,bk P Φ (k s) d|.freeze _ _ k,d=>bk P Φ k d|.frozen _ k,d=>∀b,bk P Φ (k b) d|.getObj _ k,d=>∀o,bk P Φ (k o) d|.setObj _ _ k,d=>bk P Φ k d|.choose _ k,d=>∀n,bk P Φ (k n) d|.sys c k,d=>(∀r,bk P Φ (k r) d)/\(alO c∨∃u,k .wouldBlock=.halt (.unsupported (.noEntry u)))|.program k,d=>bk P Φ (k P) d|.mark m k,d=>ac7 m d/\bk P Φ k (afa m d)|.halt h,d=>ako h d
abbrev Plain(P:Program){α:Type}(Φ:α->Prop)(s:Sem α):Prop:=bk P Φ s 0
def WE{m d}(h:ac7 m d):GO m:=by cases m<;>first|exact trivial|exact h
theorem bk.bind{P α β Φ}{Ψ:β->Prop}{f}(hf:∀a,Φ a->Plain P Ψ (f a)):∀ {s:Sem α}{d:Nat},bk P Φ s d->bk P Ψ (s.bind f) d
 |.pure a,0,h=>hf a h|.pure _,_+1,h=>h.elim|.load _ _ _,_,h=>λv=>bk.bind hf (h v)|.store _ _ _ k,_,h=>bk.bind (s:=k) hf h|.new _ _,_,h=>λv=>bk.bind hf (h v)|.shape _ _,_,h=>λv=>bk.bind hf (h v)|.freeze _ _ k,_,h=>bk.bind (s:=k) hf h|.frozen _ _,_,h=>λv=>bk.bind hf (h v)|.getObj _ _,_,h=>λv=>bk.bind hf (h v)|.setObj _ _ k,_,h=>bk.bind (s:=k) hf h|.choose _ _,_,h=>λv=>bk.bind hf (h v)|.sys _ _,_,h=>⟨λr=>bk.bind hf (h.1 r),h.2.imp id λ⟨u,hu⟩=>⟨u,by show(Sem.bind _ _)=_;rw[hu];rfl⟩⟩|.program k,_,h=>bk.bind (s:=k P) hf h|.mark _ k,_,h=>⟨h.1,bk.bind (s:=k) hf h.2⟩|.halt _,_,h=>h
theorem Plain.bind{P α β Φ Ψ}{f:α->Sem β}(hf:∀a,Φ a->Plain P Ψ (f a)){s}(h:Plain P Φ s):Plain P Ψ (s.bind f):=bk.bind hf h
section
variable{τ:Nat->Question->Nat}{n:Nat}{w:World}
def n6 a:(w.re τ n).cell? a=w.cell? a:=rfl
def EL a:(w.re τ n).frozen? a=w.frozen? a:=rfl
def m6 r:(w.re τ n).shape? r=w.shape? r:=rfl
def MN a v:(w.re τ n).setCell a v=(w.setCell a v).re τ n:=rfl
def Sg a k:(w.re τ n).freeze a k=(w.freeze a k).re τ n:=by unfold World.freeze;split<;>rfl
def AB P a b:(w.re τ n).farLoad P a b=w.farLoad P a b:=rfl
def reE{ε:Type}(τ:Nat->Question->Nat)(n:Nat):Except ε (World×List Addr)->Except ε (World×List Addr)
 |.ok (w,l)=>.ok (w.re τ n,l)|.error h=>.error h
def Gx P at_ u k v b:(w.re τ n).viewStore P at_ u k v b=reE τ n (w.viewStore P at_ u k v b):=by
 unfold World.viewStore;simp only[show(w.re τ n).seen P at_ u k b=w.seen P at_ u k b from rfl];cases ht:tight P P.depth u with
 |false=>rfl|true=>
 cases w.seen P at_ u k b with
 |error e=>cases v.bytes?<;>rfl
 |ok x=>obtain⟨c,e,fz,first,aiB,cells⟩:=x;cases v.bytes? with|none=>rfl|some bs=>simp only[bind,Except.bind,Bool.not_true,Bool.false_eq_true,if_false];split;rfl;generalize List.foldlM (m:=Except String) _ c cells=y;cases y<;>rfl
def xx P a v b:(w.re τ n).farStore P a v b=reE τ n (w.farStore P a v b):=by
 unfold World.farStore;simp only[Gx,show(w.re τ n).heap=w.heap from rfl];cases w.heap[a.block]? with
 |none=>rfl|some o=>
 cases o<;>try rfl
 rename_i at_ u;dsimp only;cases w.viewStore P at_ u a v b with|error e=>rfl|ok x=>rfl
end
def oH(B:Nat)(e:Event):Prop:=match e.loc with
 |.cell a=>a.block<B
 |.obj r=>r<B
 |.mark m=>GO m/\e.sync=true
 |.output=>True
 |_=>False
def oH.mono{B B' e}(h:oH B e)(hb:B<=B'):oH B' e:=by unfold oH at *;split at h<;>first|omega|exact h
def Jq{w:World}{P at_ u k b x}(h:w.seen P at_ u k b=.ok x):at_.block<w.heap.size:=by
 unfold World.seen at h;simp only[bind,Except.bind]at h;cases hh:w.heap[at_.block]? with
 |some o=>exact(Array.getElem?_eq_some_iff.1 hh).1|none=>
 rw[hh]at h;exfalso;revert h;repeat' split
 all_goals (intro h;first|contradiction|cases h)
def Le{w:World}{P a b v l}(h:w.farLoad P a b=.ok (v,l)):∀x∈l,x.block<w.heap.size:=by
 unfold World.farLoad at h;split at h;rename_i at_ u _;split at h;rename_i r hr;obtain rfl:r=(v,l):=Except.ok.inj h;unfold World.viewLoad at hr;simp only[bind,Except.bind]at hr;cases hs:w.seen P at_ u a b with
 |error e=>rw[hs]at hr;cases hr
 |ok x=>have:=Jq hs;rw[hs]at hr;obtain⟨c,e,fz,first,aiB,cells⟩:=x;dsimp only at hr;split at hr;cases hr;intro x hx;obtain⟨y,_,rfl⟩:=List.mem_map.1 hx;exact this;cases hr
 cases h;cases h
def Hm{w w':World}{P a b v l}(h:w.farStore P a v b=.ok (w',l)):(∀x∈l,x.block<w.heap.size)/\w'.heap.size=w.heap.size/\w'.tape=w.tape/\w'.drawn=w.drawn:=by
 unfold World.farStore at h;split at h;rename_i at_ u _;split at h;rename_i r hr;obtain rfl:r=(w',l):=Except.ok.inj h;unfold World.viewStore at hr;cases ht:tight P P.depth u with
 |false=>rw[ht]at hr;cases hr
 |true=>
  rw[ht]at hr;cases hs:w.seen P at_ u a b with
  |error e=>rw[hs]at hr;cases v.bytes?<;>cases hr
  |ok x=>
  have:=Jq hs;rw[hs]at hr;obtain⟨c,e,fz,first,aiB,cells⟩:=x;cases hb:v.bytes? with
  |none=>rw[hb]at hr;cases hr
  |some bs=>
  rw[hb]at hr;simp only[bind,Except.bind,Bool.not_true,Bool.false_eq_true,if_false]at hr;split at hr;cases hr;revert hr;generalize List.foldlM (m:=Except String) _ c cells=y;intro hr;cases y with
  |error e=>cases hr
  |ok c2=>cases hr;refine⟨λx hx=>?_,by simp,rfl,rfl⟩;obtain⟨y,_,rfl⟩:=List.mem_map.1 hx;exact this
 cases h;cases h
def acH{α:Type}:Result α->Prop
 |.ok _ _=>True|.halt h _=>s8 h
def iP x es l:deafBehind x (es++l)=deafBehind (deafBehind x es) l:=by simp only[deafBehind,Array.foldl_append]
def deaf_push x es e:deafBehind x (es.push e)=deafBehind (deafBehind x es) #[e]:=by rw[Array.push_eq_append,iP]
def uQ x e(h1:e.loc≠.mark .disable)(h2:e.loc≠.mark .enable):deafBehind x #[e]=x:=by
 obtain⟨loc,wr,sy⟩:=e;cases loc with
 |mark m=>cases m<;>simp_all[deafBehind]
 |_=>simp[deafBehind]
def Ow{l}(h:∀e∈l,e.loc≠.mark .disable/\e.loc≠.mark .enable) x:deafBehind x l=x:=by
 obtain⟨l⟩:=l;induction l with
 |nil=>rfl|cons e l ih=>
 have:(⟨e::l⟩:Array Event)=#[e]++⟨l⟩:=by simp
 rw[this,iP,uQ _ _ (h e (by simp)).1 (h e (by simp)).2];exact ih λy hy=>h y (by simp at hy|-;exact .inr hy)
def eD x es e(h1:e.loc≠.mark .disable)(h2:e.loc≠.mark .enable):deafBehind x (es.push e)=deafBehind x es:=by rw[deaf_push,uQ _ _ h1 h2]
def qw x es(l:List Addr) b c:deafBehind x (es++l.toArray.map (⟨.cell ·,b,c⟩))=deafBehind x es:=by rw[iP,Ow];intro e he;obtain⟨a,_,rfl⟩:=Array.mem_map.1 he;exact⟨by simp,by simp⟩
structure FL(P:Program){α:Type}(Φ:α->Prop)(s:Sem α)(w:World)(es:Array Event)(k d0:Nat):Prop where
 drawn:(wR (s.runT P w es).1).drawn=w.drawn+k
 tape:(wR (s.runT P w es).1).tape=w.tape
 size:w.heap.size<=(wR (s.runT P w es).1).heap.size
 post:∀a w',(s.runT P w es).1=.ok a w'->Φ a
 low:∀e∈(s.runT P w es).2,e∈es∨oH (wR (s.runT P w es).1).heap.size e
 Zc:acH (s.runT P w es).1->∀x,deafBehind x es=x+d0->deafBehind x (s.runT P w es).2=x
 same:∀τ n,Agree w τ n k->s.runT P (w.re τ n) es=(ZL τ (n+k) (s.runT P w es).1,(s.runT P w es).2)
def Agree.mono{w τ n k l}(h:Agree w τ n k)(hl:l<=k):Agree w τ n l:=λi hi=>h i (by omega)
def FL.of{P:Program}{α:Type}{Φ:α->Prop}{s s':Sem α}{w w1:World}{es zw:Array Event}{d k d0 d1:Nat}(h:FL P Φ s' w1 zw k d1)(e:s.runT P w es=s'.runT P w1 zw) (hd:w1.drawn=w.drawn+d) (ht:w1.tape=w.tape) (hz:w.heap.size<=w1.heap.size) (IU:∀x∈zw,x∈es∨oH w1.heap.size x) (hb:∀x,deafBehind x es=x+d0->deafBehind x zw=x+d1) (hs:∀τ n,Agree w τ n (d+k)->s.runT P (w.re τ n) es=s'.runT P (w1.re τ (n+d)) zw):FL P Φ s w es (d+k) d0 where
 drawn:=by rw[e,h.drawn,hd];omega
 tape:=by rw[e,h.tape,ht]
 size:=by rw[e];exact Nat.le_trans hz h.size
 post:=by rw[e];exact h.post
 low:=by rw[e];intro x hx;rcases h.low x hx with h1|h1;exact(IU x h1).imp id (·.mono h.size);exact .inr h1
 Zc:=by rw[e];exact λhc x hx=>h.Zc hc x (hb x hx)
 same:=λτ n ha=>by rw[hs τ n ha,e,h.same τ (n+d) (λi hi=>by rw[hd,ht,Nat.add_assoc,Nat.add_assoc];exact ha (d+i) (by omega)),Nat.add_assoc]
def FL.stop{P:Program}{α:Type}{Φ:α->Prop}{s:Sem α}{w:World}{es:Array Event}{d0:Nat}{x:Halt}(e:s.runT P w es=(.halt x w,es))(hx:¬s8 x)(hs:∀τ n,s.runT P (w.re τ n) es=(.halt x (w.re τ n),es)):FL P Φ s w es 0 d0 where
 drawn:=by rw[e];rfl
 tape:=by rw[e];rfl
 size:=by rw[e];exact ν
 post:=by rw[e];intro a w' h;cases h
 low:=by rw[e];exact λx hx=>.inl hx
 Zc:=by rw[e];exact λhc=>absurd hc hx
 same:=λτ n _=>by rw[e,hs];rfl
def Br(w:World) a s:¬s8 (w.noCell a s):=by unfold World.noCell;split<;>exact id
def Lc{P}{w:World}{a b x}(h:w.farLoad P a b=.error x):¬s8 x:=by unfold World.farLoad at h;split at h;split at h;cases h;cases h;exact id;cases h;exact Br _ _ _
def Hl{P}{w:World}{a v b x}(h:w.farStore P a v b=.error x):¬s8 x:=by unfold World.farStore at h;split at h;split at h;cases h;cases h;exact id;cases h;exact Br _ _ _
def ow{es:Array Event}{B x}(hx:oH B x):∀e∈es.push x,e∈es∨oH B e:=λe he=>(Array.mem_push.1 he).imp id (λh=>by rw[h];exact hx)
def Wo{es B}{l:List Addr}{f}(hx:∀a∈l,oH B (f a)):∀e∈es++l.toArray.map f,e∈es∨oH B e:=λe he=>(Array.mem_append.1 he).imp id (λh=>by obtain⟨a,ha,rfl⟩:=Array.mem_map.1 h;exact hx a (by simpa using ha))
def QR{w:World}{a v}(h:w.cell? a=some v):a.block<w.heap.size:=by unfold World.cell? at h;split at h;rename_i hh;exact(Array.getElem?_eq_some_iff.1 hh).1;cases h
def OJ{α} w:∀(a:Ask α),∃d,(w.ask a).2={w with drawn:=w.drawn+d}/\∀τ n,Agree w τ n d->(w.re τ n).ask a=((w.ask a).1,(w.ask a).2.re τ (n+d))
 |.done a=>⟨0,rfl,λτ n _=>rfl⟩|.ask Ra range k=>by by_cases hq:(Question.extern Ra range).forced=true;obtain⟨d,h1,h2⟩:=OJ w (k 0);refine⟨d,?_,λτ n ha=>?_⟩;rw[World.ask];simp only[hq,if_true];exact h1;rw[World.ask,World.ask];simp only[hq,if_true];exact h2 τ n ha;obtain⟨d,h1,h2⟩:=OJ {w with drawn:=w.drawn+1} (k ((Question.extern Ra range).cut (w.tape w.drawn (Question.extern Ra range))));refine⟨d+1,?_,λτ n ha=>?_⟩;rw[World.ask];simp only[hq,Bool.false_eq_true,if_false];rw[h1];simp;omega;rw[World.ask,World.ask];simp only[hq,Bool.false_eq_true,if_false];have e:τ n=w.tape w.drawn:=ha 0 (by omega);have:=h2 τ (n+1) (λi hi=>by have:=ha (i+1) (by omega);rw[show n+1+i=n+(i+1)from by omega,this];show w.tape _=w.tape _;congr 1;show w.drawn+(i+1)=w.drawn+1+i;omega);show World.ask {w with tape:=τ,drawn:=n+1} (k ((Question.extern Ra range).cut (τ n (Question.extern Ra range))))=_;rw[e,show n+(d+1)=n+1+d from by omega];exact this
def iB(w:World):(SysRet×Os)×World->SysRet×World
 |((.wouldBlock,_),_)=>(.wouldBlock,w)|((r,os),w')=>(r,{w' with os})
def vm w c:w.sys c=iB w (w.ask (Kernel.perform c w.os)):=by unfold World.sys iB;rfl
def iu(P:Program){α:Type}(Φ:α->Prop)(s:Sem α)(w:World)(es:Array Event)(d0:Nat):Prop:=(∃k,FL P Φ s w es k d0)∨∃u w' iI,s.runT P w es=(.halt (.unsupported (.noEntry u)) w',iI)
theorem iu.of{P α Φ}{s s':Sem α}{w w1 es zw d d0 d1}(h:iu P Φ s' w1 zw d1)(e:s.runT P w es=s'.runT P w1 zw) (hd:w1.drawn=w.drawn+d) (ht:w1.tape=w.tape) (hz:w.heap.size<=w1.heap.size) (IU:∀x∈zw,x∈es∨oH w1.heap.size x) (hb:∀x,deafBehind x es=x+d0->deafBehind x zw=x+d1) (hs:∀k τ n,Agree w τ n (d+k)->s.runT P (w.re τ n) es=s'.runT P (w1.re τ (n+d)) zw):iu P Φ s w es d0:=by rcases h with⟨k,i⟩|⟨u,w',iI,h⟩;exact .inl ⟨_,i.of (d:=d) e hd ht hz IU hb (hs k)⟩;exact .inr ⟨u,w',iI,e.trans h⟩
theorem bk.run{P α Φ}:∀ {s:Sem α}{d0:Nat},bk P Φ s d0->∀w es,iu P Φ s w es d0
 |.pure a,0,h,w,es=>.inl ⟨0,rfl,rfl,ν,(λb w' hb=>by cases hb;exact h),λe he=>.inl he,λ_ x hx=>hx,λτ n _=>rfl⟩|.pure a,_+1,h,w,es=>h.elim|.halt h,0,_,w,es=>.inl ⟨0,rfl,rfl,ν,(λb w' hb=>by cases hb),λe he=>.inl he,λ_ x hx=>hx,λτ n _=>rfl⟩|.halt h,_+1,hh,w,es=>.inl ⟨0,rfl,rfl,ν,(λb w' hb=>by cases hb),λe he=>.inl he,λhc=>absurd hc hh,λτ n _=>rfl⟩|.load m a k,d0,h,w,es=>by cases hc:w.cell? a with|some v=>have i:=bk.run (h v) w (es.push ⟨.cell a,false,m==.atomic⟩);exact iu.of i (d:=0) (by rw[Sem.runT];simp only[hc]) rfl rfl ν (ow (QR hc)) (λx hx=>by rw[eD _ _ _ (by simp) (by simp)];exact hx) (λ_ τ n _=>by rw[Sem.runT];simp only[n6,hc];rfl)|none=>cases hf:w.farLoad P a (m==.atomic)with|error x=>exact .inl ⟨0,.stop (x:=x) (by rw[Sem.runT];simp only[hc,hf]) (Lc hf) (λτ n=>by rw[Sem.runT];simp only[n6,hc,AB,hf])⟩|ok x=>obtain⟨v,l⟩:=x;have i:=bk.run (h v) w (es++l.toArray.map (⟨.cell ·,false,m==.atomic⟩));exact iu.of i (d:=0) (by rw[Sem.runT];simp only[hc,hf]) rfl rfl ν (Wo λa ha=>Le hf a ha) (λx hx=>by rw[qw];exact hx) (λ_ τ n _=>by rw[Sem.runT];simp only[n6,hc,AB,hf];rfl)
 |.store m a v k,d0,h,w,es=>by
  have hs:(∃x,¬s8 x/\∀(p:Program)(u:World),(Sem.store m a v k).runT p u es=(.halt x u,es))∨∀(p:Program)(u:World),(Sem.store m a v k).runT p u es=match u.cell? a with
   |some _=>if u.frozen? a then(.halt (.unsupported (.unsafePointer "a write to bytes that a string shares")) u,es)else k.runT p (u.setCell a v) (es.push ⟨.cell a,true,m==.atomic⟩)
   |none=>match u.farStore p a v (m==.atomic)with
    |.ok (w,Gb)=>k.runT p w (es++Gb.toArray.map (⟨.cell ·,true,m==.atomic⟩))
    |.error h=>(.halt h u,es):=by
   cases v<;>first|exact .inr (λ_ _=>rfl)|exact .inl ⟨.stuck "store: not the value of one cell",id,λ_ _=>rfl⟩
  rcases hs with⟨x,Xk,hx⟩|hs;exact .inl ⟨0,.stop (x:=x) (hx _ _) Xk (λτ n=>hx _ _)⟩;cases hc:w.cell? a with
  |some v'=>
  by_cases hf:w.frozen? a=true;exact .inl ⟨0,.stop (x:=.unsupported (.unsafePointer "a write to bytes that a string shares")) (by rw[hs];simp only[hc,hf,if_true]) id (λτ n=>by rw[hs];simp only[n6,EL,hc,hf,if_true])⟩;have hz:(w.setCell a v).heap.size=w.heap.size:=by simp[World.setCell]
  have i:=bk.run (s:=k) h (w.setCell a v) (es.push ⟨.cell a,true,m==.atomic⟩);exact iu.of i (d:=0) (by rw[hs];simp only[hc,hf,Bool.false_eq_true,if_false]) rfl rfl (Nat.le_of_eq hz.symm) (by rw[hz];exact ow (QR hc)) (λx hx=>by rw[eD _ _ _ (by simp) (by simp)];exact hx) (λ_ τ n _=>by rw[hs];simp only[n6,EL,hc,hf,Bool.false_eq_true,if_false,MN];rfl)|none=>cases hf:w.farStore P a v (m==.atomic)with|error x=>exact .inl ⟨0,.stop (x:=x) (by rw[hs];simp only[hc,hf]) (Hl hf) (λτ n=>by rw[hs];simp only[n6,hc,xx,hf,reE])⟩|ok x=>obtain⟨w1,l⟩:=x;obtain⟨z1,z2,z3,z4⟩:=Hm hf;have i:=bk.run (s:=k) h w1 (es++l.toArray.map (⟨.cell ·,true,m==.atomic⟩));exact iu.of i (d:=0) (by rw[hs];simp only[hc,hf]) z4 z3 (Nat.le_of_eq z2.symm) (by rw[z2];exact Wo λa ha=>z1 a ha) (λx hx=>by rw[qw];exact hx) (λ_ τ n _=>by rw[hs];simp only[n6,hc,xx,hf,reE];rfl)
 |.new o k,d0,h,w,es=>by have i:=bk.run (h w.heap.size) {w with heap:=w.heap.push o} es;exact iu.of i (d:=0) (by rw[Sem.runT]) rfl rfl (by simp) (λ_ h=>.inl h) (λ_ hx=>hx) (λ_ τ n _=>by rw[Sem.runT];rfl)
 |.shape r k,d0,h,w,es=>by have i:=bk.run (h (w.shape? r)) w es;exact iu.of i (d:=0) (by rw[Sem.runT]) rfl rfl ν (λ_ h=>.inl h) (λ_ hx=>hx) (λ_ τ n _=>by rw[Sem.runT];rfl)|.freeze a n k,d0,h,w,es=>by
  have i:=bk.run (s:=k) h (w.freeze a n) es;have hz:(w.freeze a n).drawn=w.drawn/\(w.freeze a n).tape=w.tape/\(w.freeze a n).heap.size=w.heap.size:=by unfold World.freeze;split<;>simp
  exact iu.of i (d:=0) (by rw[Sem.runT]) hz.1 hz.2.1 (Nat.le_of_eq hz.2.2.symm) (λ_ h=>.inl h) (λ_ hx=>hx) (λ_ τ n _=>by rw[Sem.runT,Sg];rfl)|.frozen a k,d0,h,w,es=>by have i:=bk.run (h (w.frozen? a)) w es;exact iu.of i (d:=0) (by rw[Sem.runT]) rfl rfl ν (λ_ h=>.inl h) (λ_ hx=>hx) (λ_ τ n _=>by rw[Sem.runT];rfl)|.getObj r k,d0,h,w,es=>by cases hh:w.heap[r]? with|none=>exact .inl ⟨0,.stop (x:=.stuck "getObj: no such block") (by rw[Sem.runT];simp only[hh]) id (λτ n=>by rw[Sem.runT];simp only[show(w.re τ n).heap=w.heap from rfl,hh])⟩|some o=>have hr:oH w.heap.size ⟨.obj r,false,o.isChan⟩:=(Array.getElem?_eq_some_iff.1 hh).1;have i:=bk.run (h o) w (es.push ⟨.obj r,false,o.isChan⟩);cases o with|cells _ _ _=>exact .inl ⟨0,.stop (x:=.stuck "getObj: a row of cells") (by rw[Sem.runT];simp only[hh]) id (λτ n=>by rw[Sem.runT];simp only[show(w.re τ n).heap=w.heap from rfl,hh])⟩|_=>exact iu.of i (d:=0) (by rw[Sem.runT];simp only[hh]) rfl rfl ν (ow hr) (λx hx=>by rw[eD _ _ _ (by simp) (by simp)];exact hx) (λ_ τ n _=>by rw[Sem.runT];simp only[show(w.re τ n).heap=w.heap from rfl,hh];rfl)
 |.setObj r o k,d0,h,w,es=>by
  cases hh:w.heap[r]? with
  |none=>exact .inl ⟨0,.stop (x:=.stuck "setObj: no such block") (by rw[Sem.runT];simp only[hh]) id (λτ n=>by rw[Sem.runT];simp only[show(w.re τ n).heap=w.heap from rfl,hh])⟩|some o'=>
  have hr:oH w.heap.size ⟨.obj r,true,o.isChan⟩:=(Array.getElem?_eq_some_iff.1 hh).1;have i:=bk.run (s:=k) h {w with heap:=w.heap.setIfInBounds r o} (es.push ⟨.obj r,true,o.isChan⟩);have hz:({w with heap:=w.heap.setIfInBounds r o}:World).heap.size=w.heap.size:=by simp
  cases o' with|cells _ _ _=>exact .inl ⟨0,.stop (x:=.stuck "setObj: a row of cells") (by rw[Sem.runT];simp only[hh]) id (λτ n=>by rw[Sem.runT];simp only[show(w.re τ n).heap=w.heap from rfl,hh])⟩|_=>exact iu.of i (d:=0) (by rw[Sem.runT];simp only[hh]) rfl rfl (Nat.le_of_eq hz.symm) (by rw[hz];exact ow hr) (λx hx=>by rw[eD _ _ _ (by simp) (by simp)];exact hx) (λ_ τ n _=>by rw[Sem.runT];simp only[show(w.re τ n).heap=w.heap from rfl,hh];rfl)
 |.choose q k,d0,h,w,es=>by by_cases hq:q.forced=true;have i:=bk.run (h 0) w es;exact iu.of i (d:=0) (by rw[Sem.runT,if_pos hq]) rfl rfl ν (λ_ h=>.inl h) (λ_ hx=>hx) (λ_ τ n _=>by rw[Sem.runT,if_pos hq];rfl);have i:=bk.run (h (q.cut (w.tape w.drawn q))) {w with drawn:=w.drawn+1} es;refine iu.of i (d:=1) (by rw[Sem.runT,if_neg hq]) rfl rfl ν (λ_ h=>.inl h) (λ_ hx=>hx) (λ_ τ n ha=>?_);rw[Sem.runT,if_neg hq];have:τ n=w.tape w.drawn:=ha 0 (by omega);show(k (q.cut (τ n q))).runT P _ es=_;rw[this];rfl
 |.mark m k,d0,h,w,es=>by obtain⟨h1,h2⟩:=h;have i:=bk.run (s:=k) h2 w (es.push ⟨.mark m,false,true⟩);exact iu.of i (d:=0) (by rw[Sem.runT]) rfl rfl ν (ow (show oH w.heap.size ⟨.mark m,false,true⟩from⟨WE h1,rfl⟩)) (λx hx=>by rw[deaf_push,hx];cases m<;>first|exact h1.elim|rfl|(show x+d0-1=x+(d0-1);have:0<d0:=h1;omega)) (λ_ τ n _=>by rw[Sem.runT];rfl)
 |.sys c k,d0,h,w,es=>by
  obtain⟨h1,h2⟩:=h;rcases h2 with h2|⟨u,h2⟩;obtain⟨⟨r,Wm⟩,hx⟩:=h2 w.os;have hw:w.sys c=iB w ((r,Wm),w):=by rw[vm,hx];rfl
  have XH:∀τ n,(w.re τ n).sys c=iB (w.re τ n) ((r,Wm),w.re τ n):=λτ n=>by rw[vm,show(w.re τ n).os=w.os from rfl,hx];rfl
  have i:=bk.run (h1 (w.sys c).1) (w.sys c).2 (es.push ⟨.output,true,false⟩);rw[hw]at i;have a1:∀u:World,(iB u ((r,Wm),u)).1=r/\(iB u ((r,Wm),u)).2.drawn=u.drawn/\(iB u ((r,Wm),u)).2.tape=u.tape/\(iB u ((r,Wm),u)).2.heap=u.heap/\∀τ n,(iB (u.re τ n) ((r,Wm),u.re τ n))=(r,(iB u ((r,Wm),u)).2.re τ n):=λu=>by cases r<;>exact⟨rfl,rfl,rfl,rfl,λ_ _=>rfl⟩
  obtain⟨b1,b2,b3,b4,b5⟩:=a1 w;exact iu.of i (d:=0) (by rw[Sem.runT,hw]) b2 b3 (by rw[b4];exact ν) (by rw[b4];exact ow (show oH w.heap.size ⟨.output,true,false⟩from trivial)) (λx hx=>by rw[eD _ _ _ (by simp) (by simp)];exact hx) (λ_ τ n _=>by rw[Sem.runT,XH,b5,b1];rfl);by_cases hb:(w.sys c).1=.wouldBlock;exact .inr ⟨u,(w.sys c).2,_,by rw[Sem.runT,hb,h2,Sem.runT]⟩;obtain⟨d,hd1,hd2⟩:=OJ w (Kernel.perform c w.os);rw[vm]at hb;have i:=bk.run (h1 (w.sys c).1) (w.sys c).2 (es.push ⟨.output,true,false⟩);rw[vm]at i;have e1:(Sem.sys c k).runT P w es=(k (iB w (w.ask (Kernel.perform c w.os))).1).runT P (iB w (w.ask (Kernel.perform c w.os))).2 (es.push ⟨.output,true,false⟩):=by rw[Sem.runT,vm]
  have e2:∀τ n,Agree w τ n d->(Sem.sys c k).runT P (w.re τ n) es=(k (iB (w.re τ n) ((w.ask (Kernel.perform c w.os)).1,(w.ask (Kernel.perform c w.os)).2.re τ (n+d))).1).runT P (iB (w.re τ n) ((w.ask (Kernel.perform c w.os)).1,(w.ask (Kernel.perform c w.os)).2.re τ (n+d))).2 (es.push ⟨.output,true,false⟩):=λτ n ha=>by rw[Sem.runT,vm,show(w.re τ n).os=w.os from rfl,hd2 τ n ha]
  generalize w.ask (Kernel.perform c w.os)=x at hd1 hb i e1 e2;obtain⟨⟨r,Wm⟩,w'⟩:=x;dsimp only at hd1 e2;subst hd1;have a1:r≠.wouldBlock->∀(u u':World),iB u ((r,Wm),u')=(r,{u' with os:=Wm}):=by cases r<;>first|(intro h;exact absurd rfl h)|(intro _ _ _;rfl)
  have hr:r≠.wouldBlock:=λe=>hb (by subst e;rfl);rw[a1 hr]at i e1;refine iu.of i (d:=d) e1 rfl rfl ν (ow (show oH w.heap.size ⟨.output,true,false⟩from trivial)) (λx hx=>by rw[eD _ _ _ (by simp) (by simp)];exact hx) (λk' τ n ha=>?_);rw[e2 τ n (ha.mono (by omega)),a1 hr];rfl
 |.program k,d0,h,w,es=>by have i:=bk.run (s:=k P) h w es;exact iu.of i (d:=0) (by rw[Sem.runT]) rfl rfl ν (λ_ h=>.inl h) (λ_ hx=>hx) (λ_ τ n _=>by rw[Sem.runT];rfl)
theorem Plain.run{P α Φ}{s:Sem α}(h:Plain P Φ s) w es:iu P Φ s w es 0:=bk.run h w es
end Tp
namespace Tp
section
variable{P:Program}{α β:Type}
abbrev Pl(P:Program){α:Type}(s:Sem α):Prop:=Plain P (λ_=>True) s
def aK{x}{f:α->Sem β}(hx:Pl P x)(hf:∀a,Pl P (f a)):Pl P (x >>= f):=Plain.bind (λa _=>hf a) hx
def qR a m:Pl P (load a m):=λ_=>trivial
def Wd a v m:Pl P (store a v m):=trivial
def vC o:Pl P (newObj o):=λ_=>trivial
def AK r:Pl P (shape r):=λ_=>trivial
def vF a n:Pl P (freeze a n):=trivial
def Su a:Pl P (frozen a):=λ_=>trivial
def ET r:Pl P (getObj r):=λ_=>trivial
def EO r o:Pl P (setObj r o):=trivial
def nd q:Pl P (choose q):=λ_=>trivial
def vB:Pl P (mark .noRoom):=⟨trivial,trivial⟩
def AW n:Pl P (askRoom n):=by unfold askRoom;split<;>first|exact vB|exact trivial
def od n b:Pl P (writeFd n b):=⟨λr=>by cases r<;>exact trivial,.inr ⟨_,rfl⟩⟩
def oh{f:Program->Sem α}(hf:Pl P (f P)):Pl P (program >>= f):=hf
theorem tX{σ} f(hf:∀a s,Pl P (f a s)):∀(l:List α)(s:σ),Pl P (forIn l s f)
 |[],s=>by rw[List.forIn_nil];exact trivial|a::l,s=>by rw[List.forIn_cons];refine aK (hf a s) λr=>?_;cases r with|done b=>exact trivial|yield b=>exact tX f hf l b
def EU{σ} f(hf:∀a s,Pl P (f a s))(l:Array α)(s:σ):Pl P (forIn l s f):=by rw[<-Array.forIn_toList];exact tX f hf _ _
theorem GG(f:α->Sem β)(hf:∀a,Pl P (f a)):∀l:List α,Pl P (l.mapM f)
 |[]=>by rw[List.mapM_nil];exact trivial|a::l=>by rw[List.mapM_cons];exact aK (hf a) λ_=>aK (GG f hf l) λ_=>trivial
def AT(f:α->Sem β)(hf:∀a,Pl P (f a))(l:Array α):Pl P (l.mapM f):=by rw[Array.mapM_eq_mapM_toList];refine aK (GG f hf _) λ_=>trivial
theorem EW f(hf:∀b a,Pl P (f b a)):∀(l:List α)(b:β),Pl P (l.foldlM f b)
 |[],_=>by rw[List.foldlM_nil];exact trivial|a::l,b=>by rw[List.foldlM_cons];exact aK (hf b a) λ_=>EW f hf l _
def Sv{σ}(f:Nat->σ->Sem (ForInStep σ))(hf:∀a s,Pl P (f a s)) n s:Pl P (forIn [0:n] s f):=by rw[Std.Legacy.Range.forIn_eq_forIn_range'];exact tX f hf _ _
def fu{c}[Decidable c]{a b:Sem α}(h1:Pl P a)(h2:Pl P b):Pl P (if c then a else b):=by split<;>assumption
theorem AU{σ}:∀(l:List α)(f:(a:α)->a∈l->σ->Sem (ForInStep σ))(_:∀a h s,Pl P (f a h s))(s),Pl P (forIn' l s f)
 |[],f,hf,s=>by rw[List.forIn'_nil];exact trivial|a::l,f,hf,s=>by rw[List.forIn'_cons];refine aK (hf _ _ _) λr=>?_;cases r with|done b=>exact trivial|yield b=>exact AU l _ (λ_ _ _=>hf _ _ _) b
def Na{σ} n(f:(a:Nat)->a∈[:n]->σ->Sem (ForInStep σ))(hf:∀a h s,Pl P (f a h s)) s:Pl P (forIn' [:n] s f):=by rw[Std.Legacy.Range.forIn'_eq_forIn'_range'];exact AU _ _ (λ_ _ _=>hf _ _ _) s
def cL{p:Prop}(h:p:=by repeat' (first|exact trivial|assumption|with_reducible exact ih _ _ _|with_reducible exact ih _ _|with_reducible apply d1|with_reducible apply d2|with_reducible apply d3|with_reducible apply d4|with_reducible apply d5|with_reducible apply d6|with_reducible apply d7|with_reducible apply d8|with_reducible apply d9|with_reducible apply d10|with_reducible apply d11|with_reducible apply d12|with_reducible apply d13|with_reducible apply d14|with_reducible apply d15|with_reducible apply d16|with_reducible apply d17|with_reducible exact qR _ _|with_reducible exact Wd _ _ _|with_reducible exact vC _|with_reducible exact AK _|with_reducible exact vF _ _|with_reducible exact Su _|with_reducible exact ET _|with_reducible exact EO _ _|with_reducible exact nd _|with_reducible exact od _ _|with_reducible exact vB|with_reducible exact AW _|refine aK ?_ (λ_=>?_)|with_reducible apply fu|with_reducible apply EU|with_reducible apply tX|with_reducible apply Sv|with_reducible apply GG|with_reducible apply AT|with_reducible apply EW|with_reducible apply oh|split|intro _|dsimp only)):p:=h
def na r:Pl P (Go.viewAt r):=by unfold Go.viewAt;exact cL
def xC r:Pl P (Go.numberAt r):=by unfold Go.numberAt;exact cL
def Nd r:Pl P (Go.cellsIn r):=by unfold Go.cellsIn;exact cL
def xD a lost:Pl P (Go.asNumber a lost):=by unfold Go.asNumber;exact cL
def ku n:Pl P (Go.behindNumber n):=by unfold Go.behindNumber;have d1:=@xC P;exact cL
def ER a:Pl P (Go.noView a):=by unfold Go.noView;have d1:=@na P;exact cL
def jG a:Pl P (Go.markStringish a):=by unfold Go.markStringish;exact cL
def GF a:Pl P (Go.stringish a):=by unfold Go.stringish;exact cL
def JU a b:Pl P (Go.mayBeOne a b):=by unfold Go.mayBeOne;have d1:=@GF P;exact cL
def xB a b:Pl P (Go.sameAddr a b):=by unfold Go.sameAddr;have d1:=@ER P;have d2:=@JU P;exact cL
def AM:∀a0 a1,Pl P (Go.samePointer a0 a1):=by intro a0 a1;unfold Go.samePointer;have d1:=@xB P;exact cL
def bB t:Pl P (Go.typeInfo t):=by unfold Go.typeInfo;exact cL
def aB t:Pl P (Go.underlying t):=by unfold Go.underlying;exact cL
def oe t:Pl P (Go.typeStr t):=by unfold Go.typeStr;have d1:=@bB P;exact cL
def dE t:Pl P (Go.zeroValue t):=by unfold Go.zeroValue;have d1:=@bB P;exact cL
def cQ t:Pl P (Go.sizeOf t):=by unfold Go.sizeOf;have d1:=@bB P;exact cL
def JV t:Pl P (Go.isAgg t):=by unfold Go.isAgg;have d1:=@aB P;exact cL
def vE a i:∀a0 a1,Pl P (Go.loadCellsFrom a i a0 a1):=by intro a0;induction a0 generalizing i with|zero=>intro a1;exact trivial|succ n ih=>intro a1;exact λ_=>ih _ _
def kM a n:Pl P (Go.loadCells a n):=by unfold Go.loadCells;have d1:=@vE P;exact cL
def jV a vs i:Pl P (Go.storeCells a vs i):=by induction vs generalizing i with|nil=>exact trivial|cons v r ih=>exact ih (i+1)
def ly t a:Pl P (Go.loadVar t a):=by unfold Go.loadVar;have d1:=@cQ P;have d2:=@JV P;have d3:=@kM P;exact cL
def xA t a v:Pl P (Go.storeVar t a v):=by unfold Go.storeVar;have d1:=@cQ P;have d2:=@jV P;exact cL
def jF elem cells:Pl P (Go.newRow elem cells):=by unfold Go.newRow;exact cL
def qQ t v:Pl P (Go.newVar t v):=by unfold Go.newVar;have d1:=@jF P;exact cL
def kY t:Pl P (Go.elemOf t):=by unfold Go.elemOf;have d1:=@aB P;exact cL
def jW t cs off:Pl P (Go.part t cs off):=by unfold Go.part;have d1:=@cQ P;have d2:=@JV P;exact cL
def aI e:Pl P ((Go.runtimePanic e:Sem α)):=by unfold Go.runtimePanic;have d1:=@qQ P;have d2:=@kY P;exact cL
def lC k x y code:Pl P ((Go.boundsPanic k x y code:Sem α)):=by unfold Go.boundsPanic;have d1:=@aI P;exact cL
def om:∀a0,Pl P (Go.asIntOf a0):=by intro a0;unfold Go.asIntOf;exact cL
def ig v:Pl P (Go.asInt v):=by unfold Go.asInt;have d1:=@om P;exact cL
def qT:∀a0,Pl P (Go.asBool a0):=by intro a0;unfold Go.asBool;exact cL
def mh:∀a0,Pl P (Go.asString a0):=by intro a0;unfold Go.asString;exact cL
def AX:∀a0,Pl P (Go.asAgg a0):=by intro a0;unfold Go.asAgg;exact cL
def kZ:∀a0,Pl P (Go.asAddr a0):=by intro a0;unfold Go.asAddr;have d1:=@aI P;exact cL
def rJ f args:Pl P (Go.Deferred.ofValue f args):=by unfold Go.Deferred.ofValue;exact cL
def Bf elem heap old:Pl P (Go.Instr.alloc elem heap old):=by unfold Go.Instr.alloc;have d1:=@dE P;have d2:=@xA P;have d3:=@qQ P;exact cL
def rF x y code:Pl P (Go.Instr.sliceBound x y code):=by unfold Go.Instr.sliceBound;have d1:=@lC P;have d2:=@om P;exact cL
def j8 isSlice len cap low high max:Pl P (Go.Instr.sliceBounds isSlice len cap low high max):=by unfold Go.Instr.sliceBounds;have d1:=@rF P;exact cL
def bC k8 x low high max:Pl P (Go.Instr.slice k8 x low high max):=by unfold Go.Instr.slice;have d1:=@aB P;have d2:=@cQ P;have d3:=@kZ P;have d4:=@j8 P;exact cL
def qS a:Pl P (Go.byteOf a):=by unfold Go.byteOf;have d1:=@ER P;exact cL
def Ss base cells bytes:Pl P (Go.partAt base cells bytes):=by unfold Go.partAt;have d1:=@qS P;exact cL
def sf a f:Pl P (Go.fieldPlace a f):=by unfold Go.fieldPlace;have d1:=@cQ P;have d2:=@Ss P;exact cL
def lx a u n:Pl P (Go.variablesAt a u n):=by unfold Go.variablesAt;exact cL
def GH a acc:∀a0,Pl P (Go.loadBytes a acc a0):=by intro a0;induction a0 generalizing a acc with|zero=>exact trivial|succ n ih=>unfold Go.loadBytes;refine aK (qR _ _) λ_=>?_;split;exact ih _ _;exact trivial
def eH:∀a0,Pl P (Go.Instr.sureAddr a0):=by intro a0;unfold Go.Instr.sureAddr;exact cL
def yC t addr:Pl P (Go.Instr.loadAt t addr):=by unfold Go.Instr.loadAt;have d1:=@ly P;have d2:=@eH P;exact cL
def vG t addr val:Pl P (Go.Instr.storeAt t addr val):=by unfold Go.Instr.storeAt;have d1:=@xA P;have d2:=@eH P;exact cL
def vK s addr field:Pl P (Go.Instr.fieldAt s addr field):=by unfold Go.Instr.fieldAt;have d1:=@aB P;have d2:=@sf P;have d3:=@eH P;exact cL
def vJ t x index:Pl P (Go.Instr.indexAt t x index):=by unfold Go.Instr.indexAt;have d1:=@aB P;have d2:=@cQ P;have d3:=@lC P;have d4:=@om P;have d5:=@bC P;have d6:=@eH P;exact cL
def vH t x low high max:Pl P (Go.Instr.sliceAt t x low high max):=by unfold Go.Instr.sliceAt;have d1:=@aB P;have d2:=@cQ P;have d3:=@j8 P;have d4:=@bC P;have d5:=@eH P;exact cL
def vM arr x:Pl P (Go.Instr.arrayAt arr x):=by unfold Go.Instr.arrayAt;have d1:=@aB P;have d2:=@aI P;have d3:=@bC P;exact cL
def GK elem v:Pl P (Go.Instr.box elem v):=by unfold Go.Instr.box;have d1:=@qQ P;exact cL
def Be t parts:Pl P (Go.Instr.build t parts):=by unfold Go.Instr.build;have d1:=@aB P;have d2:=@dE P;have d3:=@cQ P;have d4:=@jW P;exact cL
def rH t len parts:Pl P (Go.Instr.buildSlice t len parts):=by unfold Go.Instr.buildSlice;have d1:=@aB P;have d2:=@dE P;have d3:=@cQ P;have d4:=@jF P;have d5:=@jW P;have d6:=@bC P;exact cL
def pI g:Pl P (Go.Instr.waits g):=by unfold Go.Instr.waits;exact cL
def AY g:Pl P (Go.Instr.ready g):=by unfold Go.Instr.ready;exact cL
def ou k8 x:Pl P (Go.Instr.makeInterface k8 x):=by unfold Go.Instr.makeInterface;have d1:=@aB P;exact cL
def ua fn first captured:Pl P (Go.Instr.makeFunc fn first captured):=by unfold Go.Instr.makeFunc;exact cL
def vI t aaF:Pl P (Go.Instr.makeMap t aaF):=by unfold Go.Instr.makeMap;have d1:=@aB P;have d2:=@ig P;exact cL
def ub t size:Pl P (Go.Instr.makeChan t size):=by unfold Go.Instr.makeChan;have d1:=@bB P;have d2:=@aB P;have d3:=@aI P;have d4:=@ig P;exact cL
def sL t len cap:Pl P (Go.Instr.makeSlice t len cap):=by unfold Go.Instr.makeSlice;have d1:=@bB P;have d2:=@aB P;have d3:=@dE P;have d4:=@cQ P;have d5:=@jF P;have d6:=@aI P;have d7:=@ig P;have d8:=@bC P;exact cL
def pK k8 x field:Pl P (Go.Instr.field k8 x field):=by unfold Go.Instr.field;have d1:=@aB P;have d2:=@jW P;have d3:=@AX P;exact cL
def jd k8 x index:Pl P (Go.Instr.index k8 x index):=by unfold Go.Instr.index;have d1:=@aB P;have d2:=@cQ P;have d3:=@jW P;have d4:=@lC P;have d5:=@om P;exact cL
def DE:∀a0 a1 a2 a3,Pl P (Go.Op.equalIn a0 a1 a2 a3):=by intro a0;induction a0 with|zero=>intros;exact trivial|succ n ih=>intro a1 a2 a3;unfold Go.Op.equalIn;have d1:=@ku P;have d2:=@xB P;have d3:=@AM P;have d4:=@bB P;have d5:=@aB P;have d6:=@oe P;have d7:=@cQ P;have d8:=@jW P;have d9:=@aI P;have d10:=@qS P;exact cL
def xE t x y:Pl P (Go.Op.equal t x y):=by unfold Go.Op.equal;have d1:=@DE P;exact cL
def yz:∀a0 a1 a2 a3,Pl P (Go.Op.eqGuardIn a0 a1 a2 a3):=by intro a0;induction a0 with|zero=>intros;exact trivial|succ n ih=>intro a1 a2 a3;unfold Go.Op.eqGuardIn;have d1:=@aB P;have d2:=@cQ P;have d3:=@jW P;exact cL
def fR empty:∀a0 a1 a2,Pl P (Go.Instr.checkKey empty a0 a1 a2):=by intro a0;induction a0 with|zero=>intros;exact trivial|succ n ih=>intro a1 a2;unfold Go.Instr.checkKey;have d1:=@bB P;have d2:=@aB P;have d3:=@oe P;have d4:=@cQ P;have d5:=@jW P;have d6:=@aI P;exact cL
theorem kF keyType k:∀l i,Pl P (Go.Instr.findAsking keyType k l i)
 |[],_=>trivial|e::es,i=>by unfold Go.Instr.findAsking;refine aK (xE _ _ _) λb=>?_;split;exact trivial;exact kF keyType k es _
def gH keyType k es:Pl P (Go.Instr.findKey keyType k es):=by unfold Go.Instr.findKey;refine aK (aB _) λ_=>?_;split;exact trivial;exact kF _ _ _ _
def yB k8 x index Hv:Pl P (Go.Instr.lookup k8 x index Hv):=by unfold Go.Instr.lookup;have d1:=@aB P;have d2:=@dE P;have d3:=@jd P;have d4:=@fR P;have d5:=@gH P;exact cL
def jx old new:Pl P (Go.Instr.keyThatStays old new):=by unfold Go.Instr.keyThatStays;exact cL
def sK mapType map key value:Pl P (Go.Instr.mapUpdate mapType map key value):=by unfold Go.Instr.mapUpdate;have d1:=@aB P;have d2:=@aI P;have d3:=@fR P;have d4:=@gH P;have d5:=@jx P;exact cL
def tZ mapType map key:Pl P (Go.Instr.mapEntry mapType map key):=by unfold Go.Instr.mapEntry;have d1:=@aB P;have d2:=@dE P;have d3:=@aI P;have d4:=@fR P;have d5:=@gH P;have d6:=@jx P;exact cL
def rG Vj map ail value:Pl P (Go.Instr.entryStore Vj map ail value):=by unfold Go.Instr.entryStore;have d1:=@ig P;exact cL
def eX k8 x:Pl P (Go.Instr.range k8 x):=by unfold Go.Instr.range;have d1:=@aB P;exact cL
def DI iter isString dV:Pl P (Go.Instr.next iter isString dV):=by unfold Go.Instr.next;exact cL
def AZ iter:Pl P (Go.Instr.entry iter):=by unfold Go.Instr.entry;exact cL
def ei l:Pl P (Go.Instr.getLoop l):=by unfold Go.Instr.getLoop;have d1:=@eX P;exact cL
def sM fn tmps params assign body agH:Pl P (Go.Instr.enterLoop fn tmps params assign body agH):=by unfold Go.Instr.enterLoop;have d1:=@ei P;exact cL
def rI l:Pl P (Go.Instr.beginRound l):=by unfold Go.Instr.beginRound;have d1:=@aI P;have d2:=@eX P;have d3:=@ei P;exact cL
def uc l jump:Pl P (Go.Instr.endRound l jump):=by unfold Go.Instr.endRound;have d1:=@ei P;exact cL
def vL l:Pl P (Go.Instr.endLoop l):=by unfold Go.Instr.endLoop;have d1:=@aI P;have d2:=@eX P;have d3:=@ei P;exact cL
def oR l d:Pl P (Go.Instr.deferInRound l d):=by unfold Go.Instr.deferInRound;have d1:=@eX P;have d2:=@ei P;exact cL
def oQ block:Pl P (Go.Instr.takeDeferred block):=by unfold Go.Instr.takeDeferred;have d1:=@eX P;exact cL
def lT argTypes dV args:Pl P (Go.Builtin.ssaWrapNilChk_ argTypes dV args):=by
 unfold Go.Builtin.ssaWrapNilChk_;rcases args with⟨_|⟨a,_|⟨b,_|⟨c,_|⟨d,l⟩⟩⟩⟩⟩;exact trivial;exact trivial;cases b<;>exact trivial
 ·cases b<;>first|exact trivial|skip
  cases c<;>first|exact trivial|skip
  cases a<;>first|exact trivial|skip
  rename_i o;cases o with|some o=>exact trivial|none=>
  refine aK (nd _) λ_=>fu (aK (aI _) λ_=>?_) ?_<;>
  (repeat' (first|exact trivial|with_reducible apply bB|with_reducible apply aB|with_reducible apply aI|with_reducible exact nd _|refine aK ?_ (λ_=>?_)|with_reducible apply fu|split|dsimp only))
 cases b<;>exact trivial
def jc t:∀a0,Pl P (Go.Place.get t a0):=by intro a0;unfold Go.Place.get;have d1:=@ly P;exact cL
def EV:∀a0 a1 a2,Pl P (Go.follow a0 a1 a2):=by
 intro a0;induction a0 with
 |nil=>intros;exact trivial|cons s r ih=>
 intro a1 a2;unfold Go.follow
 (repeat' (first|exact trivial|with_reducible exact ih _ _|with_reducible apply aB|with_reducible apply jc|with_reducible apply kZ|with_reducible apply sf|with_reducible apply jW|refine aK ?_ (λ_=>?_)|with_reducible apply fu|split|dsimp only))
def se xt x ks wrapper:Pl P (Go.receiverAt xt x ks wrapper):=by unfold Go.receiverAt;refine aK (aB _) λd=>?_;split;exact jc _ _;refine aK (jc _ _) λ_=>?_;split;exact aK (lT _ _ _) λ_=>aK (kZ _) λ_=>ly _ _;exact aK trivial λ_=>aK (kZ _) λ_=>ly _ _;exact trivial;exact trivial;exact jc _ _
def AQ t v path ks:Pl P (Go.receiverVia t v path ks):=by unfold Go.receiverVia;have d1:=@EV P;have d2:=@se P;exact cL
def vD:∀a0 a1 a2 a3,Pl P (Go.method a0 a1 a2 a3):=by intro a0;induction a0 with|zero=>intros;exact trivial|succ n ih=>intro a1 a2 a3;unfold Go.method;refine aK (bB _) λi=>?_;split;refine aK (EV _ _ _) λr=>?_;dsimp only;split;refine aK (jc _ _) λv=>?_;split;exact ih _ _ _;exact aI _;exact trivial;exact aK (se _ _ _ _) λ_=>trivial;exact trivial
def AV:∀a0 a1 a2,Pl P (Go.followBlind a0 a1 a2):=by intro a0;induction a0 with|nil=>intros;exact trivial|cons hd tl ih=>intro a1 a2;unfold Go.followBlind;have d1:=@aB P;have d2:=@jW P;have d3:=@pK P;have d4:=@jd P;have d5:=@vD P;exact cL
def JS:∀a0 a1 a2 a3,Pl P (Go.nilAhead a0 a1 a2 a3):=by intro a0;induction a0 with|zero=>intros;exact trivial|succ n ih=>intro a1 a2 a3;unfold Go.nilAhead;have d1:=@bB P;have d2:=@aB P;have d3:=@vD P;have d4:=@AV P;exact cL
def rM t v:Pl P (Go.Builtin.printOne t v):=by unfold Go.Builtin.printOne;have d1:=@bB P;exact cL
def ud ln consts argTypes args:Pl P (Go.Builtin.pieces ln consts argTypes args):=by
 unfold Go.Builtin.pieces;dsimp only;refine aK (Na _ _ (λi h s=>?_) _) λr=>?_
 ·(repeat' (first|exact trivial|with_reducible apply rM|with_reducible apply EU|refine aK ?_ (λ_=>?_)|with_reducible apply fu|split|(intro _)|dsimp only))
 (repeat' (first|exact trivial|refine aK ?_ (λ_=>?_)|with_reducible apply fu|split|dsimp only))
def rE x k8 asserted Hv:Pl P (Go.Instr.typeAssert x k8 asserted Hv):=by unfold Go.Instr.typeAssert;have d1:=@bB P;have d2:=@aB P;have d3:=@dE P;have d4:=@aI P;exact cL
def nh tuple index:Pl P (Go.Instr.extract tuple index):=by unfold Go.Instr.extract;have d1:=@jd P;exact cL
def tY:Pl P Go.Instr.panicnil:=by unfold Go.Instr.panicnil;refine aK (x:=sys .env) ⟨λ_=>trivial,.inl λos=>⟨_,rfl⟩⟩ λr=>?_;split;exact trivial;exact trivial
def pJ x:Pl P (Go.Instr.panic x):=by unfold Go.Instr.panic;have d1:=@aI P;have d2:=@tY P;exact cL
def pG op k x y:Pl P (Go.Op.intArith op k x y):=by unfold Go.Op.intArith;exact cL
def GI op k x y:Pl P (Go.Op.intDiv op k x y):=by unfold Go.Op.intDiv;have d1:=@aI P;exact cL
def si op k x y:Pl P (Go.Op.intBits op k x y):=by unfold Go.Op.intBits;exact cL
def JX op k x uyk y:Pl P (Go.Op.shift op k x uyk y):=by unfold Go.Op.shift;have d1:=@aI P;exact cL
def GJ op x y:Pl P (Go.Op.intCmp op x y):=by unfold Go.Op.intCmp;exact cL
def nf op k x y:Pl P (Go.Op.floatArith op k x y):=by unfold Go.Op.floatArith;exact cL
def pH op k x y:Pl P (Go.Op.floatCmp op k x y):=by unfold Go.Op.floatCmp;exact cL
def gm src bits dst:Pl P (Go.Conv.floatToFloat src bits dst):=by unfold Go.Conv.floatToFloat;exact cL
def dk op k x y:Pl P (Go.Op.Complex.arith op k x y):=by unfold Go.Op.Complex.arith;have d1:=@nf P;exact cL
def ml op k x y:Pl P (Go.Op.Complex.cmp op k x y):=by unfold Go.Op.Complex.cmp;have d1:=@qT P;have d2:=@pH P;exact cL
def sJ src x dst:Pl P (Go.Op.Complex.conv src x dst):=by unfold Go.Op.Complex.conv;have d1:=@gm P;exact cL
def oP a b c d:Pl P (Go.Op.Complex.product a b c d):=by unfold Go.Op.Complex.product;exact cL
def ng scale a b c d:Pl P (Go.Op.Complex.corrected scale a b c d):=by unfold Go.Op.Complex.corrected;exact cL
def oq a b c d:Pl P (Go.Op.Complex.quotient a b c d):=by
 unfold Go.Op.Complex.quotient;have h1:∀x y,Pl P (Go.Op.Complex.mul x y):=λ_ _=>dk _ _ _ _;have h2:∀x y,Pl P (Go.Op.Complex.add x y):=λ_ _=>dk _ _ _ _;have h3:∀x y,Pl P (Go.Op.Complex.sub x y):=λ_ _=>dk _ _ _ _;have h4:∀x y,Pl P (Go.Op.Complex.quo x y):=λ_ _=>dk _ _ _ _
 (repeat' (first|exact trivial|with_reducible exact h1 _ _|with_reducible exact h2 _ _|with_reducible exact h3 _ _|with_reducible exact h4 _ _|with_reducible exact ng _ _ _ _ _|with_reducible apply dk|with_reducible apply ml|refine aK ?_ (λ_=>?_)|with_reducible apply fu|split|dsimp only))
def yA op k xr xi yr yi:Pl P (Go.Op.complexOp op k xr xi yr yi):=by have q:=λa b c d=>@oq P a b c d;unfold Go.Op.complexOp;cases op<;>(repeat' (first|exact trivial|with_reducible exact q _ _ _ _|with_reducible apply oP|with_reducible apply sJ|with_reducible apply dk|with_reducible apply ml|refine aK ?_ (λ_=>?_)|with_reducible apply fu|dsimp only))
def lE op x y:Pl P (Go.Op.stringOp op x y):=by unfold Go.Op.stringOp;exact cL
def oJ a b:Pl P (Go.Op.twoPlaces a b):=by unfold Go.Op.twoPlaces;have d1:=@qS P;exact cL
def DF k a b:Pl P (Go.Op.addrSub k a b):=by unfold Go.Op.addrSub;have d1:=@oJ P;exact cL
def DH op a b:Pl P (Go.Op.addrCmp op a b):=by unfold Go.Op.addrCmp;have d1:=@oJ P;exact cL
def DG k a n:Pl P (Go.Op.addrMod k a n):=by unfold Go.Op.addrMod;have d1:=@bB P;have d2:=@qS P;exact cL
def JW op x:Pl P (Go.Op.unary op x):=by unfold Go.Op.unary;have d1:=@pG P;have d2:=@si P;exact cL
def vN dst n:Pl P (Go.Conv.intToInt dst n):=by unfold Go.Conv.intToInt;exact cL
def sN dst n:Pl P (Go.Conv.intToFloat dst n):=by unfold Go.Conv.intToFloat;exact cL
def sO src bits dst:Pl P (Go.Conv.floatToInt src bits dst):=by unfold Go.Conv.floatToInt;exact cL
def mE src re im dst:Pl P (Go.Conv.complexToComplex src re im dst):=by unfold Go.Conv.complexToComplex;have d1:=@gm P;exact cL
def rL n:Pl P (Go.Conv.intToString n):=by unfold Go.Conv.intToString;exact cL
def oU elem s:Pl P (Go.Conv.stringToBytes elem s):=by unfold Go.Conv.stringToBytes;have d1:=@jG P;have d2:=@jF P;exact cL
def oW x:Pl P (Go.Conv.bytesToString x):=by unfold Go.Conv.bytesToString;have d1:=@kM P;have d2:=@bC P;exact cL
def oT elem s:Pl P (Go.Conv.stringToRunes elem s):=by unfold Go.Conv.stringToRunes;have d1:=@jF P;exact cL
def oV x:Pl P (Go.Conv.runesToString x):=by unfold Go.Conv.runesToString;have d1:=@kM P;have d2:=@bC P;exact cL
def Bg a:Pl P (Go.Conv.seenAt a):=by unfold Go.Conv.seenAt;have d1:=@na P;exact cL
def oS src dst x:Pl P (Go.Conv.unsafePointer src dst x):=by unfold Go.Conv.unsafePointer;have d1:=@Nd P;have d2:=@xD P;have d3:=@aB P;have d4:=@cQ P;have d5:=@lx P;have d6:=@pI P;have d7:=@Bg P;exact cL
def oX a cells:Pl P (Go.Builtin.holdsCells a cells):=by unfold Go.Builtin.holdsCells;exact cL
def rN size yt n base x:Pl P (Go.Builtin.mayShare size yt n base x):=by unfold Go.Builtin.mayShare;have d1:=@oX P;exact cL
def nj:∀a0,Pl P (Go.Builtin.lenOf a0):=by intro a0;unfold Go.Builtin.lenOf;have d1:=@bC P;exact cL
def jy size n:∀a0,Pl P (Go.Builtin.firstCells size n a0):=by intro a0;unfold Go.Builtin.firstCells;have d1:=@kM P;have d2:=@bC P;have d3:=@nh P;exact cL
def sQ argTypes dV args:Pl P (Go.Builtin.append_ argTypes dV args):=by
 unfold Go.Builtin.append_;split
 ·(repeat' (first|exact trivial|with_reducible apply aB|with_reducible apply cQ|with_reducible apply ig|with_reducible apply bB|with_reducible apply aI|with_reducible exact nd _|with_reducible apply nj|with_reducible apply jy|with_reducible apply dE|with_reducible apply jV|with_reducible apply rN|with_reducible exact vB|with_reducible exact AW _|with_reducible apply jF|refine aK ?_ (λ_=>?_)|with_reducible apply fu|split|dsimp only))
 exact trivial
def yI argTypes dV args:Pl P (Go.Builtin.cap_ argTypes dV args):=by unfold Go.Builtin.cap_;have d1:=@aB P;have d2:=@bC P;exact cL
def uf argTypes dV args:Pl P (Go.Builtin.clear_ argTypes dV args):=by unfold Go.Builtin.clear_;have d1:=@aB P;have d2:=@dE P;have d3:=@jV P;have d4:=@bC P;exact cL
def ue cY dV args:Pl P (Go.Builtin.close_ cY dV args):=by
 unfold Go.Builtin.close_;rcases args with⟨_|⟨a,_|⟨b,l⟩⟩⟩;exact trivial
 ·cases a;case chan r=>
   cases r with
   |none=>exact aI _|some r=>
   refine aK (ET _) λo=>?_;cases o<;>first|exact trivial|skip
   dsimp only
   (repeat' (first|exact trivial|with_reducible apply aI|with_reducible exact EO _ _|refine aK ?_ (λ_=>?_)|with_reducible apply fu|split|dsimp only))
  all_goals exact trivial
 exact trivial
def rO cY dV args:Pl P (Go.Builtin.complex_ cY dV args):=by
 unfold Go.Builtin.complex_;rcases args with⟨_|⟨a,_|⟨b,_|⟨c,l⟩⟩⟩⟩;exact trivial;exact trivial;cases a<;>cases b<;>first|exact trivial|skip
 exact fu (c:=_=_) trivial trivial;exact trivial
def vQ argTypes dV args:Pl P (Go.Builtin.copy_ argTypes dV args):=by unfold Go.Builtin.copy_;have d1:=@aB P;have d2:=@cQ P;have d3:=@jV P;have d4:=@bC P;have d5:=@nj P;have d6:=@jy P;exact cL
def sP argTypes dV args:Pl P (Go.Builtin.delete_ argTypes dV args):=by unfold Go.Builtin.delete_;have d1:=@aB P;have d2:=@fR P;have d3:=@gH P;exact cL
def vP cY dV args:Pl P (Go.Builtin.imag_ cY dV args):=by unfold Go.Builtin.imag_;rcases args with⟨_|⟨a,_|⟨b,l⟩⟩⟩;exact trivial;cases a<;>exact trivial;exact trivial
def yH argTypes dV args:Pl P (Go.Builtin.len_ argTypes dV args):=by unfold Go.Builtin.len_;have d1:=@aB P;have d2:=@bC P;exact cL
def yG:∀a0 a1,Pl P (Go.Builtin.max2 a0 a1):=by intro a0 a1;unfold Go.Builtin.max2;have d1:=@qT P;have d2:=@lE P;exact cL
def yF cY dV args:Pl P (Go.Builtin.max_ cY dV args):=by unfold Go.Builtin.max_;have d1:=@yG P;exact cL
def yE:∀a0 a1,Pl P (Go.Builtin.min2 a0 a1):=by intro a0 a1;unfold Go.Builtin.min2;have d1:=@qT P;have d2:=@lE P;exact cL
def yD cY dV args:Pl P (Go.Builtin.min_ cY dV args):=by unfold Go.Builtin.min_;have d1:=@yE P;exact cL
def vO cY dV args:Pl P (Go.Builtin.real_ cY dV args):=by unfold Go.Builtin.real_;rcases args with⟨_|⟨a,_|⟨b,l⟩⟩⟩;exact trivial;cases a<;>exact trivial;exact trivial
def fN cY dV args:Pl P (Go.Builtin.unsafeAdd_ cY dV args):=by
 unfold Go.Builtin.unsafeAdd_;rcases args with⟨_|⟨a,_|⟨b,_|⟨c,l⟩⟩⟩⟩;exact trivial;cases a<;>exact trivial
 ·cases a<;>first|exact trivial|skip
  dsimp only
  (repeat' (first|exact trivial|with_reducible apply ig|with_reducible apply na|with_reducible exact AK _|with_reducible apply oh|refine aK ?_ (λ_=>?_)|with_reducible apply fu|split|dsimp only))
 cases a<;>exact trivial
def ni argTypes dV args:Pl P (Go.Builtin.unsafeSlice_ argTypes dV args):=by
 unfold Go.Builtin.unsafeSlice_;rcases args with⟨_|⟨a,_|⟨b,_|⟨c,l⟩⟩⟩⟩;exact trivial;cases a<;>exact trivial
 ·cases a<;>first|exact trivial|skip
  dsimp only
  (repeat' (first|exact trivial|with_reducible apply ig|with_reducible apply na|with_reducible apply kY|with_reducible apply aI|with_reducible apply bB|with_reducible apply cQ|with_reducible apply lx|with_reducible exact vC _|with_reducible exact AK _|with_reducible apply oh|refine aK ?_ (λ_=>?_)|with_reducible apply fu|split|dsimp only))
 cases a<;>exact trivial
def kN cY type args:Pl P (Go.Builtin.unsafeSliceData_ cY type args):=by
 unfold Go.Builtin.unsafeSliceData_;rcases args with⟨_|⟨a,_|⟨b,l⟩⟩⟩;exact trivial
 ·cases a;case slice r n c=>cases r with|none=>exact trivial|some r=>exact fu (c:=_≠_) trivial (aK (na _) λb=>fu trivial (aK (kY _) λ_=>aK (vC _) λ_=>trivial))
  all_goals exact trivial
 exact trivial
def mF argTypes dV args:Pl P (Go.Builtin.unsafeString_ argTypes dV args):=by
 unfold Go.Builtin.unsafeString_;rcases args with⟨_|⟨a,_|⟨b,_|⟨c,l⟩⟩⟩⟩;exact trivial;cases a<;>exact trivial
 ·cases a<;>first|exact trivial|skip
  dsimp only
  (repeat' (first|exact trivial|with_reducible apply ig|with_reducible apply GH|with_reducible apply kY|with_reducible apply aI|with_reducible apply lx|with_reducible exact vF _ _|refine aK ?_ (λ_=>?_)|with_reducible apply fu|split|dsimp only))
 cases a<;>exact trivial
def kx cY type args:Pl P (Go.Builtin.unsafeStringData_ cY type args):=by
 unfold Go.Builtin.unsafeStringData_;rcases args with⟨_|⟨a,_|⟨b,l⟩⟩⟩;exact trivial
 ·cases a<;>first|exact trivial|skip
  refine fu (c:=_=_) ?_ ?_<;>
  (repeat' (first|exact trivial|with_reducible apply jF|with_reducible apply jG|with_reducible apply kY|with_reducible exact nd _|with_reducible exact vF _ _|refine aK ?_ (λ_=>?_)|with_reducible apply fu|split|dsimp only))
 cases a<;>exact trivial
def AS t x y:Pl P (Go.movedNumber t x y):=by unfold Go.movedNumber;have d1:=@xD P;have d2:=@ku P;have d3:=@aB P;have d4:=@fN P;exact cL
def yx t x y:Pl P (Go.movedPointer t x y):=by unfold Go.movedPointer;have d1:=@xC P;have d2:=@fN P;exact cL
def Nb op t x y a b:Pl P (Go.eqGuard op t x y a b):=by unfold Go.eqGuard;have d1:=@jW P;have d2:=@yz P;exact cL
def We op k8 x y:Pl P (Go.binOp op k8 x y):=by unfold Go.binOp;have d1:=@ku P;have d2:=@aB P;have d3:=@xE P;have d4:=@pG P;have d5:=@GI P;have d6:=@si P;have d7:=@JX P;have d8:=@GJ P;have d9:=@nf P;have d10:=@pH P;have d11:=@yA P;have d12:=@lE P;have d13:=@DF P;have d14:=@DH P;have d15:=@DG P;have d16:=@AS P;have d17:=@yx P;exact cL
def Nc src dst x:Pl P (Go.convert src dst x):=by unfold Go.convert;have d1:=@jG P;have d2:=@aB P;have d3:=@bC P;have d4:=@gm P;have d5:=@vN P;have d6:=@sN P;have d7:=@sO P;have d8:=@mE P;have d9:=@rL P;have d10:=@oU P;have d11:=@oW P;have d12:=@oT P;have d13:=@oV P;have d14:=@oS P;exact cL
def og ρ c type:Pl P (Go.resolve ρ c type):=by unfold Go.resolve;have d1:=@rJ P;exact cL
end
end Tp
namespace Tp
section
variable{P:Program}{α β:Type}
def ag1:Next->Prop
 |.value _|.skip|.enter _ _|.round _ _ _ _ _|.defer _|.recover|.spawn _|.comm _ _ _=>True|.coroswitch _ b=>b=true|.row r _=>r= "runtime.print$piece"|_=>False
abbrev Nx(P:Program)(s:Sem Next):Prop:=Plain P ag1 s
def dG{x:Sem α}{f}(hx:Pl P x)(hf:∀a,Nx P (f a)):Nx P (x >>= f):=Plain.bind (λa _=>hf a) hx
def Nf {x} (hx : Pl P x) : Nx P (do pure (.value (<- x))) := dG hx λ_ => trivial
def aaZ {x} (hx : Pl P x) : Nx P (do x; pure .skip) := dG hx λ_ => trivial
def ahc(P:Program)(fn:Func):Prop:=Extern.findNext fn=none/\∀e,Extern.find fn=some e->∀args,Pl P (e args)
def bG(P:Program):Prop:=∀(f:Nat)(fn:Func),P.funcs[f]? =some fn->(fn.name== "runtime.NumGoroutine")=false/\(fn.body.isNone=false∨ahc P fn)
def pP(hB:bG P) f args:Nx P (Go.callFunc f args):=by unfold Go.callFunc;show Nx P (match P.funcs[f]? with|none=>_|some fn=>_);split;exact trivial;rename_i fn hf;obtain⟨h2,h1⟩:=hB f fn hf;rw[h2];rcases h1 with h1|⟨h3,h4⟩;rw[h1];exact trivial;cases h1:fn.body.isNone with|false=>exact trivial|true=>simp only[Bool.false_eq_true,if_false,if_true];refine⟨trivial,?_⟩;rw[h3];cases he:Extern.find fn with|none=>show Nx P (if _ then _ else _);split;exact trivial;exact trivial|some e=>exact Nf (h4 e he args)
def aa2{x}{f:α->Sem β}{Φ}(hx:Pl P x)(hf:∀a,Plain P Φ (f a)):Plain P Φ (x >>= f):=Plain.bind (λa _=>hf a) hx
def ky Φ e:Plain P Φ (runtimePanic e:Sem α):=by unfold runtimePanic;refine Plain.bind (Φ:=λ_=>True) (λp _=>?_) (show Plain P _ program from trivial);cases e;all_goals (repeat' (first|exact trivial|with_reducible apply kY|with_reducible apply qQ|with_reducible apply oe|with_reducible apply bB|refine aa2 ?_ (λ_=>?_)|split|(intro _)|dsimp only))
def ae5{c}[Decidable c]{a b}(h1:Nx P a)(h2:Nx P b):Nx P (if c then a else b):=by split<;>assumption
def Ki a b args:Nx P (Extern.PrintPieces.piece a b args):=by
 unfold Extern.PrintPieces.piece;split;case h_2=>exact trivial
 split;case h_2=>exact trivial
 rename_i first _ _ p _
 dsimp only;generalize(args.size==2)=last;by_cases hp:p.size>65536;rw[if_pos hp];exact trivial;rw[if_neg hp];cases first
 refine dG (od _ _) λ_=>?_;cases last;exact rfl;exact⟨trivial,⟨Nat.zero_lt_one,trivial⟩⟩;refine⟨trivial,λv=>?_⟩;cases v;case bool c=>cases c;cases last;refine⟨Nat.zero_lt_one,?_⟩;exact dG (x:=writeFd 2 p) (od _ _) λ_=>rfl;refine⟨Nat.zero_lt_one,?_⟩;exact dG (x:=writeFd 2 p) (od _ _) λ_=>trivial;exact id
 all_goals exact id
def sk(hB:bG P) recv name args:Nx P (Go.callMethod recv name args):=by unfold Go.callMethod;split;refine dG (show Pl P program from trivial) λp=>?_;refine dG (vD _ _ _ _) λr=>?_;exact pP hB _ _;exact ky _ _;exact trivial
def Bq ln consts argTypes args:Nx P (Go.Builtin.printMarked ln consts argTypes args):=by unfold Go.Builtin.printMarked;refine dG (ud _ _ _ _) λps=>?_;split;exact trivial;exact Ki _ _ _
def Ng b argTypes type consts args:Nx P (Go.builtin b argTypes type consts args):=by
 unfold Go.builtin;cases b;all_goals first
  |exact Bq _ _ _ _
  |exact trivial
  |exact dG (bB _) λ_=>trivial
  |(refine Nf ?_;first|apply sQ|apply yI|apply uf|apply ue|apply rO|apply vQ|apply sP|apply vP|apply yH|apply yF|apply yD|apply pJ|apply vO|apply fN|apply ni|apply kN|apply mF|apply kx)
def Wp l args:Nx P (Instr.yield l args):=by unfold Instr.yield;refine dG (ei _) λr=>?_;split;exact dG (show Pl P (stuck _:Sem PUnit)from trivial) λ_=>trivial;exact trivial
def vU(hB:bG P) t args:Nx P (Go.invoke t args):=by unfold Go.invoke;split;exact ky _ _;exact Ng _ _ _ _ _;exact pP hB _ _;split;exact sk hB _ _ _;exact trivial;split;refine dG (aB _) λd=>?_;exact sk hB _ _ _;exact trivial;split;exact dG (AQ _ _ _ _) λ_=>pP hB _ _;exact trivial;exact Wp _ _;exact trivial;exact rfl
def SO(hB:bG P) ρ o:Nx P (Go.execOp ρ o):=by
 unfold Go.execOp;cases o.op;all_goals first
  |exact trivial
  |(refine Nf ?_;first|apply Bf|apply GK|apply Be|apply rH|apply yC|apply pI|apply JW|apply Nc|apply vM|apply ou|apply ua|apply vI|apply ub|apply sL|apply vH|apply vK|apply pK|apply vJ|apply jd|apply yB|apply tZ|apply eX|apply DI|apply AZ|apply rE|apply nh|apply pJ|exact aK (Nb _ _ _ _ _ _) (λ_=>We _ _ _ _))
  |(refine aaZ ?_;first|apply vG|apply AY|apply sK|apply rG)
  |exact dG (qT _) λ_=>trivial
  |exact dG (og _ _ _) λ_=>vU hB _ _
  |exact dG (og _ _ _) λ_=>trivial
  |(dsimp only;(repeat' (first|exact trivial|exact ky _ _|exact(show Pl P program from trivial)|with_reducible apply JS|with_reducible apply aB|with_reducible apply dE|with_reducible apply AT|refine dG ?_ (λ_=>?_)|refine aK ?_ (λ_=>?_)|with_reducible apply ae5|split|(intro _)|dsimp only)))
end
end Tp
