import Derived.KernelRfl
import Derived.Laws.Sem
import Derived.Conc.Own
import GoSem.ClaimLeaving
set_option maxRecDepth 100000
set_option maxHeartbeats 8000000
set_option linter.all false
def Go.World.re(w:Go.World)(τ:Nat->Go.Question->Nat)(n:Nat):Go.World:={w with tape:=τ,drawn:=n}
namespace Go.Proofs.YtlpcjiollnnmgaaGreatDoor
namespace Rn
structure Env where
 G:Nat
 C:Nat->Option Nat
 F:Nat->Prop
variable{E:Env}
def At(E:Env)(X:List Nat)(r b:Nat):Prop:=E.G<=r/\X[r-E.G]? =some b
def flat:Value->Prop
 |.agg _|.tuple _=>False|_=>True
inductive V(E:Env)(X:List Nat):Value->Value->Prop
 |bool (b:Bool):V E X (.bool b) (.bool b)
 |int (k:IntKind) (n:Int):V E X (.int k n) (.int k n)
 |string (s:ByteArray):V E X (.string s) (.string s)
 |ptrN:V E X (.pointer none) (.pointer none)
 |ptr (r b off:Nat) (sp:Option Nat) (h:At E X r b):V E X (.pointer (some ⟨r,off,sp⟩)) (.pointer (some ⟨b,off,sp⟩))
 |sliceN (n c:Nat):V E X (.slice none n c) (.slice none n c)
 |slice (r b off:Nat) (sp:Option Nat) (n c:Nat) (h:At E X r b):V E X (.slice (some ⟨r,off,sp⟩) n c) (.slice (some ⟨b,off,sp⟩) n c)
 |mapN:V E X (.map none) (.map none)
 |map (r b:Nat) (h:At E X r b):V E X (.map (some r)) (.map (some b))
 |chanN:V E X (.chan none) (.chan none)
 |chan (r b:Nat) (h:E.C r=some b):V E X (.chan (some r)) (.chan (some b))
 |func (f:FuncId) (a a' c c':Array Value) (hF:E.F f) (h1:a.size=a'.size) (h2:∀(i:Nat)(v v':Value),a[i]? =some v->a'[i]? =some v'->V E X v v') (h3:c.size=c'.size) (h4:∀(i:Nat)(v v':Value),c[i]? =some v->c'[i]? =some v'->V E X v v'):V E X (.func (.func f) a c) (.func (.func f) a' c')
 |nilFunc:V E X .nilFunc .nilFunc
 |iface (t:TypeId) (v v':Value) (h:V E X v v'):V E X (.iface t v) (.iface t v')
 |nilIface:V E X .nilIface .nilIface
 |agg (a a':Array Value) (h1:a.size=a'.size) (h2:∀(i:Nat)(v v':Value),a[i]? =some v->a'[i]? =some v'->V E X v v'):V E X (.agg a) (.agg a')
 |tuple (a a':Array Value) (h1:a.size=a'.size) (h2:∀(i:Nat)(v v':Value),a[i]? =some v->a'[i]? =some v'->V E X v v'):V E X (.tuple a) (.tuple a')
 |undef (v:Value) (h:flat v):V E X (.func (.method "") #[.nilIface] #[]) v
structure VA(E:Env)(X:List Nat)(a a':Array Value):Prop where
 size:a.size=a'.size
 el:∀(i:Nat)(v v':Value),a[i]? =some v->a'[i]? =some v'->V E X v v'
structure ME(E:Env)(X:List Nat)(e e':MapEntry):Prop where
 key:V E X e.key e'.key
 val:V E X e.val e'.val
 born:e.born=e'.born
structure MA(E:Env)(X:List Nat)(a a':Array MapEntry):Prop where
 size:a.size=a'.size
 el:∀(i:Nat)(v v':MapEntry),a[i]? =some v->a'[i]? =some v'->ME E X v v'
inductive ObjR(E:Env)(X:List Nat):Obj->Obj->Prop
 |cells (c c':Array Value) (e:TypeId) (fz fz':Nat×Nat) (h:VA E X c c') (hf:fz'=fz∨fz=(0,c.size)):ObjR E X (.cells c e fz) (.cells c' e fz')
 |map (a a':Array MapEntry) (n:Nat) (h:MA E X a a'):ObjR E X (.map a n) (.map a' n)
 |iterN (s:Nat) (x:Array Nat) (n:Nat):ObjR E X (.mapIter none s x n) (.mapIter none s x n)
 |iter (r b s:Nat) (x:Array Nat) (n:Nat) (h:At E X r b):ObjR E X (.mapIter (some r) s x n) (.mapIter (some b) s x n)
 |number (r b off:Nat) (sp:Option Nat) (l:Bool) (h:At E X r b):ObjR E X (.number ⟨r,off,sp⟩ l) (.number ⟨b,off,sp⟩ l)
def At.app{X r b}(h:At E X r b) Y:At E (X++Y) r b:=by obtain⟨h1,h2⟩:=h;refine⟨h1,?_⟩;rw[List.getElem?_append_left (List.getElem?_eq_some_iff.1 h2).1];exact h2
def V.app{X v v'}(h:V E X v v') Y:V E (X++Y) v v':=by induction h with|bool b=>exact .bool b|int k n=>exact .int k n|string s=>exact .string s|ptrN=>exact .ptrN|ptr r b o s h=>exact .ptr r b o s (h.app Y)|sliceN n c=>exact .sliceN n c|slice r b o s n c h=>exact .slice r b o s n c (h.app Y)|mapN=>exact .mapN|map r b h=>exact .map r b (h.app Y)|chanN=>exact .chanN|chan r b h=>exact .chan r b h|func f a a' c c' hF h1 _ h3 _ i1 i2=>exact .func f a a' c c' hF h1 i1 h3 i2|nilFunc=>exact .nilFunc|iface t v v' _ i=>exact .iface t v v' i|nilIface=>exact .nilIface|agg a a' h1 _ i=>exact .agg a a' h1 i|tuple a a' h1 _ i=>exact .tuple a a' h1 i|undef v h=>exact .undef v h
theorem VA.app{X a a'}(h:VA E X a a') Y:VA E (X++Y) a a':=⟨h.size,λi v v' h1 h2=>(h.el i v v' h1 h2).app Y⟩
theorem MA.app{X a a'}(h:MA E X a a') Y:MA E (X++Y) a a':=⟨h.size,λi v v' h1 h2=>let x:=h.el i v v' h1 h2;⟨x.key.app Y,x.val.app Y,x.born⟩⟩
def ObjR.app{X o o'}(h:ObjR E X o o') Y:ObjR E (X++Y) o o':=by cases h with|cells c c' e fz fz' h hf=>exact .cells c c' e fz fz' (h.app Y) hf|map a a' n h=>exact .map a a' n (h.app Y)|iterN s x n=>exact .iterN s x n|iter r b s x n h=>exact .iter r b s x n (h.app Y)|number r b o s l h=>exact .number r b o s l (h.app Y)
def VA.get{X a a'}(h:VA E X a a')(i:Nat):(∃v v',a[i]? =some v/\a'[i]? =some v'/\V E X v v')∨(a[i]? =none/\a'[i]? =none):=by
 by_cases hi:i<a.size;have hi':i<a'.size:=by rw[<-h.size];exact hi
 exact .inl ⟨a[i],a'[i],Array.getElem?_eq_getElem hi,Array.getElem?_eq_getElem hi',h.el i _ _ (Array.getElem?_eq_getElem hi) (Array.getElem?_eq_getElem hi')⟩;exact .inr ⟨Array.getElem?_eq_none (by omega),Array.getElem?_eq_none (by rw[<-h.size];omega)⟩
def VA.empty X:VA E X #[] #[]:=⟨rfl,λi v v' h=>by simp at h⟩
def VA.push{X a a'}(h:VA E X a a'){v v'}(hv:V E X v v'):VA E X (a.push v) (a'.push v'):=by refine⟨by simp[h.size],λi x x' h1 h2=>?_⟩;rw[Array.getElem?_push]at h1 h2;rw[<-h.size]at h2;split at h1;rename_i hi;rw[if_pos hi]at h2;cases h1;cases h2;exact hv;rename_i hi;rw[if_neg hi]at h2;exact h.el i x x' h1 h2
def VA.one{X v v'}(hv:V E X v v'):VA E X #[v] #[v']:=(VA.empty X).push hv
def VA.set{X a a'}(h:VA E X a a') i{v v'}(hv:V E X v v'):VA E X (a.setIfInBounds i v) (a'.setIfInBounds i v'):=by refine⟨by simp[h.size],λj x x' h1 h2=>?_⟩;by_cases hj:i=j;subst hj;by_cases hi:i<a.size;rw[Array.getElem?_setIfInBounds_self_of_lt hi]at h1;rw[Array.getElem?_setIfInBounds_self_of_lt (by rw[<-h.size];exact hi)]at h2;cases h1;cases h2;exact hv;rw[Array.getElem?_eq_none (by simpa using hi)]at h1;cases h1;rw[Array.getElem?_setIfInBounds_ne hj]at h1 h2;exact h.el j x x' h1 h2
def VA.append{X a a' b b'}(h:VA E X a a')(h':VA E X b b'):VA E X (a++b) (a'++b'):=by refine⟨by simp[h.size,h'.size],λi x x' h1 h2=>?_⟩;rw[Array.getElem?_append]at h1 h2;rw[<-h.size]at h2;split at h1;rename_i hi;rw[if_pos hi]at h2;exact h.el i x x' h1 h2;rename_i hi;rw[if_neg hi]at h2;exact h'.el _ x x' h1 h2
def VA.extract{X a a'}(h:VA E X a a') s e:VA E X (a.extract s e) (a'.extract s e):=by refine⟨by simp[h.size],λi x x' h1 h2=>?_⟩;rw[Array.getElem?_extract]at h1 h2;rw[<-h.size]at h2;split at h1;rename_i hi;rw[if_pos hi]at h2;exact h.el _ x x' h1 h2;cases h1
def VA.map{X α} f f'(l:Array α)(h:∀a∈l,V E X (f a) (f' a)):VA E X (l.map f) (l.map f'):=by
 refine⟨by simp,λi x x' h1 h2=>?_⟩;rw[Array.getElem?_map]at h1 h2;cases hl:l[i]? with
 |none=>rw[hl]at h1;cases h1
 |some y=>rw[hl]at h1 h2;cases h1;cases h2;exact h y (Array.mem_of_getElem? hl)
def V.ofAgg{X a a'}(h:VA E X a a'):V E X (.agg a) (.agg a'):=.agg a a' h.size h.el
def V.ofTuple{X a a'}(h:VA E X a a'):V E X (.tuple a) (.tuple a'):=.tuple a a' h.size h.el
def V.cells{X v v'}(h:V E X v v'):VA E X v.cells v'.cells:=by
 cases h with
 |agg a a' h1 h2=>exact⟨h1,h2⟩|undef _ hf=>
 have:v'.cells=#[v']:=by cases v'<;>first|rfl|exact hf.elim
 rw[this];exact VA.one (.undef v' hf)
 |tuple a a' h1 h2=>exact VA.one (.tuple a a' h1 h2)|ptr r b o s h=>exact VA.one (.ptr r b o s h)
 |slice r b o s n c h=>exact VA.one (.slice r b o s n c h)|map r b h=>exact VA.one (.map r b h)
 |chan r b h=>exact VA.one (.chan r b h)|func f a a' c c' hF h1 h2 h3 h4=>exact VA.one (.func f a a' c c' hF h1 h2 h3 h4)
 |iface t v v' h=>exact VA.one (.iface t v v' h)|bool b=>exact VA.one (.bool b)
 |int k n=>exact VA.one (.int k n)|string s=>exact VA.one (.string s)
 |ptrN=>exact VA.one .ptrN|sliceN n c=>exact VA.one (.sliceN n c)
 |mapN=>exact VA.one .mapN|chanN=>exact VA.one .chanN
 |nilFunc=>exact VA.one .nilFunc|nilIface=>exact VA.one .nilIface
inductive Clean:Value->Prop
 |bool (b:Bool):Clean (.bool b)
 |int (k:IntKind) (n:Int):Clean (.int k n)
 |string (s:ByteArray):Clean (.string s)
 |ptrN:Clean (.pointer none)
 |sliceN (n c:Nat):Clean (.slice none n c)
 |mapN:Clean (.map none)
 |chanN:Clean (.chan none)
 |nilFunc:Clean .nilFunc
 |nilIface:Clean .nilIface
 |agg (a:Array Value) (h:∀(i:Nat) v,a[i]? =some v->Clean v):Clean (.agg a)
 |tuple (a:Array Value) (h:∀(i:Nat) v,a[i]? =some v->Clean v):Clean (.tuple a)
def Clean.self{v}(h:Clean v) X:V E X v v:=by induction h with|bool b=>exact .bool b|int k n=>exact .int k n|string s=>exact .string s|ptrN=>exact .ptrN|sliceN n c=>exact .sliceN n c|mapN=>exact .mapN|chanN=>exact .chanN|nilFunc=>exact .nilFunc|nilIface=>exact .nilIface|agg a _ i=>exact .agg a a rfl (λj v v' h h'=>by rw[h]at h';cases h';exact i j v h)|tuple a _ i=>exact .tuple a a rfl (λj v v' h h'=>by rw[h]at h';cases h';exact i j v h)
inductive Exact:Value->Prop
 |bool (b:Bool):Exact (.bool b)
 |int (k:IntKind) (n:Int):Exact (.int k n)
 |string (s:ByteArray):Exact (.string s)
 |agg (a:Array Value) (h:∀(i:Nat) v,a[i]? =some v->Exact v):Exact (.agg a)
 |two (a:Array Value) (h:∀(i:Nat) v,a[i]? =some v->Exact v) (hn:0<a.size):Exact (.tuple a)
def Exact.clean{v}(h:Exact v):Clean v:=by induction h with|bool b=>exact .bool b|int k n=>exact .int k n|string s=>exact .string s|agg a _ i=>exact .agg a i|two a _ _ i=>exact .tuple a i
def Exact.eq{v}(h:Exact v):∀ {X:List Nat}{v':Value},V E X v v'->v'=v:=by
 induction h with
 |bool b=>intro X v' h;cases h;rfl
 |int k n=>intro X v' h;cases h;rfl
 |string s=>intro X v' h;cases h;rfl
 |agg a _ ih=>intro X v' h;cases h with|agg _ a' h1 h2=>congr 1;apply Array.ext_getElem?;intro i;rcases(VA.mk h1 h2:VA E X a a').get i with⟨x,x',e1,e2,hx⟩|⟨e1,e2⟩;rw[e1,e2,ih i x e1 hx];rw[e1,e2]
 |two a _ hn ih=>intro X v' h;cases h with|tuple _ a' h1 h2=>congr 1;apply Array.ext_getElem?;intro i;rcases(VA.mk h1 h2:VA E X a a').get i with⟨x,x',e1,e2,hx⟩|⟨e1,e2⟩;rw[e1,e2,ih i x e1 hx];rw[e1,e2]
end Rn
namespace Rn
def norm(P:Program){α:Type}:Sem α->Sem α
 |.program k=>norm P (k P)|s=>s
theorem runT_norm P{α}:∀(s:Sem α)(w)(es),s.runT P w es=(norm P s).runT P w es
 |.program k,w,es=>by rw[Sem.runT,norm];exact runT_norm P (k P) w es|.pure _,_,_|.load _ _ _,_,_|.store _ _ _ _,_,_|.new _ _,_,_|.shape _ _,_,_|.freeze _ _ _,_,_|.frozen _ _,_,_|.getObj _ _,_,_|.setObj _ _ _,_,_|.choose _ _,_,_|.sys _ _,_,_|.mark _ _,_,_|.halt _,_,_=>rfl
theorem norm_bind P{α β}(f:α->Sem β):∀s:Sem α,norm P (s.bind f)=norm P ((norm P s).bind f)
 |.program k=>by show norm P ((k P).bind f)=norm P ((norm P (k P)).bind f);exact norm_bind P f (k P)|.pure _|.load _ _ _|.store _ _ _ _|.new _ _|.shape _ _|.freeze _ _ _|.frozen _ _|.getObj _ _|.setObj _ _ _|.choose _ _|.sys _ _|.mark _ _|.halt _=>rfl
def NoInit:Halt->Prop
 |.unsupported (.initOrder _)=>False|_=>True
def HaltsR(P:Program){α:Type}:Sem α->Prop
 |.program k=>HaltsR P (k P)|.shape _ k=>∀z,HaltsR P (k z)|.frozen _ k=>∀b,HaltsR P (k b)|.mark _ k=>HaltsR P k|.halt h=>NoInit h|_=>False
theorem HaltsR.bind{P α β}{f:α->Sem β}:∀ {s:Sem α},HaltsR P s->HaltsR P (s.bind f)
 |.program k,h=>HaltsR.bind (s:=k P) h|.shape _ k,h=>λz=>HaltsR.bind (h z)|.frozen _ k,h=>λz=>HaltsR.bind (h z)|.mark _ k,h=>HaltsR.bind (s:=k) h|.halt _,h=>h|.pure _,h|.load _ _ _,h|.store _ _ _ _,h|.new _ _,h|.getObj _ _,h|.setObj _ _ _,h|.choose _ _,h|.sys _ _,h|.freeze _ _ _,h=>h.elim
theorem HaltsR.run{P α}:∀ {s:Sem α},HaltsR P s->∀w es,∃h es',NoInit h/\s.runT P w es=(.halt h w,es')
 |.program k,h,w,es=>by rw[Sem.runT];exact HaltsR.run (s:=k P) h w es|.shape r k,h,w,es=>by rw[Sem.runT];exact HaltsR.run (h _) w es|.frozen r k,h,w,es=>by rw[Sem.runT];exact HaltsR.run (h _) w es|.mark m k,h,w,es=>by rw[Sem.runT];exact HaltsR.run (s:=k) h w _|.halt x,h,w,es=>⟨x,es,h,by rw[Sem.runT]⟩|.pure _,h,_,_|.load _ _ _,h,_,_|.store _ _ _ _,h,_,_|.new _ _,h,_,_|.getObj _ _,h,_,_|.setObj _ _ _,h,_,_|.choose _ _,h,_,_|.sys _ _,h,_,_|.freeze _ _ _,h,_,_=>h.elim
def SemR(P:Program)(E:Env){α:Type}(Φ:List Nat->α->α->Prop):Sem α->List Nat->Sem α->Prop
 |.pure a,X,s'=>∃a',norm P s'=.pure a'/\Φ X a a'|.load m a k,X,s'=>∃b k',m=.plain/\norm P s'=.load .plain ⟨b,a.off,a.spot⟩ k'/\At E X a.block b/\∀v v',V E X v v'->SemR P E Φ (k v) X (k' v')|.store m a x k,X,s'=>∃b x' k',m=.plain/\norm P s'=.store .plain ⟨b,a.off,a.spot⟩ x' k'/\At E X a.block b/\V E X x x'/\SemR P E Φ k X k'|.new o k,X,s'=>∃o' k',norm P s'=.new o' k'/\ObjR E X o o'/\∀b,SemR P E Φ (k (E.G+X.length)) (X++[b]) (k' b)|.shape r k,X,s'=>(∃b k',norm P s'=.shape b k'/\At E X r b/\∀z,SemR P E Φ (k z) X (k' z))∨∀z,HaltsR P (k z)|.getObj r k,X,s'=>∃b k',norm P s'=.getObj b k'/\At E X r b/\∀o o',ObjR E X o o'->SemR P E Φ (k o) X (k' o')|.setObj r o k,X,s'=>∃b o' k',norm P s'=.setObj b o' k'/\At E X r b/\ObjR E X o o'/\SemR P E Φ k X k'|.choose q k,X,s'=>∃k',norm P s'=.choose q k'/\∀n,SemR P E Φ (k n) X (k' n)|.program k,X,s'=>SemR P E Φ (k P) X s'|.mark m k,X,s'=>(∃k',m=.noRoom/\norm P s'=.mark .noRoom k'/\SemR P E Φ k X k')∨HaltsR P k|.frozen _ k,_,_=>∀b,HaltsR P (k b)|.freeze _ _ _,_,_|.sys _ _,_,_=>False|.halt h,_,_=>NoInit h
theorem SemR.norm{P E α Φ}:∀ {s:Sem α}{X:List Nat}{s' s'':Sem α},Rn.norm P s'=Rn.norm P s''->SemR P E Φ s X s'->SemR P E Φ s X s''
 |.pure a,X,s',s'',e,⟨a',h1,h⟩=>⟨a',e.symm.trans h1,h⟩|.load m a k,X,s',s'',e,⟨b,k',h0,h1,h⟩=>⟨b,k',h0,e.symm.trans h1,h⟩|.store m a x k,X,s',s'',e,⟨b,x',k',h0,h1,h⟩=>⟨b,x',k',h0,e.symm.trans h1,h⟩|.new o k,X,s',s'',e,⟨o',k',h1,h⟩=>⟨o',k',e.symm.trans h1,h⟩|.shape r k,X,s',s'',e,.inl ⟨b,k',h1,h⟩=>.inl ⟨b,k',e.symm.trans h1,h⟩|.shape r k,X,s',s'',e,.inr h=>.inr h|.getObj r k,X,s',s'',e,⟨b,k',h1,h⟩=>⟨b,k',e.symm.trans h1,h⟩|.setObj r o k,X,s',s'',e,⟨b,o',k',h1,h⟩=>⟨b,o',k',e.symm.trans h1,h⟩|.choose q k,X,s',s'',e,⟨k',h1,h⟩=>⟨k',e.symm.trans h1,h⟩|.program k,X,s',s'',e,h=>SemR.norm (s:=k P) e h|.mark m k,X,s',s'',e,.inl ⟨k',h0,h1,h⟩=>.inl ⟨k',h0,e.symm.trans h1,h⟩|.mark m k,X,s',s'',e,.inr h=>.inr h|.freeze _ _ _,_,_,_,_,h=>h.elim|.frozen _ _,_,_,_,_,h=>h|.sys _ _,_,_,_,_,h=>h.elim|.halt _,_,_,_,_,h=>h
theorem SemR.bind{P E α β Φ Ψ}{f f':α->Sem β}:∀ {s:Sem α}{X:List Nat}{s':Sem α},(∀Y a a',Φ (X++Y) a a'->SemR P E Ψ (f a) (X++Y) (f' a'))->SemR P E Φ s X s'->SemR P E Ψ (s.bind f) X (s'.bind f')
 |.pure a,X,s',hf,h=>by obtain⟨a',hn,h⟩:=h;have:=hf [] a a' (by simpa using h);rw[List.append_nil]at this;refine SemR.norm ?_ this;rw[norm_bind P f' s',hn];rfl
 |.load m a k,X,s',hf,h=>by obtain⟨b,k',h1,hn,h2,h3⟩:=h;exact⟨b,_,h1,by rw[norm_bind P f' s',hn];rfl,h2,λv v' hv=>SemR.bind hf (h3 v v' hv)⟩
 |.store m a x k,X,s',hf,h=>by obtain⟨b,x',k',h1,hn,h2,h3,h4⟩:=h;exact⟨b,x',_,h1,by rw[norm_bind P f' s',hn];rfl,h2,h3,SemR.bind hf h4⟩
 |.new o k,X,s',hf,h=>by obtain⟨o',k',hn,h1,h2⟩:=h;refine⟨o',_,by rw[norm_bind P f' s',hn];rfl,h1,λb=>SemR.bind (λY a a' ha=>?_) (h2 b)⟩;have:=hf ([b]++Y) a a' (by simpa using ha);simpa using this
 |.shape r k,X,s',hf,h=>by rcases h with⟨b,k',hn,h1,h2⟩|h;exact .inl ⟨b,_,by rw[norm_bind P f' s',hn];rfl,h1,λz=>SemR.bind hf (h2 z)⟩;exact .inr λz=>(h z).bind
 |.getObj r k,X,s',hf,h=>by obtain⟨b,k',hn,h1,h2⟩:=h;exact⟨b,_,by rw[norm_bind P f' s',hn];rfl,h1,λo o' ho=>SemR.bind hf (h2 o o' ho)⟩
 |.setObj r o k,X,s',hf,h=>by obtain⟨b,o',k',hn,h1,h2,h3⟩:=h;exact⟨b,o',_,by rw[norm_bind P f' s',hn];rfl,h1,h2,SemR.bind hf h3⟩
 |.choose q k,X,s',hf,h=>by obtain⟨k',hn,h1⟩:=h;exact⟨_,by rw[norm_bind P f' s',hn];rfl,λn=>SemR.bind hf (h1 n)⟩
 |.program k,X,s',hf,h=>SemR.bind (s:=k P) hf h|.mark m k,X,s',hf,h=>by rcases h with⟨k',h0,hn,h1⟩|h;exact .inl ⟨_,h0,by rw[norm_bind P f' s',hn];rfl,SemR.bind hf h1⟩;exact .inr h.bind
 |.freeze _ _ _,_,_,_,h=>h.elim|.frozen _ _,_,_,_,h=>λb=>(h b).bind|.sys _ _,_,_,_,h=>h.elim|.halt _,_,_,_,h=>h
structure WR(E:Env)(Sh:Nat->Prop)(X:List Nat)(v w:World):Prop where
 size:v.heap.size=E.G+X.length
 el:∀(i b:Nat),X[i]? =some b->∃o o',v.heap[E.G+i]? =some o/\w.heap[b]? =some o'/\ObjR E X o o'
 junk:∀r,r<E.G->v.heap[r]? =some (.cells #[] 0 (0,0))
 nodup:X.Nodup
 shared:∀(i b:Nat),X[i]? =some b->Sh b->∃c e,v.heap[E.G+i]? =some (.cells c e (0,c.size))
 low:∀b,Sh b->b<w.heap.size
 tape:v.tape=w.tape
 drawn:v.drawn=w.drawn
def EvX(X:List Nat)(Sh:Nat->Prop)(e:Event):Prop:=e=noRoomEvent∨(e.sync=false/\((∃a:Addr,e.loc=.cell a/\a.block∈X/\(e.write=true->¬Sh a.block))∨∃r,e.loc=.obj r/\r∈X/\(e.write=true->¬Sh r)))
def EvX.app{X Sh e}(h:EvX X Sh e) Y:EvX (X++Y) Sh e:=by rcases h with h|⟨h1,⟨a,h2,h3,h4⟩|⟨r,h2,h3,h4⟩⟩;exact .inl h;exact .inr ⟨h1,.inl ⟨a,h2,List.mem_append_left _ h3,h4⟩⟩;exact .inr ⟨h1,.inr ⟨r,h2,List.mem_append_left _ h3,h4⟩⟩
structure Out(E:Env)(Sh:Nat->Prop)(X:List Nat)(w:World)(Y:List Nat)(v1 w1:World):Prop where
 rel:WR E Sh (X++Y) v1 w1
 size:w.heap.size<=w1.heap.size
 fresh:∀b∈Y,w.heap.size<=b/\b<w1.heap.size
 others:∀b,b<w.heap.size->b∉X->w1.heap[b]? =w.heap[b]?
 shared:∀b,Sh b->w1.heap[b]? =w.heap[b]?
 all:∀b,w.heap.size<=b->b<w1.heap.size->b∈Y
 os:w1.os=w.os
 tape:w1.tape=w.tape
 output:w1.output=w.output
def Out.refl{E Sh X v w}(h:WR E Sh X v w):Out E Sh X w [] v w:=⟨by simpa using h,Nat.le_refl _,(λb hb=>by cases hb),λ_ _ _=>rfl,λ_ _=>rfl,(λb h1 h2=>by omega),rfl,rfl,rfl⟩
theorem Out.trans{E:Env}{Sh:Nat->Prop}{X Y Z:List Nat}{w v1 w1 v2 w2:World}(h:Out E Sh X w Y v1 w1)(h':Out E Sh (X++Y) w1 Z v2 w2):Out E Sh X w (Y++Z) v2 w2 where
 rel:=by have:=h'.rel;rwa[List.append_assoc]at this
 size:=Nat.le_trans h.size h'.size;fresh:=λb hb=>by rcases List.mem_append.1 hb with hb|hb;exact⟨(h.fresh b hb).1,Nat.lt_of_lt_of_le (h.fresh b hb).2 h'.size⟩;exact⟨Nat.le_trans h.size (h'.fresh b hb).1,(h'.fresh b hb).2⟩
 others:=λb hb hn=>by
  have hy:b∉X++Y:=λhm=>by rcases List.mem_append.1 hm with hm|hm;exact hn hm;have:=(h.fresh b hm).1;omega
  rw[h'.others b (Nat.lt_of_lt_of_le hb h.size) hy,h.others b hb hn]
 shared:=λb hb=>(h'.shared b hb).trans (h.shared b hb);all:=λb h1 h2=>by by_cases hb:b<w1.heap.size;exact List.mem_append_left _ (h.all b h1 hb);exact List.mem_append_right _ (h'.all b (by omega) h2)
 os:=h'.os.trans h.os;tape:=h'.tape.trans h.tape;output:=h'.output.trans h.output
section
variable{E:Env}{Sh:Nat->Prop}{X:List Nat}{v w:World}
def WR.obj(h:WR E Sh X v w){r b}(ha:At E X r b):∃o o',v.heap[r]? =some o/\w.heap[b]? =some o'/\ObjR E X o o':=by obtain⟨o,o',h1,h2,h3⟩:=h.el _ _ ha.2;exact⟨o,o',by rw[show E.G+(r-E.G)=r by have:=ha.1;omega]at h1;exact h1,h2,h3⟩
def WR.lt(h:WR E Sh X v w){b}(hb:b∈X):b<w.heap.size:=by obtain⟨i,hi⟩:=List.getElem?_of_mem hb;obtain⟨o,o',_,h2,_⟩:=h.el i b hi;exact(Array.getElem?_eq_some_iff.1 h2).1
def WR.put(h:WR E Sh X v w){r b}(ha:At E X r b){o o'}(ho:ObjR E X o o')(hs:¬Sh b):Out E Sh X w [] {v with heap:=v.heap.setIfInBounds r o} {w with heap:=w.heap.setIfInBounds b o'}:=by
 have hne:∀(i b2:Nat),X[i]? =some b2->E.G+i≠r->b2≠b:=λi b2 hi hn e=>by subst e;have h2:=ha.2;have hlt:=(List.getElem?_eq_some_iff.1 hi).1;have:i=r-E.G:=(List.getElem?_inj hlt h.nodup).1 (hi.trans h2.symm);have:=ha.1;omega
 have hmem:b∈X:=List.mem_of_getElem? ha.2;have hbl:=h.lt hmem;refine⟨?_,(by simp),(λb hb=>by cases hb),λb2 hb hn=>?_,λb2 hb=>?_,(λb2 h1 h2=>by simp at h2;omega),rfl,rfl,rfl⟩;rw[List.append_nil];refine⟨by simpa using h.size,λi b2 hi=>?_,λr2 hr=>?_,h.nodup,λi b2 hi hb=>?_,λb2 hb=>by simpa using h.low b2 hb,h.tape,h.drawn⟩;obtain⟨o1,o1',h1,h2,h3⟩:=h.el i b2 hi;by_cases hr:E.G+i=r;subst hr;have:b2=b:=by have:=ha.2;rw[show E.G+i-E.G=i by omega,hi]at this;exact Option.some.inj this
 subst this;refine⟨o,o',?_,?_,ho⟩;rw[Array.getElem?_setIfInBounds_self_of_lt (Array.getElem?_eq_some_iff.1 h1).1];rw[Array.getElem?_setIfInBounds_self_of_lt hbl];refine⟨o1,o1',?_,?_,h3⟩;rw[Array.getElem?_setIfInBounds_ne (Ne.symm hr)];exact h1;rw[Array.getElem?_setIfInBounds_ne (Ne.symm (hne i b2 hi hr))];exact h2;rw[Array.getElem?_setIfInBounds_ne (by have:=ha.1;omega)];exact h.junk r2 hr;obtain⟨c,e,h1⟩:=h.shared i b2 hi hb;refine⟨c,e,?_⟩;by_cases hr:E.G+i=r;subst hr;have:b2=b:=by have:=ha.2;rw[show E.G+i-E.G=i by omega,hi]at this;exact Option.some.inj this
 subst this;exact absurd hb hs;rw[Array.getElem?_setIfInBounds_ne (Ne.symm hr)];exact h1;show(w.heap.setIfInBounds b o')[b2]? =_;rw[Array.getElem?_setIfInBounds_ne (λe=>by subst e;exact hn hmem)];show(w.heap.setIfInBounds b o')[b2]? =_;rw[Array.getElem?_setIfInBounds_ne (λe=>by subst e;exact hs hb)]
def WR.new(h:WR E Sh X v w){o o'}(ho:ObjR E X o o'):Out E Sh X w [w.heap.size] {v with heap:=v.heap.push o} {w with heap:=w.heap.push o'}:=by
 have hn:w.heap.size∉X:=λhm=>by have:=h.lt hm;omega
 refine⟨⟨?_,λi b hi=>?_,λr hr=>?_,?_,λi b hi hb=>?_,λb hb=>?_,h.tape,h.drawn⟩,(by simp),λb hb=>?_,λb hb _=>?_,λb hb=>?_,λb h1 h2=>?_,rfl,rfl,rfl⟩;simp[h.size];omega;by_cases hlt:i<X.length;rw[List.getElem?_append_left hlt]at hi;obtain⟨o1,o1',h1,h2,h3⟩:=h.el i b hi;refine⟨o1,o1',?_,?_,h3.app _⟩;rw[Array.getElem?_push_lt (Array.getElem?_eq_some_iff.1 h1).1,<-Array.getElem?_eq_getElem];exact h1;rw[Array.getElem?_push_lt (Array.getElem?_eq_some_iff.1 h2).1,<-Array.getElem?_eq_getElem];exact h2;rw[List.getElem?_append_right (by omega)]at hi;have:i-X.length=0:=by have:=(List.getElem?_eq_some_iff.1 hi).1;simp at this;omega
 rw[this]at hi;simp at hi;subst hi;have hi2:i=X.length:=by omega
 subst hi2;refine⟨o,o',?_,?_,ho.app _⟩;rw[<-h.size];simp;simp;have hlt:r<v.heap.size:=by rw[h.size];omega
 rw[Array.getElem?_push_lt hlt,<-Array.getElem?_eq_getElem];exact h.junk r hr;rw[List.nodup_append];exact⟨h.nodup,by simp,λa ha b hb=>by simp at hb;subst hb;exact λe=>hn (e▸ha)⟩;have hbl:=h.low b hb;by_cases hlt:i<X.length;rw[List.getElem?_append_left hlt]at hi;obtain⟨c,e,h1⟩:=h.shared i b hi hb;refine⟨c,e,?_⟩;rw[Array.getElem?_push_lt (Array.getElem?_eq_some_iff.1 h1).1,<-Array.getElem?_eq_getElem];exact h1;rw[List.getElem?_append_right (by omega)]at hi;have:=List.mem_of_getElem? hi;simp at this;omega;have:=h.low b hb;simp;omega;simp at hb;subst hb;simp;show(w.heap.push o')[b]? =_;rw[Array.getElem?_push_lt hb,<-Array.getElem?_eq_getElem];have:=h.low b hb;show(w.heap.push o')[b]? =_;rw[Array.getElem?_push_lt this,<-Array.getElem?_eq_getElem];simp at h2|-;omega
end
def modify_set{α}(a:Array α) j f x(h:a[j]? =some x):a.modify j f=a.setIfInBounds j (f x):=by obtain⟨hlt,rfl⟩:=Array.getElem?_eq_some_iff.1 h;apply Array.ext_getElem?;intro m;rw[Array.getElem?_modify];by_cases hm:j=m;subst hm;simp[hlt];simp[hm]
def WR.load{E Sh X v w}(h:WR E Sh X v w){a b}(ha:At E X a.block b){x}(hx:v.cell? a=some x):∃x',w.cell? ⟨b,a.off,a.spot⟩=some x'/\V E X x x':=by
 obtain⟨o,o',h1,h2,h3⟩:=h.obj ha;unfold World.cell? at hx|-;rw[h1]at hx;dsimp only;rw[h2];cases h3 with
 |cells c c' e fz fz' hc hf=>
  dsimp only at hx|-;cases hs:a.spot with
  |some s=>rw[hs]at hx;cases hx
  |none=>rw[hs]at hx;simp only[Option.isSome_none,Bool.false_eq_true,if_false]at hx|-;rcases hc.get a.off with⟨y,y',e1,e2,hy⟩|⟨e1,e2⟩;rw[e1]at hx;cases hx;exact⟨y',e2,hy⟩;rw[e1]at hx;cases hx
 |_=>cases hx
def WR.far{E Sh X v w}(h:WR E Sh X v w){a b}(ha:At E X a.block b) P m:(∃x,NoInit x/\v.farLoad P a m=.error x)/\∀y,∃x,NoInit x/\v.farStore P a y m=.error x:=by
 obtain⟨o,o',h1,h2,h3⟩:=h.obj ha;constructor;unfold World.farLoad;rw[h1];cases h3<;>refine⟨_,?_,rfl⟩<;>first|trivial|(unfold World.noCell;rw[h1];trivial)
 intro y;unfold World.farStore;rw[h1];cases h3<;>refine⟨_,?_,rfl⟩<;>first|trivial|(unfold World.noCell;rw[h1];trivial)
def flat_of{E X x x'}(h:V E X x x')(hf:flat x):flat x':=by cases h<;>first|exact trivial|assumption|exact hf.elim
def WR.store{E Sh X v w}(h:WR E Sh X v w){a b}(ha:At E X a.block b){x x'}(hx:V E X x x'){y}(hy:v.cell? a=some y)(hf:v.frozen? a=false):(∃y',w.cell? ⟨b,a.off,a.spot⟩=some y')/\w.frozen? ⟨b,a.off,a.spot⟩=false/\¬Sh b/\Out E Sh X w [] (v.setCell a x) (w.setCell ⟨b,a.off,a.spot⟩ x'):=by
 obtain⟨y',hy',_⟩:=h.load ha hy;obtain⟨o,o',h1,h2,h3⟩:=h.obj ha;have hoff:∃c c' e fz fz',o=.cells c e fz/\o'=.cells c' e fz'/\VA E X c c'/\(fz'=fz∨fz=(0,c.size))/\a.off<c.size/\a.spot=none:=by
  unfold World.cell? at hy;rw[h1]at hy;cases h3 with
  |cells c c' e fz fz' hc hf=>
   dsimp only at hy;cases hs:a.spot with
   |some s=>rw[hs]at hy;cases hy
   |none=>rw[hs]at hy;simp only[Option.isSome_none,Bool.false_eq_true,if_false]at hy;exact⟨c,c',e,fz,fz',rfl,rfl,hc,hf,(Array.getElem?_eq_some_iff.1 hy).1,rfl⟩
  |_=>cases hy
 obtain⟨c,c',e,fz,fz',rfl,rfl,hc,hfz,hlt,hsp⟩:=hoff;have hf2:¬(fz.1<=a.off/\a.off<fz.2):=by unfold World.frozen? at hf;rw[h1]at hf;simpa using hf
 have hsh:¬Sh b:=λhb=>by obtain⟨c2,e2,h4⟩:=h.shared _ _ ha.2 hb;rw[show E.G+(a.block-E.G)=a.block by have:=ha.1;omega,h1]at h4;cases h4;exact hf2 ⟨Nat.zero_le _,hlt⟩
 refine⟨⟨y',hy'⟩,?_,hsh,?_⟩;unfold World.frozen?;dsimp only;rw[h2];have:¬(fz'.1<=a.off/\a.off<fz'.2):=λhh=>by rcases hfz with rfl|rfl;exact hf2 hh;exact hf2 ⟨Nat.zero_le _,hlt⟩
 simpa using this;unfold World.setCell;dsimp only;rw[modify_set _ _ _ _ h1,modify_set _ _ _ _ h2,hsp];exact h.put ha (.cells _ _ e fz fz' (hc.set _ hx) (hfz.imp id λe=>by rw[e];simp)) hsh
def RunX(P:Program)(E:Env)(Sh:Nat->Prop){α:Type}(Φ:List Nat->α->α->Prop)(s s':Sem α)(X:List Nat)(v w:World)(es0 es0':Array Event):Prop:=(∃h v' es,NoInit h/\s.runT P v es0=(.halt h v',es))∨∃a v1 es1 Y a' w1 es1',s.runT P v es0=(.ok a v1,es1)/\s'.runT P w es0'=(.ok a' w1,es1')/\Φ (X++Y) a a'/\Out E Sh X w Y v1 w1/\∀e∈es1',e∈es0'∨EvX (X++Y) Sh e
section
variable{P:Program}{E:Env}{Sh:Nat->Prop}{α:Type}{Φ:List Nat->α->α->Prop}
def RunX.of{s s' t t' X Y v w v1 w1 es es' es1 es1'}(h:RunX P E Sh Φ t t' (X++Y) v1 w1 es1 es1')(ho:Out E Sh X w Y v1 w1)(h1:s.runT P v es=t.runT P v1 es1)(h2:s'.runT P w es'=t'.runT P w1 es1') (he:∀x∈es1',x∈es'∨EvX (X++Y) Sh x):RunX P E Sh Φ s s' X v w es es':=by rcases h with⟨hh,v',e,hni,hr⟩|⟨a,v2,e2,Z,a',w2,e2',r1,r2,r3,r4,r5⟩;exact .inl ⟨hh,v',e,hni,h1.trans hr⟩;refine .inr ⟨a,v2,e2,Y++Z,a',w2,e2',h1.trans r1,h2.trans r2,by rwa[<-List.append_assoc],ho.trans r4,λx hx=>?_⟩;rw[<-List.append_assoc];rcases r5 x hx with h|h;exact(he x h).imp id (·.app Z);exact .inr h
def RunX.halt{s s' X v w es es' x}(hx:NoInit x)(h:s.runT P v es=(.halt x v,es)):RunX P E Sh Φ s s' X v w es es':=.inl ⟨_,_,_,hx,h⟩
def RunX.of0{s s' t t' X v w v1 w1 es es' es1 es1'}(h:RunX P E Sh Φ t t' X v1 w1 es1 es1')(ho:Out E Sh X w [] v1 w1)(h1:s.runT P v es=t.runT P v1 es1)(h2:s'.runT P w es'=t'.runT P w1 es1') (he:∀x∈es1',x∈es'∨EvX X Sh x):RunX P E Sh Φ s s' X v w es es':=RunX.of (Y:=[]) (by rwa[List.append_nil]) ho h1 h2 (by rwa[List.append_nil])
theorem SemR.run:∀ {s:Sem α}{X:List Nat}{s':Sem α},SemR P E Φ s X s'->∀ {v w:World}(es0 es0':Array Event),WR E Sh X v w->RunX P E Sh Φ s s' X v w es0 es0'
 |.pure a,X,s',h,v,w,es0,es0',hw=>by obtain⟨a',hn,h⟩:=h;exact .inr ⟨a,v,es0,[],a',w,es0',rfl,by rw[runT_norm,hn];rfl,by rwa[List.append_nil],.refl hw,λe he=>.inl he⟩
 |.load m a k,X,s',h,v,w,es0,es0',hw=>by
  obtain⟨b,k',rfl,hn,ha,hk⟩:=h;cases hc:v.cell? a with
  |none=>obtain⟨⟨x,hni,hx⟩,_⟩:=hw.far ha P (Mode.plain==.atomic);exact .halt (x:=x) hni (by rw[Sem.runT];simp only[hc,hx])
  |some y=>obtain⟨y',hy',hv⟩:=hw.load ha hc;refine RunX.of0 (SemR.run (hk y y' hv) (es0.push ⟨.cell a,false,false⟩) (es0'.push ⟨.cell ⟨b,a.off,a.spot⟩,false,false⟩) hw) (.refl hw) (by rw[Sem.runT];simp only[hc];rfl) (by rw[runT_norm P s',hn,Sem.runT];simp only[hy'];rfl) ?_;intro x hx;rcases Array.mem_push.1 hx with h2|rfl;exact .inl h2;exact .inr (.inr ⟨rfl,.inl ⟨_,rfl,List.mem_of_getElem? ha.2,λhh=>by cases hh⟩⟩)
 |.store m a x k,X,s',h,v,w,es0,es0',hw=>by
  obtain⟨b,x',k',rfl,hn,ha,hx,hk⟩:=h;by_cases hfl:flat x;have hs:∀(x:Value)(_:flat x)(a:Addr)(k:Sem α)(u:World)(es:Array Event),(Sem.store .plain a x k).runT P u es=match u.cell? a with
   |some _=>if u.frozen? a then(.halt (.unsupported (.unsafePointer "a write to bytes that a string shares")) u,es)else k.runT P (u.setCell a x) (es.push ⟨.cell a,true,false⟩)
   |none=>match u.farStore P a x false with
    |.ok (w,touched)=>k.runT P w (es++touched.toArray.map (⟨.cell ·,true,false⟩))
    |.error h=>(.halt h u,es):=by
   intro x hx a k u es;cases x<;>first|exact hx.elim|rfl
  cases hc:v.cell? a with
  |none=>obtain⟨_,hfar⟩:=hw.far ha P false;obtain⟨z,hni,hz⟩:=hfar x;exact .halt (x:=z) hni (by rw[hs x hfl];simp only[hc,hz])
  |some y=>cases hfr:v.frozen? a with|true=>exact .halt (x:=.unsupported (.unsafePointer "a write to bytes that a string shares")) trivial (by rw[hs x hfl];simp only[hc,hfr,if_true])|false=>obtain⟨⟨y',h1⟩,h2,h3,h4⟩:=hw.store ha hx hc hfr;refine RunX.of0 (SemR.run hk (es0.push ⟨.cell a,true,false⟩) (es0'.push ⟨.cell ⟨b,a.off,a.spot⟩,true,false⟩) (by simpa using h4.rel)) h4 (by rw[hs x hfl];simp only[hc,hfr,Bool.false_eq_true,if_false]) (by rw[runT_norm P s',hn,hs x' (flat_of hx hfl)];simp only[h1,h2,Bool.false_eq_true,if_false]) ?_;intro e he;rcases Array.mem_push.1 he with h5|rfl;exact .inl h5;exact .inr (.inr ⟨rfl,.inl ⟨_,rfl,List.mem_of_getElem? ha.2,λ_=>h3⟩⟩)
  have:(∃c,x=.agg c)∨∃c,x=.tuple c:=by cases x<;>first|exact .inl ⟨_,rfl⟩|exact .inr ⟨_,rfl⟩|exact absurd trivial hfl
  rcases this with⟨c,rfl⟩|⟨c,rfl⟩<;>exact .halt (x:=.stuck "store: not the value of one cell") trivial (by rw[Sem.runT])
 |.new o k,X,s',h,v,w,es0,es0',hw=>by obtain⟨o',k',hnm,ho,hk⟩:=h;have hn:=hw.new ho;refine RunX.of (Y:=[w.heap.size]) (SemR.run (hk w.heap.size) es0 es0' hn.rel) hn (by rw[Sem.runT,hw.size]) (by rw[runT_norm P s',hnm,Sem.runT]) (λe he=>.inl he)
 |.shape r k,X,s',h,v,w,es0,es0',hw=>by
  rcases h with⟨b,k',hn,ha,hk⟩|h;case inr=>obtain⟨x,es',hni,hx⟩:=HaltsR.run (s:=.shape r k) h v es0;exact .inl ⟨x,v,es',hni,hx⟩
  have hz:v.shape? r=w.shape? b:=by obtain⟨o,o',h1,h2,h3⟩:=hw.obj ha;unfold World.shape?;rw[h1,h2];cases h3 with|cells c c' e fz fz' hc hf=>simp only[hc.size]|_=>rfl
  exact RunX.of0 (SemR.run (hk (v.shape? r)) es0 es0' hw) (.refl hw) (by rw[Sem.runT]) (by rw[runT_norm P s',hn,Sem.runT,hz]) (λe he=>.inl he)
 |.getObj r k,X,s',h,v,w,es0,es0',hw=>by
  obtain⟨b,k',hn,ha,hk⟩:=h;obtain⟨o,o',h1,h2,h3⟩:=hw.obj ha;have hm:=List.mem_of_getElem? ha.2;have hk':=hk o o' h3;have hev:∀x∈es0'.push ⟨.obj b,false,false⟩,x∈es0'∨EvX X Sh x:=by intro x hx;rcases Array.mem_push.1 hx with h5|rfl;exact .inl h5;exact .inr (.inr ⟨rfl,.inr ⟨_,rfl,hm,λhh=>by cases hh⟩⟩)
  cases h3 with|cells c c' e fz fz' hc hf=>exact .halt (x:=.stuck "getObj: a row of cells") trivial (by rw[Sem.runT];simp only[h1])|map a a' n hma=>exact RunX.of0 (SemR.run hk' (es0.push ⟨.obj r,false,false⟩) _ hw) (.refl hw) (by rw[Sem.runT];simp only[h1];rfl) (by rw[runT_norm P s',hn,Sem.runT];simp only[h2];rfl) hev|iterN s x n=>exact RunX.of0 (SemR.run hk' (es0.push ⟨.obj r,false,false⟩) _ hw) (.refl hw) (by rw[Sem.runT];simp only[h1];rfl) (by rw[runT_norm P s',hn,Sem.runT];simp only[h2];rfl) hev|number r2 b2 o2 s l hi=>exact RunX.of0 (SemR.run hk' (es0.push ⟨.obj r,false,false⟩) _ hw) (.refl hw) (by rw[Sem.runT];simp only[h1];rfl) (by rw[runT_norm P s',hn,Sem.runT];simp only[h2];rfl) hev|iter r2 b2 s x n hi=>exact RunX.of0 (SemR.run hk' (es0.push ⟨.obj r,false,false⟩) _ hw) (.refl hw) (by rw[Sem.runT];simp only[h1];rfl) (by rw[runT_norm P s',hn,Sem.runT];simp only[h2];rfl) hev
 |.setObj r o k,X,s',h,v,w,es0,es0',hw=>by
  obtain⟨b,o2,k',hn,ha,ho,hk⟩:=h;obtain⟨p,p',h1,h2,h3⟩:=hw.obj ha;have hm:=List.mem_of_getElem? ha.2;have hch:o2.isChan=false:=by cases ho<;>rfl
  have hch1:o.isChan=false:=by cases ho<;>rfl
  have main:(∀c e f,p≠.cells c e f)->(∀c e f,p'≠.cells c e f)->RunX P E Sh Φ (.setObj r o k) s' X v w es0 es0':=by
   intro hp hp';have hsh:¬Sh b:=λhb=>by obtain⟨c2,e2,h4⟩:=hw.shared _ _ ha.2 hb;rw[show E.G+(r-E.G)=r by have:=ha.1;omega,h1]at h4;cases h4;exact hp _ _ _ rfl
   have hput:=hw.put ha ho hsh;refine RunX.of0 (SemR.run hk (es0.push ⟨.obj r,true,false⟩) (es0'.push ⟨.obj b,true,false⟩) (by simpa using hput.rel)) hput ?_ ?_ ?_;rw[Sem.runT,hch1];cases p<;>first|exact absurd rfl (hp _ _ _)|simp only[h1]
   rw[runT_norm P s',hn,Sem.runT,hch];cases p'<;>first|exact absurd rfl (hp' _ _ _)|simp only[h2]
   intro x hx;rcases Array.mem_push.1 hx with h5|rfl;exact .inl h5;exact .inr (.inr ⟨rfl,.inr ⟨_,rfl,hm,λ_=>hsh⟩⟩)
  cases h3 with|cells c c' e fz fz' hc hf=>exact .halt (x:=.stuck "setObj: a row of cells") trivial (by rw[Sem.runT];simp only[h1])|map a a' n hma=>exact main (λ_ _ _ e=>by cases e) (λ_ _ _ e=>by cases e)|iterN s x n=>exact main (λ_ _ _ e=>by cases e) (λ_ _ _ e=>by cases e)|number r2 b2 o2 s l hi=>exact main (λ_ _ _ e=>by cases e) (λ_ _ _ e=>by cases e)|iter r2 b2 s x n hi=>exact main (λ_ _ _ e=>by cases e) (λ_ _ _ e=>by cases e)
 |.choose q k,X,s',h,v,w,es0,es0',hw=>by
  obtain⟨k',hn,hk⟩:=h;by_cases hq:q.forced=true;exact RunX.of0 (SemR.run (hk 0) es0 es0' hw) (.refl hw) (by rw[Sem.runT,if_pos hq]) (by rw[runT_norm P s',hn,Sem.runT,if_pos hq]) (λe he=>.inl he);have e1:q.cut (v.tape v.drawn q)=q.cut (w.tape w.drawn q):=by rw[hw.tape,hw.drawn]
  have hw2:WR E Sh X {v with drawn:=v.drawn+1} {w with drawn:=w.drawn+1}:=⟨hw.size,hw.el,hw.junk,hw.nodup,hw.shared,hw.low,hw.tape,by show v.drawn+1=w.drawn+1;rw[hw.drawn]⟩;have ho:Out E Sh X w [] {v with drawn:=v.drawn+1} {w with drawn:=w.drawn+1}:=⟨by simpa using hw2,Nat.le_refl _,(λb hb=>by cases hb),λ_ _ _=>rfl,λ_ _=>rfl,(λb h1 h2=>by simp at h2;omega),rfl,rfl,rfl⟩;exact RunX.of0 (SemR.run (hk (q.cut (v.tape v.drawn q))) es0 es0' hw2) ho (by rw[Sem.runT,if_neg hq]) (by rw[runT_norm P s',hn,Sem.runT,if_neg hq,e1]) (λe he=>.inl he)
 |.program k,X,s',h,v,w,es0,es0',hw=>by exact RunX.of0 (SemR.run (s:=k P) h es0 es0' hw) (.refl hw) (by rw[Sem.runT]) rfl (λe he=>.inl he)|.mark m k,X,s',h,v,w,es0,es0',hw=>by
  rcases h with⟨k',rfl,hn,hk⟩|h;case inr=>obtain⟨x,es',hni,hx⟩:=HaltsR.run (s:=.mark m k) h v es0;exact .inl ⟨x,v,es',hni,hx⟩
  refine RunX.of0 (SemR.run hk (es0.push noRoomEvent) (es0'.push noRoomEvent) hw) (.refl hw) (by rw[Sem.runT];rfl) (by rw[runT_norm P s',hn,Sem.runT];rfl) ?_;intro x hx;rcases Array.mem_push.1 hx with h5|rfl;exact .inl h5;exact .inr (.inl rfl)
 |.freeze _ _ _,_,_,h,_,_,_,_,_=>h.elim|.frozen a k,_,_,h,v,_,es0,_,_=>by obtain⟨x,es',hni,hx⟩:=HaltsR.run (s:=.frozen a k) h v es0;exact .inl ⟨x,v,es',hni,hx⟩
 |.sys _ _,_,_,h,_,_,_,_,_=>h.elim|.halt x,_,_,h,v,_,es0,_,_=>.halt (x:=x) h (by rw[Sem.runT])
end
end Rn
namespace Rn
section
variable{P:Program}{E:Env}{X:List Nat}{α β:Type}
abbrev RE(P:Program)(E:Env){α:Type}(R:α->α->Prop)(X:List Nat)(s s':Sem α):Prop:=SemR P E (λX' a a'=>X'=X/\R a a') s X s'
abbrev RG(P:Program)(E:Env){α:Type}(R:List Nat->α->α->Prop)(X:List Nat)(s s':Sem α):Prop:=SemR P E R s X s'
def AR(E:Env)(X:List Nat)(a a':Addr):Prop:=At E X a.block a'.block/\a'.off=a.off/\a'.spot=a.spot
def AR.eq{a a'}(h:AR E X a a'):a'=⟨a'.block,a.off,a.spot⟩:=by obtain⟨b,o,s⟩:=a';obtain⟨_,h1,h2⟩:=h;dsimp only at h1 h2;rw[h1,h2]
def AR.add{a a'}(h:AR E X a a') n:AR E X (a.add n) (a'.add n):=by unfold Addr.add;split;exact h;exact⟨h.1,by rw[h.2.1],rfl⟩
def re_pure{R}{a a':α}(h:R a a'):RE P E R X (pure a) (pure a'):=⟨a',rfl,rfl,h⟩
def rg_pure{R}{a a':α}(h:R X a a'):RG P E R X (pure a) (pure a'):=⟨a',rfl,h⟩
def re_bind{R Ψ s s'}{f f':α->Sem β}(h:RE P E R X s s')(hf:∀a a',R a a'->RG P E Ψ X (f a) (f' a')):RG P E Ψ X (s >>= f) (s' >>= f'):=by refine SemR.bind (λY a a' ha=>?_) h;rw[ha.1];exact hf a a' ha.2
def rg_bind{R Ψ s s'}{f f':α->Sem β}(h:RG P E R X s s')(hf:∀Y a a',R (X++Y) a a'->RG P E Ψ (X++Y) (f a) (f' a')):RG P E Ψ X (s >>= f) (s' >>= f'):=SemR.bind hf h
def re_eq{Ψ s}{f f':α->Sem β}(h:RE P E Eq X s s)(hf:∀a,RG P E Ψ X (f a) (f' a)):RG P E Ψ X (s >>= f) (s >>= f'):=re_bind h λa a' e=>by subst e;exact hf a
def bind_pure':∀s:Sem α,s.bind pure=s:=by intro s;induction s with|pure a=>rfl|load m a k ih=>exact congrArg (Sem.load m a) (funext ih)|store m a v k ih=>exact congrArg (Sem.store m a v) ih|new o k ih=>exact congrArg (Sem.new o) (funext ih)|shape r k ih=>exact congrArg (Sem.shape r) (funext ih)|freeze a n k ih=>exact congrArg (Sem.freeze a n) ih|frozen a k ih=>exact congrArg (Sem.frozen a) (funext ih)|getObj r k ih=>exact congrArg (Sem.getObj r) (funext ih)|setObj r o k ih=>exact congrArg (Sem.setObj r o) ih|choose q k ih=>exact congrArg (Sem.choose q) (funext ih)|sys c k ih=>exact congrArg (Sem.sys c) (funext ih)|program k ih=>exact congrArg Sem.program (funext ih)|mark m k ih=>exact congrArg (Sem.mark m) ih|halt h=>rfl
def rg_mono{R R'}{s s':Sem α}(h:RG P E R X s s')(hr:∀Y a a',R (X++Y) a a'->R' (X++Y) a a'):RG P E R' X s s':=by have:=rg_bind (f:=pure) (f':=pure) h λY a a' ha=>rg_pure (P:=P) (E:=E) (hr Y a a' ha);rwa[show(s >>= pure)=s from bind_pure' s,show(s' >>= pure)=s' from bind_pure' s']at this
def re_mono{R R'}{s s':Sem α}(h:RE P E R X s s')(hr:∀a a',R a a'->R' a a'):RE P E R' X s s':=rg_mono h λ_ _ _ x=>⟨x.1,hr _ _ x.2⟩
def re_rg{R Ψ}{s s':Sem α}(h:RE P E R X s s')(hr:∀a a',R a a'->Ψ X a a'):RG P E Ψ X s s':=rg_mono h λY a a' x=>by rw[x.1];exact hr a a' x.2
def re_ite{R c}[Decidable c]{a b a' b':Sem α}(h1:RE P E R X a a')(h2:RE P E R X b b'):RE P E R X (if c then a else b) (if c then a' else b'):=by split<;>assumption
def rg_ite{Ψ c}[Decidable c]{a b a' b':Sem α}(h1:RG P E Ψ X a a')(h2:RG P E Ψ X b b'):RG P E Ψ X (if c then a else b) (if c then a' else b'):=by split<;>assumption
def re_program:RE P E (λa b=>a=P/\b=P) X program program:=⟨_,rfl,rfl,rfl,rfl⟩
def re_prog{Ψ}{f f':Program->Sem β}(hf:RG P E Ψ X (f P) (f' P)):RG P E Ψ X (program >>= f) (program >>= f'):=re_bind re_program λa b ⟨e1,e2⟩=>by subst e1;subst e2;exact hf
def re_typeInfo t:RE P E (λa b=>a=b/\P.info? t=some a) X (typeInfo t) (typeInfo t):=by unfold typeInfo;refine re_prog ?_;split;rename_i i h;exact re_pure ⟨rfl,h⟩;exact trivial
def re_typeInfo' t:RE P E Eq X (typeInfo t) (typeInfo t):=re_mono (re_typeInfo t) λ_ _ h=>h.1
def re_underlying t:RE P E (λa b=>a=b/\P.underlying t=some a) X (underlying t) (underlying t):=by unfold underlying;refine re_prog ?_;split;rename_i i h;exact re_pure ⟨rfl,h⟩;exact trivial
def re_underlying' t:RE P E Eq X (underlying t) (underlying t):=re_mono (re_underlying t) λ_ _ h=>h.1
def re_sizeOf t:RE P E Eq X (sizeOf t) (sizeOf t):=re_eq (re_typeInfo' t) λ_=>re_pure rfl
def re_isAgg t:RE P E Eq X (isAgg t) (isAgg t):=by unfold isAgg;refine re_eq (re_underlying' t) λd=>?_;split<;>exact re_pure rfl
def ZeroOK(P:Program)(t:TypeId):Prop:=∀i z,P.info? t=some i->i.zero=some z->Clean z
def re_zeroValue t(h:ZeroOK P t):RE P E (λa b=>a=b/\Clean a) X (zeroValue t) (zeroValue t):=by unfold zeroValue;refine re_bind (re_typeInfo t) λa b ⟨e,hi⟩=>?_;subst e;split;rename_i z hz;exact re_pure ⟨rfl,h _ _ hi hz⟩;exact trivial
def re_askRoom n:RE P E (λ_ _=>True) X (askRoom n) (askRoom n):=by unfold askRoom;split;exact .inl ⟨_,rfl,rfl,_,rfl,rfl,trivial⟩;exact re_pure trivial
def re_choose q:RE P E Eq X (choose q) (choose q):=⟨_,rfl,λn=>⟨_,rfl,rfl,rfl⟩⟩
def re_load{a a'}(h:AR E X a a'):RE P E (V E X) X (load a) (load a'):=by rw[h.eq];exact⟨_,_,rfl,rfl,h.1,λv v' hv=>⟨_,rfl,rfl,hv⟩⟩
def re_store{a a'}(h:AR E X a a'){v v'}(hv:V E X v v'):RE P E (λ_ _=>True) X (store a v) (store a' v'):=by rw[h.eq];exact⟨_,_,_,rfl,rfl,h.1,hv,_,rfl,rfl,trivial⟩
def re_shape{r b}(h:At E X r b):RE P E Eq X (shape r) (shape b):=.inl ⟨_,_,rfl,h,λz=>⟨_,rfl,rfl,rfl⟩⟩
def re_getObj{r b}(h:At E X r b):RE P E (ObjR E X) X (getObj r) (getObj b):=⟨_,_,rfl,h,λo o' ho=>⟨_,rfl,rfl,ho⟩⟩
def re_setObj{r b}(h:At E X r b){o o'}(ho:ObjR E X o o'):RE P E (λ_ _=>True) X (setObj r o) (setObj b o'):=⟨_,_,_,rfl,h,ho,_,rfl,rfl,trivial⟩
def rg_newObj{o o'}(ho:ObjR E X o o'):RG P E (λX' r b=>X'=X++[b]/\At E X' r b) X (newObj o) (newObj o'):=⟨_,_,rfl,ho,λb=>⟨_,rfl,rfl,by omega,by rw[show E.G+X.length-E.G=X.length by omega];simp⟩⟩
theorem re_loadCellsFrom{a a'}(h:AR E X a a'):∀n i {c c':Array Value},VA E X c c'->RE P E (VA E X) X (loadCellsFrom a i n c) (loadCellsFrom a' i n c')
 |0,i,c,c',hc=>re_pure hc|n+1,i,c,c',hc=>re_bind (re_load (h.add i)) λv v' hv=>re_loadCellsFrom h n (i+1) (hc.push hv)
def re_loadCells{a a'}(h:AR E X a a') n:RE P E (VA E X) X (loadCells a n) (loadCells a' n):=re_loadCellsFrom h n 0 (VA.empty X)
def re_loadVar{a a'}(h:AR E X a a') t:RE P E (V E X) X (loadVar t a) (loadVar t a'):=by unfold loadVar;refine re_eq (re_isAgg t) λb=>?_;split;exact re_eq (re_sizeOf t) λn=>re_bind (re_loadCells h n) λc c' hc=>re_pure (V.ofAgg hc);exact re_load h
theorem re_storeCells{a a'}(h:AR E X a a'):∀l l' i,VA E X l.toArray l'.toArray->RE P E (λ_ _=>True) X (storeCells a l i) (storeCells a' l' i)
 |[],l',i,hl=>by
  have:l'=[]:=by have:=hl.size;simp at this;exact List.eq_nil_of_length_eq_zero this.symm
  subst this;exact re_pure trivial|v::l,[],i,hl=>by have:=hl.size;simp at this|v::l,v'::l',i,hl=>by have h0:=hl.el 0 v v' (by simp) (by simp);refine re_bind (re_store (h.add i) h0) λ_ _ _=>re_storeCells h l l' (i+1) ⟨by have:=hl.size;simpa using this,λj x x' h1 h2=>hl.el (j+1) x x' (by simpa using h1) (by simpa using h2)⟩
def re_storeVar{a a'}(h:AR E X a a') t{v v'}(hv:V E X v v'):RE P E (λ_ _=>True) X (storeVar t a v) (storeVar t a' v'):=by unfold storeVar;have hc:=hv.cells;refine re_eq (re_sizeOf t) λn=>?_;rw[<-hc.size];split;exact trivial;exact re_storeCells h _ _ 0 (by simpa using hc)
def rg_newRow e{c c'}(hc:VA E X c c'):RG P E (λX' a a'=>(∃b,X'=X++[b])/\AR E X' a a') X (newRow e c) (newRow e c'):=by unfold newRow;refine SemR.bind (λY r b hr=>?_) (rg_newObj (.cells c c' e (0,0) (0,0) hc (.inl rfl)));exact⟨_,rfl,⟨b,hr.1⟩,hr.2,rfl,rfl⟩
def rg_newVar t{v v'}(hv:V E X v v'):RG P E (λX' a a'=>(∃b,X'=X++[b])/\AR E X' a a') X (newVar t v) (newVar t v'):=rg_newRow t hv.cells
def re_part t{c c'}(hc:VA E X c c') off:RE P E (V E X) X (part t c off) (part t c' off):=by unfold part;refine re_eq (re_isAgg t) λb=>?_;split;exact re_eq (re_sizeOf t) λn=>re_pure (V.ofAgg (hc.extract _ _));rcases hc.get off with⟨v,v',e1,e2,hv⟩|⟨e1,e2⟩;rw[e1,e2];exact re_pure hv;rw[e1,e2];exact trivial
def re_asIntOf{v v'}(h:V E X v v'):RE P E Eq X (asIntOf v) (asIntOf v'):=by cases h<;>first|exact trivial|exact re_pure rfl
def re_asInt{v v'}(h:V E X v v'):RE P E Eq X (asInt v) (asInt v'):=re_bind (re_asIntOf h) λ_ _ e=>by subst e;exact re_pure rfl
def re_asBool{v v'}(h:V E X v v'):RE P E Eq X (asBool v) (asBool v'):=by cases h<;>first|exact trivial|exact re_pure rfl
def re_sureAddr{v v'}(h:V E X v v'):RE P E (AR E X) X (Instr.sureAddr v) (Instr.sureAddr v'):=by cases h<;>first|exact trivial|exact re_pure ⟨by assumption,rfl,rfl⟩
def plainErr:RuntimeError->Prop
 |.bounds _ _ _ _|.error _|.plain _|.nilDeref=>True|_=>False
def rg_panic{Ψ e e'}(h:plainErr e):RG P E Ψ X (runtimePanic e:Sem α) (runtimePanic e'):=by refine re_prog ?_;cases e<;>first|exact trivial|exact h.elim
def rg_boundsPanic{Ψ} k x y c:RG P E Ψ X (boundsPanic k x y c:Sem α) (boundsPanic k x y c):=by unfold boundsPanic;dsimp only;split;refine re_eq (re_bind (re_choose _) λa b e=>by subst e;exact re_pure rfl) λb=>?_;refine rg_panic ?_;exact trivial;refine re_eq (re_pure rfl) λb=>rg_panic ?_;exact trivial
def re_asAddr{v v'}(h:V E X v v'):RE P E (AR E X) X (asAddr v) (asAddr v'):=by
 cases h;case ptrN=>show RE P E (AR E X) X (runtimePanic .nilDeref) (runtimePanic .nilDeref);exact rg_panic trivial
 case ptr r b o s h=>exact re_pure (R:=AR E X) ⟨h,rfl,rfl⟩
 case undef h=>cases v'<;>first|exact trivial|exact h.elim
 all_goals exact trivial
def rg_alloc t(hz:ZeroOK P t):RG P E (λX' v v'=>V E X' v v') X (Instr.alloc t true (.tuple #[])) (Instr.alloc t true (.tuple #[])):=by unfold Instr.alloc;refine re_bind (re_zeroValue t hz) ?_;rintro z z'⟨e,hc⟩;subst e;refine rg_bind (rg_newVar t (hc.self X)) ?_;rintro Y a a'⟨_,ha⟩;rw[ha.eq];exact⟨_,rfl,.ptr _ _ _ _ ha.1⟩
def rg_box t{v v'}(hv:V E X v v'):RG P E (λX' v v'=>V E X' v v') X (Instr.box t v) (Instr.box t v'):=by unfold Instr.box;refine rg_bind (rg_newVar t hv) ?_;rintro Y a a'⟨_,ha⟩;rw[ha.eq];exact⟨_,rfl,.ptr _ _ _ _ ha.1⟩
def re_loadAt t{v v'}(hv:V E X v v'):RE P E (V E X) X (Instr.loadAt t v) (Instr.loadAt t v'):=re_bind (re_sureAddr hv) λa a' ha=>re_loadVar ha t
def re_storeAt t{v v' x x'}(hv:V E X v v')(hx:V E X x x'):RE P E (λ_ _=>True) X (Instr.storeAt t v x) (Instr.storeAt t v' x'):=re_bind (re_sureAddr hv) λa a' ha=>re_storeVar ha t hx
theorem fill_rel place:∀l l' c c',l.length=l'.length->(∀(i:Nat)(p p'),l[i]? =some p->l'[i]? =some p'->p.1=p'.1/\V E X p.2 p'.2)->VA E X c c'->(∃d d',Instr.fill place c l=some d/\Instr.fill place c' l'=some d'/\VA E X d d')∨(Instr.fill place c l=none/\Instr.fill place c' l'=none)
 |[],[],c,c',_,_,hc=>.inl ⟨c,c',rfl,rfl,hc⟩|[],_::_,_,_,h,_,_=>by simp at h|_::_,[],_,_,h,_,_=>by simp at h|(i,v)::l,(i',v')::l',c,c',hl,hp,hc=>by
  obtain⟨e,hv⟩:=hp 0 _ _ rfl rfl;dsimp only at e hv;subst e;have hvc:=hv.cells;unfold Instr.fill;cases hpl:place i with
  |none=>exact .inr ⟨rfl,rfl⟩|some x=>
  obtain⟨off,size⟩:=x;dsimp only;rw[<-hvc.size,<-hc.size];split;exact .inr ⟨rfl,rfl⟩;refine fill_rel place l l' _ _ (by simpa using hl) (λj p p' h1 h2=>hp (j+1) p p' (by simpa using h1) (by simpa using h2)) ?_;have key:∀(w w':List Value)(d d':Array Value)(k:Nat),VA E X w.toArray w'.toArray->VA E X d d'->VA E X ((w.zipIdx k).foldl (λcs (x:Value×Nat)=>cs.setIfInBounds (off+x.2) x.1) d) ((w'.zipIdx k).foldl (λcs (x:Value×Nat)=>cs.setIfInBounds (off+x.2) x.1) d'):=by intro w;induction w with|nil=>intro w' d d' k hww hd;have e2:w'=[]:=List.eq_nil_of_length_eq_zero (by have:=hww.size;simpa using this.symm);subst e2;exact hd|cons x w ih=>intro w' d d' k hww hd;cases w' with|nil=>have:=hww.size;simp at this|cons x' w'=>rw[List.zipIdx_cons,List.zipIdx_cons,List.foldl_cons,List.foldl_cons];exact ih w' _ _ (k+1) ⟨by have:=hww.size;simpa using this,λj y y' h1 h2=>hww.el (j+1) y y' (by simpa using h1) (by simpa using h2)⟩ (hd.set _ (hww.el 0 x x' (by simp) (by simp)))
  rw[<-Array.foldl_toList,<-Array.foldl_toList,Array.toList_zipIdx,Array.toList_zipIdx];exact key _ _ _ _ 0 (by simpa using hvc) hc
structure PR(E:Env)(X:List Nat)(l l':Array (Nat×Value)):Prop where
 size:l.size=l'.size
 el:∀(i:Nat)(p p':Nat×Value),l[i]? =some p->l'[i]? =some p'->p.1=p'.1/\V E X p.2 p'.2
theorem rg_mapM{γ}(f:γ->Sem α)(hf:∀a,RE P E Eq X (f a) (f a)):∀(l:List γ),RE P E Eq X (l.mapM f) (l.mapM f)
 |[]=>by rw[List.mapM_nil];exact re_pure rfl|a::l=>by rw[List.mapM_cons];exact re_eq (hf a) λb=>re_eq (rg_mapM f hf l) λr=>re_pure rfl
def re_mapMA{γ}(f:γ->Sem α)(hf:∀a,RE P E Eq X (f a) (f a))(l:Array γ):RE P E Eq X (l.mapM f) (l.mapM f):=by rw[Array.mapM_eq_mapM_toList];refine re_bind (R:=Eq) (rg_mapM f hf _) λa b e=>?_;subst e;exact re_pure rfl
def re_build t(hz:ZeroOK P t){l l'}(hl:PR E X l l'):RE P E (V E X) X (Instr.build t l) (Instr.build t l'):=by unfold Instr.build;refine re_bind (re_zeroValue t hz) ?_;rintro z z'⟨e,hc⟩;subst e;have hzc:=(hc.self (E:=E) X).cells;have hparts:∀place,(∃d d',Instr.fill place z.cells l.toList=some d/\Instr.fill place z.cells l'.toList=some d'/\VA E X d d')∨(Instr.fill place z.cells l.toList=none/\Instr.fill place z.cells l'.toList=none):=λplace=>fill_rel place _ _ _ _ (by simpa using hl.size) (λi p p' h1 h2=>hl.el i p p' (by simpa using h1) (by simpa using h2)) hzc;dsimp only;refine re_eq (re_underlying' t) λd=>?_;split;refine re_eq (re_mapMA _ (λf=>re_eq (re_sizeOf _) λn=>re_pure rfl) _) λplaces=>?_;rcases hparts (places[·]?)with⟨d,d',e1,e2,hd⟩|⟨e1,e2⟩;rw[e1,e2];exact re_pure (V.ofAgg hd);rw[e1,e2];exact trivial;refine re_eq (re_sizeOf _) λsize=>?_;rcases hparts (λi=>some (i*size,size))with⟨d,d',e1,e2,hd⟩|⟨e1,e2⟩;rw[e1,e2];exact re_pure (V.ofAgg hd);rw[e1,e2];exact trivial;exact trivial
def VA.zeros{z:Array Value}(hz:∀(i:Nat) v,z[i]? =some v->Clean v) n:VA E X ((Array.range n).map (z[· % z.size]!)) ((Array.range n).map (z[· % z.size]!)):=by
 refine VA.map _ _ _ λa ha=>?_;have hc:Clean (z[a % z.size]!):=by rw[getElem!_def];cases hh:z[a % z.size]? with|none=>exact(Clean.bool false:Clean (.bool false)) |> λ_=>(show Clean (default:Value)from .bool false)|some v=>exact hz _ _ hh
 exact hc.self X
def cells_cases(z:Value):(∃a,z=.agg a)∨z.cells=#[z]:=by cases z<;>first|exact .inl ⟨_,rfl⟩|exact .inr rfl
def Clean.cells{z}(h:Clean z):∀(i:Nat) v,z.cells[i]? =some v->Clean v:=by
 rcases cells_cases z with⟨a,rfl⟩|e;cases h with|agg _ h=>exact h
 intro i v hv;rw[e]at hv;have:=Array.mem_of_getElem? hv;simp at this;subst this;exact h
def rg_buildSlice t (hz : ∀ e, P.underlying t = some (.slice e) -> ZeroOK P e) n {l l'} (hl : PR E X l l') : RG P E (λX' v v' => V E X' v v') X (Instr.buildSlice t n l) (Instr.buildSlice t n l') := by
  unfold Instr.buildSlice
  refine re_bind (re_underlying t) ?_
  rintro d d' ⟨e, hu⟩
  subst e
  split
  · rename_i elem
    refine re_eq (re_sizeOf _) λsize => ?_
    dsimp only
    refine rg_ite trivial ?_
    have hfin : ∀ z : Array Value, (∀ (i : Nat) v, z[i]? = some v -> Clean v) -> RG P E (λX' v v' => V E X' v v') X
        (match Instr.fill (λi => some (i * size, size)) ((Array.range (n * size)).map (z[· % z.size]!)) l.toList with
          | some cells => do pure (.slice (some (<- newRow elem cells)) n n)
          | _ => stuck "buildSlice: a part of the wrong size")
        (match Instr.fill (λi => some (i * size, size)) ((Array.range (n * size)).map (z[· % z.size]!)) l'.toList with
          | some cells => do pure (.slice (some (<- newRow elem cells)) n n)
          | _ => stuck "buildSlice: a part of the wrong size") := by
      intro z hc
      rcases fill_rel (E := E) (X := X) (λi => some (i * size, size)) l.toList l'.toList _ _ (by simpa using hl.size) (λi p p' h1 h2 => hl.el i p p' (by simpa using h1) (by simpa using h2)) (VA.zeros hc (n * size)) with ⟨d, d', e1, e2, hd⟩ | ⟨e1, e2⟩
      · rw [e1, e2]
        refine rg_bind (rg_newRow elem hd) ?_
        rintro Y a a' ⟨_, ha⟩
        rw [ha.eq]
        exact ⟨_, rfl, .slice _ _ _ _ _ _ ha.1⟩
      · rw [e1, e2]; exact trivial
    refine rg_ite ?_ ?_
    · exact re_bind (R := λa b => a = #[] /\ b = #[]) (re_pure ⟨rfl, rfl⟩) (λa b ⟨e1, e2⟩ => by subst e1; subst e2; exact hfin _ (λi v h => by simp at h))
    · refine re_bind (re_zeroValue _ (hz _ hu)) ?_
      rintro z z' ⟨e, hc⟩
      subst e
      exact re_bind (R := λa b => a = z.cells /\ b = z.cells) (re_pure ⟨rfl, rfl⟩) (λa b ⟨e1, e2⟩ => by subst e1; subst e2; exact hfin _ hc.cells)
  · exact trivial
def SizesOK(P:Program)(t:TypeId):Prop:=∀(fs:Array Field)(f:Field)(i:TypeInfo)(n:Nat),P.underlying t=some (.struct fs)->fs[n]? =some f->P.info? f.type=some i->i.size≠0
def re_fieldAt t(hs:SizesOK P t){v v'}(hv:V E X v v') n:RE P E (V E X) X (Instr.fieldAt t v n) (Instr.fieldAt t v' n):=by
 unfold Instr.fieldAt;refine re_bind (re_underlying t) ?_;rintro d d'⟨e,hu⟩;subst e;split;rename_i fields;split;rename_i f hf;refine re_bind (re_sureAddr hv) λa a' ha=>?_;have hp:RE P E (AR E X) X (fieldPlace a f) (fieldPlace a' f):=by
  unfold fieldPlace;have hsz:RE P E (λx y=>x=y/\x≠0) X (sizeOf f.type) (sizeOf f.type):=by unfold sizeOf;refine re_bind (re_typeInfo f.type) ?_;rintro i i'⟨e,hi⟩;subst e;exact re_pure ⟨rfl,hs _ _ _ _ hu hf hi⟩
  refine re_bind hsz ?_;rintro x y⟨e,hne⟩;subst e;rw[if_neg hne,if_neg hne];exact re_pure (ha.add _)
 refine re_bind hp λa a' ha=>?_;rw[ha.eq];exact re_pure (.ptr _ _ _ _ ha.1);exact trivial;exact trivial
def re_place (n : Int) k (len : Nat) elem tiny {a a'} (ha : AR E X a a') : RE P E (V E X) X
    (if 0 <= n /\ n < len then do pure (.pointer (some (a.add (n.toNat * (<- sizeOf elem)))))
      else if tiny = true then unsupported (.noEntry "op/indexAddr.an index out of range at an array of length 0 or 1 (ledger 616)") else boundsPanic k n len .index)
    (if 0 <= n /\ n < len then do pure (.pointer (some (a'.add (n.toNat * (<- sizeOf elem)))))
      else if tiny = true then unsupported (.noEntry "op/indexAddr.an index out of range at an array of length 0 or 1 (ledger 616)") else boundsPanic k n len .index) := by
  refine rg_ite ?_ (rg_ite trivial (rg_boundsPanic _ _ _ _))
  refine re_eq (re_sizeOf _) λm => ?_
  have := ha.add (n.toNat * m)
  rw [this.eq]
  exact re_pure (.ptr _ _ _ _ this.1)
def re_indexAt t{v v' i i'}(hv:V E X v v')(hi:V E X i i'):RE P E (V E X) X (Instr.indexAt t v i) (Instr.indexAt t v' i'):=by
 unfold Instr.indexAt;refine re_bind (re_asIntOf hi) ?_;rintro⟨k,n⟩_ rfl;dsimp only;refine re_eq (re_underlying' t) λd=>?_;cases d with
 |array len elem=>refine re_bind (re_sureAddr hv) λa a' ha=>?_;refine re_bind (R:=λx y=>x=(some a,len,elem)/\y=(some a',len,elem)) (re_pure ⟨rfl,rfl⟩) ?_;rintro _ _⟨rfl,rfl⟩;refine re_eq (re_underlying' t) λd2=>?_;exact re_place n k len elem _ ha
 |slice elem=>
  cases hv with
  |sliceN m c=>refine re_bind (R:=λx y=>x=(none,m,elem)/\y=(none,m,elem)) (re_pure ⟨rfl,rfl⟩) ?_;rintro _ _⟨rfl,rfl⟩;refine re_eq (re_underlying' t) λd2=>?_;exact rg_boundsPanic _ _ _ _
  |slice r b o s m c h=>refine re_bind (R:=λx y=>x=(some ⟨r,o,s⟩,m,elem)/\y=(some ⟨b,o,s⟩,m,elem)) (re_pure ⟨rfl,rfl⟩) ?_;rintro _ _⟨rfl,rfl⟩;refine re_eq (re_underlying' t) λd2=>?_;exact re_place n k m elem _ ⟨h,rfl,rfl⟩
  |_=>exact trivial
 |_=>exact trivial
inductive VO(E:Env)(X:List Nat):Option Value->Option Value->Prop
 |none:VO E X none none
 |some {v v':Value} (h:V E X v v'):VO E X (some v) (some v')
def re_sliceBound{v v'}(hv:V E X v v') y c:RE P E Eq X (Instr.sliceBound v y c) (Instr.sliceBound v' y c):=by unfold Instr.sliceBound;refine re_bind (re_asIntOf hv) ?_;rintro⟨k,n⟩_ rfl;exact re_ite (re_pure rfl) (rg_boundsPanic _ _ _ _)
def re_sliceBounds b len cap {l l' h h' m m'} (hl : VO E X l l') (hh : VO E X h h') (hm : VO E X m m') : RE P E Eq X (Instr.sliceBounds b len cap l h m) (Instr.sliceBounds b len cap l' h' m') := by
  unfold Instr.sliceBounds
  have hlow : ∀ (hi mx : Nat) (b2 b3 : Bool), b2 = b3 -> RE P E Eq X
      (do let l <- match l with
            | some v => Instr.sliceBound v hi (if b2 then .slice3C else .sliceB)
            | none => pure 0
          pure (l, hi, mx))
      (do let l <- match l' with
            | some v => Instr.sliceBound v hi (if b3 then .slice3C else .sliceB)
            | none => pure 0
          pure (l, hi, mx)) := by
    intro hi mx b2 b3 e
    subst e
    cases hl with
    | none => exact re_pure rfl
    | some hv => exact re_bind (re_sliceBound hv _ _) λa a' e => by subst e; exact re_pure rfl
  cases hm with
  | none =>
    refine re_eq (re_pure rfl) λmx => ?_
    cases hh with
    | none => exact re_eq (re_pure rfl) λhi => hlow _ _ _ _ rfl
    | some hv => exact re_bind (re_sliceBound hv _ _) λa a' e => by subst e; exact hlow _ _ _ _ rfl
  | some hv =>
    refine re_bind (re_sliceBound hv _ _) λmx mx' e => ?_
    subst e
    cases hh with
    | none => exact trivial
    | some hv => exact re_bind (re_sliceBound hv _ _) λa a' e => by subst e; exact hlow _ _ _ _ rfl
def re_slice t{v v'}(hv:V E X v v'){l l' h h' m m'}(hl:VO E X l l')(hh:VO E X h h')(hm:VO E X m m'):RE P E (V E X) X (Instr.slice t v l h m) (Instr.slice t v' l' h' m'):=by
 unfold Instr.slice;refine re_eq (re_underlying' t) λd=>?_;cases d with
 |string=>
  cases hv with
  |string s=>
   cases hm with
   |none=>refine re_bind (re_sliceBounds _ _ _ hl hh .none) ?_;rintro⟨a,b,c⟩_ rfl;exact re_pure (.string _)
   |some _=>exact trivial
  |_=>exact trivial
 |slice elem=>
  cases hv with
  |sliceN n c=>refine re_bind (re_sliceBounds _ _ _ hl hh hm) ?_;rintro⟨a,b,c⟩_ rfl;refine re_eq (re_sizeOf _) λz=>?_;split<;>exact re_pure (.sliceN _ _)
  |slice r b o s n c hr=>refine re_bind (re_sliceBounds _ _ _ hl hh hm) ?_;rintro⟨x,y,z⟩_ rfl;refine re_eq (re_sizeOf _) λq=>?_;split;exact re_pure (.slice _ _ _ _ _ _ hr);have ha:AR E X ((⟨r,o,s⟩:Addr).add (x*q)) ((⟨b,o,s⟩:Addr).add (x*q)):=AR.add (show AR E X ⟨r,o,s⟩ ⟨b,o,s⟩from⟨hr,rfl,rfl⟩) _;simp only[Option.map_some];rw[ha.eq];exact re_pure (.slice _ _ _ _ _ _ ha.1)
  |_=>exact trivial
 |pointer arr=>refine re_bind (re_asAddr hv) λa a' ha=>?_;refine re_eq (re_underlying' arr) λd2=>?_;split;refine re_bind (re_sliceBounds _ _ _ hl hh hm) ?_;rintro⟨x,y,z⟩_ rfl;refine re_eq (re_sizeOf _) λq=>?_;split;rw[ha.eq];exact re_pure (.slice _ _ _ _ _ _ ha.1);have hb:=ha.add (x*q);rw[hb.eq];exact re_pure (.slice _ _ _ _ _ _ hb.1);exact trivial
 |_=>cases hv<;>exact trivial
def re_sliceAt t{v v'}(hv:V E X v v'){l l' h h' m m'}(hl:VO E X l l')(hh:VO E X h h')(hm:VO E X m m'):RE P E (V E X) X (Instr.sliceAt t v l h m) (Instr.sliceAt t v' l' h' m'):=by unfold Instr.sliceAt;refine re_eq (re_underlying' t) λd=>?_;split;refine re_bind (re_sureAddr hv) λa a' ha=>?_;refine re_bind (re_sliceBounds _ _ _ hl hh hm) ?_;rintro⟨x,y,z⟩_ rfl;refine re_eq (re_sizeOf _) λq=>?_;split;rw[ha.eq];exact re_pure (.slice _ _ _ _ _ _ ha.1);have hb:=ha.add (x*q);rw[hb.eq];exact re_pure (.slice _ _ _ _ _ _ hb.1);exact re_slice t hv hl hh hm
def re_index t{v v' i i'}(hv:V E X v v')(hi:V E X i i'):RE P E (V E X) X (Instr.index t v i) (Instr.index t v' i'):=by
 unfold Instr.index;refine re_bind (re_asIntOf hi) ?_;rintro⟨k,n⟩_ rfl;dsimp only;refine re_eq (re_underlying' t) λd=>?_;cases d with
 |array len elem=>cases hv with|agg a a' h1 h2=>refine rg_ite ?_ (rg_boundsPanic _ _ _ _);exact re_eq (re_sizeOf _) λm=>re_part elem ⟨h1,h2⟩ _|_=>exact trivial
 |string=>cases hv with|string s=>dsimp only;split;exact re_pure (.int _ _);exact rg_boundsPanic _ _ _ _|_=>exact trivial
 |_=>cases hv<;>exact trivial
def re_extract i{v v'}(hv:V E X v v'):RE P E (V E X) X (Instr.extract v i) (Instr.extract v' i):=by
 cases hv with
 |tuple a a' h1 h2=>unfold Instr.extract;dsimp only;rcases(VA.mk h1 h2:VA E X a a').get i with⟨x,x',e1,e2,hx⟩|⟨e1,e2⟩;rw[e1,e2];exact re_pure hx;rw[e1,e2];exact trivial
 |_=>exact trivial
def re_bytesToString{v v'}(hv:V E X v v'):RE P E (V E X) X (Conv.bytesToString v) (Conv.bytesToString v'):=by
 cases hv with
 |sliceN n c=>exact re_pure (.string _)|slice r b o s n c h=>
  unfold Conv.bytesToString;refine re_bind (re_loadCells (show AR E X ⟨r,o,s⟩ ⟨b,o,s⟩from⟨h,rfl,rfl⟩) n) λc c' hc=>?_;have key:∀(l l':List Value)(s:ByteArray),VA E X l.toArray l'.toArray->RE P E Eq X
    (forIn l s λc r=>match c with
     |.int .u8 n=>pure (ForInStep.yield (r.push (UInt8.ofNat n.toNat)))
     |_=>stuck "bytesToString: byte expected" :Sem ByteArray)
    (forIn l' s λc r=>match c with
     |.int .u8 n=>pure (ForInStep.yield (r.push (UInt8.ofNat n.toNat)))
     |_=>stuck "bytesToString: byte expected" :Sem ByteArray):=by
   intro l;induction l with
   |nil=>
    intro l' s hl;have:l'=[]:=List.eq_nil_of_length_eq_zero (by have:=hl.size;simpa using this.symm)
    subst this;exact re_pure rfl
   |cons x l ih=>
    intro l' s hl;cases l' with
    |nil=>have:=hl.size;simp at this
    |cons x' l'=>
     have hx:=hl.el 0 x x' (by simp) (by simp)
     have hl':VA E X l.toArray l'.toArray:=⟨by have:=hl.size;simpa using this,λj y y' h1 h2=>hl.el (j+1) y y' (by simpa using h1) (by simpa using h2)⟩
     rw[List.forIn_cons,List.forIn_cons];cases hx with
     |int k n=>
      cases k<;>first|exact trivial|(refine re_bind (R:=λx y=>x=ForInStep.yield (s.push (UInt8.ofNat n.toNat))/\y=x) (re_pure ⟨rfl,rfl⟩) ?_;rintro _ _ ⟨rfl,rfl⟩;exact ih l' _ hl')
     |_=>exact trivial
  dsimp only;rw[<-Array.forIn_toList,<-Array.forIn_toList];refine re_bind (key c.toList c'.toList _ (by simpa using hc)) ?_;rintro s _ rfl;exact re_pure (.string _)
 |_=>exact trivial
def lone_norm{Ψ}:∀ {s t:Sem α}{s':Sem α},norm P s=norm P t->RG P E Ψ X s s'->RG P E Ψ X t s':=by
 have key:∀(t s':Sem α),RG P E Ψ X (norm P t) s'->RG P E Ψ X t s':=by intro t;induction t with|program k ih=>intro s' h;exact ih P s' h|_=>intro s' h;exact h
 have key2:∀(t s':Sem α),RG P E Ψ X t s'->RG P E Ψ X (norm P t) s':=by intro t;induction t with|program k ih=>intro s' h;exact ih P s' h|_=>intro s' h;exact h
 intro s t s' e h;exact key t s' (e▸key2 s s' h)
def norm_underlying{t d}(h:P.underlying t=some d):norm P (underlying t)=.pure d:=by show norm P (match P.underlying t with|some d=>pure d|none=>stuck "no such type")=_;rw[h];rfl
def lone_underlying{Ψ t d}(h:P.underlying t=some d){f:TypeDesc->Sem α}{s'}(hf:RG P E Ψ X (f d) s'):RG P E Ψ X (underlying t >>= f) s':=by refine lone_norm ?_ hf;show _=norm P ((underlying t).bind f);rw[norm_bind,norm_underlying h];rfl
def ConvOK(P:Program)(src dst:TypeId):Prop:=(∃k j,P.underlying dst=some (.int k)/\P.underlying src=some (.int j))∨(P.underlying dst=some .string/\∃e,P.underlying src=some (.slice e)/\P.underlying e=some (.int .u8))
def re_convert src dst(h:ConvOK P src dst){v v'}(hv:V E X v v'):RE P E (V E X) X (convert src dst v) (convert src dst v'):=by
 unfold convert;refine re_bind (re_underlying src) ?_;rintro ds _⟨rfl,hs⟩;refine re_bind (re_underlying dst) ?_;rintro dd _⟨rfl,hd⟩;rcases h with⟨k,j,h1,h2⟩|⟨h1,e,h2,h3⟩;rw[h1]at hd;rw[h2]at hs;cases hd;cases hs;cases hv with|int j n=>exact re_pure (.int _ _)|_=>exact trivial
 rw[h1]at hd;rw[h2]at hs;cases hd;cases hs;have hu:RE P E (λa b=>a=.int .u8/\b=.int .u8) X (underlying e) (underlying e):=re_mono (re_underlying e) λa b ⟨e1,e2⟩=>by subst e1;rw[h3]at e2;cases e2;exact⟨rfl,rfl⟩
 cases hv with
 |int k n=>exact re_pure (.string _)|string s=>exact re_pure (.string _)
 |slice r b o s n c h=>refine re_bind hu ?_;rintro _ _⟨rfl,rfl⟩;exact re_bytesToString (.slice r b o s n c h)
 |sliceN n c=>refine re_bind hu ?_;rintro _ _⟨rfl,rfl⟩;exact re_bytesToString (.sliceN n c)
 |_=>exact lone_underlying h3 trivial
def re_intArith op k a b:RE P E (V E X) X (Op.intArith op k a b) (Op.intArith op k a b):=by unfold Op.intArith;cases op<;>first|exact re_pure (.int _ _)|exact trivial
def re_intBits op k a b:RE P E (V E X) X (Op.intBits op k a b) (Op.intBits op k a b):=by unfold Op.intBits;dsimp only;cases op<;>first|exact re_pure (.int _ _)|exact trivial
def re_intCmp op a b:RE P E (V E X) X (Op.intCmp op a b) (Op.intCmp op a b):=by unfold Op.intCmp;cases op<;>first|exact re_pure (.bool _)|exact trivial
def re_shift op k j a b:RE P E (V E X) X (Op.shift op k a j b) (Op.shift op k a j b):=by unfold Op.shift;split;refine rg_panic ?_;exact trivial;dsimp only;cases op<;>first|exact re_pure (.int _ _)|exact trivial
def BinOK(op:BinOp):Prop:=match op with
 |.add|.sub|.mul|.and|.or|.xor|.shl|.shr|.lss|.geq=>True
 |_=>False
def re_numberAt{r b}(h:At E X r b):RE P E (λx y=>x=none/\y=none∨∃a a' l,x=some (a,l)/\y=some (a',l)/\AR E X a a') X (numberAt r) (numberAt b):=by unfold numberAt;refine re_bind (R:=Eq) (re_shape h) λz _ e=>?_;subst e;cases z with|some z=>exact re_pure (.inl ⟨rfl,rfl⟩)|none=>refine re_bind (re_getObj h) λo o' ho=>?_;cases ho with|number r b o s l h=>exact re_pure (.inr ⟨_,_,l,rfl,rfl,h,rfl,rfl⟩)|_=>exact re_pure (.inl ⟨rfl,rfl⟩)
def re_viewAt{r b}(h:At E X r b):RE P E (λx y=>x=none/\y=none) X (viewAt r) (viewAt b):=by unfold viewAt;refine re_bind (R:=Eq) (re_shape h) λz _ e=>?_;subst e;cases z with|some z=>exact re_pure ⟨rfl,rfl⟩|none=>refine re_bind (re_getObj h) λo o' ho=>?_;cases ho<;>exact re_pure ⟨rfl,rfl⟩
def re_behindNumber{a a'}(h:AR E X a a'):RE P E (λx y=>AR E X x.1 y.1/\x.2=y.2) X (behindNumber a) (behindNumber a'):=by unfold behindNumber;refine re_bind (re_numberAt h.1) λx y hxy=>?_;rcases hxy with⟨rfl,rfl⟩|⟨b,b',l,rfl,rfl,hb⟩;exact re_pure ⟨h,rfl⟩;exact re_pure ⟨hb,rfl⟩
def re_noView{a a'}(h:AR E X a a'):RE P E (λ_ _=>True) X (noView a) (noView a'):=by unfold noView;refine re_bind (re_viewAt h.1) ?_;rintro _ _⟨rfl,rfl⟩;exact re_pure trivial
def re_byteOf{a a'}(h:AR E X a a'):RE P E Eq X (byteOf a) (byteOf a'):=by unfold byteOf;rw[h.2.2];cases a.spot with|some s=>exact re_pure rfl|none=>refine re_prog ?_;refine re_bind (re_noView h) λ_ _ _=>?_;refine re_bind (R:=Eq) (re_shape h.1) λz _ e=>?_;subst e;cases z with|none=>exact trivial|some z=>refine re_ite (re_pure rfl) ?_;rw[h.2.1];split;exact re_pure rfl;exact trivial
def PP(E:Env)(X:List Nat)(v v':Value):Prop:=∃a a',v=.pointer (some a)/\v'=.pointer (some a')/\AR E X a a'
def PP.v{v v'}(h:PP E X v v'):V E X v v':=by obtain⟨a,a',rfl,rfl,ha⟩:=h;rw[ha.eq];exact .ptr _ _ _ _ ha.1
def re_unsafeAdd ts t{a a'}(h:a=none/\a'=none∨∃b b',a=some b/\a'=some b'/\AR E X b b'){v v'}(hv:V E X v v'):RE P E (PP E X) X (Builtin.unsafeAdd_ ts t #[.pointer a,v]) (Builtin.unsafeAdd_ ts t #[.pointer a',v']):=by unfold Builtin.unsafeAdd_;dsimp only;refine re_bind (R:=Eq) (re_asInt hv) λn _ e=>?_;subst e;rcases h with⟨rfl,rfl⟩|⟨b,b',rfl,rfl,hb⟩;refine rg_ite trivial (rg_ite trivial trivial);refine rg_ite ?_ (rg_ite trivial ?_);refine re_bind (re_viewAt hb.1) ?_;rintro _ _⟨rfl,rfl⟩;exact re_pure ⟨b,b',rfl,rfl,hb⟩;refine re_bind (R:=Eq) (re_shape hb.1) λz _ e=>?_;subst e;cases z with|none=>exact trivial|some z=>refine re_prog ?_;rw[hb.2.1];split;exact re_pure ⟨_,_,rfl,rfl,hb.1,rfl,hb.2.2⟩;exact trivial
def rg_asNumber{a a'}(h:AR E X a a') l:RG P E (λX' v v'=>V E X' v v') X (asNumber a l) (asNumber a' l):=by unfold asNumber;rw[h.eq];refine rg_bind (rg_newObj (.number a.block a'.block a.off a.spot l h.1)) ?_;rintro Y r b⟨_,hr⟩;exact⟨_,rfl,.ptr _ _ _ _ hr⟩
def rg_movedNumber t{a a'}(h:a=none/\a'=none∨∃b b',a=some b/\a'=some b'/\AR E X b b'){y y'}(hy:V E X y y'):RG P E (λX' v v'=>V E X' v v') X (movedNumber t (.pointer a) y) (movedNumber t (.pointer a') y'):=by unfold movedNumber;refine re_eq (re_underlying' t) λd=>?_;dsimp only;refine rg_ite trivial ?_;rcases h with⟨rfl,rfl⟩|⟨b,b',rfl,rfl,hb⟩;have:=re_unsafeAdd (P:=P) (E:=E) (X:=X) #[] t (.inl ⟨rfl,rfl⟩) hy;exact re_rg this λ_ _ h=>h.v;refine re_bind (re_behindNumber hb) ?_;rintro⟨a,l⟩⟨a',l'⟩⟨ha,hl⟩;dsimp only at ha hl|-;subst hl;refine re_bind (re_unsafeAdd #[] t (.inr ⟨a,a',rfl,rfl,ha⟩) hy) ?_;rintro _ _⟨c,c',rfl,rfl,hc⟩;exact rg_asNumber hc l
def rg_movedPointer t{a a'}(h:a=none/\a'=none∨∃b b',a=some b/\a'=some b'/\AR E X b b'){y y'}(hy:V E X y y'):RG P E (λX' v v'=>V E X' v v') X (movedPointer t (.pointer a) y) (movedPointer t (.pointer a') y'):=by unfold movedPointer;rcases h with⟨rfl,rfl⟩|⟨b,b',rfl,rfl,hb⟩;exact re_rg (re_unsafeAdd (P:=P) (E:=E) (X:=X) #[] t (.inl ⟨rfl,rfl⟩) hy) λ_ _ h=>h.v;dsimp only;refine re_bind (re_numberAt hb.1) λx y hxy=>?_;have hgo:=re_rg (Ψ:=λX' v v'=>V E X' v v') (re_unsafeAdd (P:=P) (E:=E) (X:=X) #[] t (.inr ⟨b,b',rfl,rfl,hb⟩) hy) λ_ _ h=>h.v;rcases hxy with⟨rfl,rfl⟩|⟨_,_,l,rfl,rfl,_⟩;exact hgo;exact trivial
def re_twoPlaces{a a' b b'}(hG:P.globals.size<=E.G)(ha:AR E X a a')(hb:AR E X b b'){Ψ}:RG P E Ψ X (Op.twoPlaces a b) (Op.twoPlaces a' b'):=by
 unfold Op.twoPlaces;refine lone_norm (s:=.halt (.unsupported .addressObserved)) ?_ trivial;have:(a.block != b.block || decide (a.block≥P.globals.size))=true:=by have:=ha.1.1;simp;right;omega
 show _=norm P (if(a.block != b.block || decide (a.block≥P.globals.size))=true then _ else _);rw[if_pos this];rfl
def re_addrMod{a a'}(ha:AR E X a a') k n:RE P E (V E X) X (Op.addrMod k a n) (Op.addrMod k a' n):=by unfold Op.addrMod;refine re_bind (R:=Eq) (re_shape ha.1) λz _ e=>?_;subst e;cases z with|none=>exact trivial|some z=>refine re_eq (re_typeInfo' _) λi=>?_;dsimp only;refine rg_ite trivial ?_;refine re_bind (R:=Eq) (re_byteOf ha) λx _ e=>?_;subst e;exact re_pure (.int _ _)
def re_stringOp op a b:RE P E (V E X) X (Op.stringOp op a b) (Op.stringOp op a b):=by unfold Op.stringOp;dsimp only;cases op<;>first|exact re_pure (.bool _)|exact rg_ite trivial (re_pure (.string _))|exact trivial
def numV:Value->Bool
 |.int _ _|.string _|.pointer _|.float _ _|.complex _ _ _=>true|_=>false
def bin_off1 op(h:BinOK op) t:∀x y,numV x=false->∃k,NoInit k/\binOp op t x y=.halt k:=by
 intro x y hx;cases op<;>first
  |exact h.elim
  |(cases x<;>first
    |exact Bool.noConfusion hx
    |(cases y<;>first|(refine⟨_,?_,rfl⟩;exact trivial)|(rename_i a;cases a<;>(refine⟨_,?_,rfl⟩;exact trivial))))
def bin_off2 op(h:BinOK op) t:∀x y,numV y=false->∃k,NoInit k/\binOp op t x y=.halt k:=by
 intro x y hx;cases op<;>first
  |exact h.elim
  |(cases y<;>first
    |exact Bool.noConfusion hx
    |(cases x<;>first|(refine⟨_,?_,rfl⟩;exact trivial)|(rename_i a;cases a<;>(refine⟨_,?_,rfl⟩;exact trivial))))
def rg_halt{Ψ}{s s':Sem α}(h:∃k,NoInit k/\s=.halt k):RG P E Ψ X s s':=by obtain⟨k,hk,rfl⟩:=h;exact hk
def rg_binInts op(h:BinOK op) t k j a b:RE P E (V E X) X (binOp op t (.int k a) (.int j b)) (binOp op t (.int k a) (.int j b)):=by
 cases op<;>first
  |exact h.elim
  |exact rg_ite trivial (re_intArith _ _ _ _)
  |exact rg_ite trivial (re_intBits _ _ _ _)
  |exact rg_ite trivial (re_intCmp _ _ _)
  |exact re_shift .shl k j a b
  |exact re_shift .shr k j a b
def AO(E:Env)(X:List Nat)(a a':Option Addr):Prop:=a=none/\a'=none∨∃b b',a=some b/\a'=some b'/\AR E X b b'
def ao{r b o s}(h:At E X r b):AO E X (some ⟨r,o,s⟩) (some ⟨b,o,s⟩):=.inr ⟨_,_,rfl,rfl,h,rfl,rfl⟩
def rg_bin2 {a a' b b'} (ha : AR E X a a') (hb : AR E X b b') {Ψ} {f f' : Addr -> Addr -> Sem Value} (hf : ∀ c c' d d', AR E X c c' -> AR E X d d' -> RG P E Ψ X (f c d) (f' c' d')) :
    RG P E Ψ X (do f (<- behindNumber a).1 (<- behindNumber b).1) (do f' (<- behindNumber a').1 (<- behindNumber b').1) := by
  refine re_bind (re_behindNumber ha) ?_
  rintro x y ⟨h1, _⟩
  refine re_bind (re_behindNumber hb) ?_
  rintro u v ⟨h2, _⟩
  exact hf _ _ _ _ h1 h2
def rg_two{a a' b b'}(hG:P.globals.size<=E.G)(ha:AR E X a a')(hb:AR E X b b'){Ψ}{f f':Nat×Nat->Sem Value}:RG P E Ψ X (Op.twoPlaces a b >>= f) (Op.twoPlaces a' b' >>= f'):=SemR.bind (Φ:=λ_ _ _=>False) (λ_ _ _ h=>h.elim) (re_twoPlaces hG ha hb)
def rg_binPtrInt op(h:BinOK op) t{a a'}(ha:AO E X a a') k n:RG P E (λX' v v'=>V E X' v v') X (binOp op t (.pointer a) (.int k n)) (binOp op t (.pointer a') (.int k n)):=by
 cases op<;>first
  |exact h.elim
  |exact trivial
  |exact re_eq (re_underlying' t) λd=>rg_ite (rg_movedPointer t ha (.int _ _)) (rg_movedNumber t ha (.int _ _))
  |exact rg_movedNumber t ha (.int _ _)
  |skip
 case lss=>rcases ha with⟨rfl,rfl⟩|⟨b,b',rfl,rfl,hb⟩<;>exact trivial
 case geq=>rcases ha with⟨rfl,rfl⟩|⟨b,b',rfl,rfl,hb⟩<;>exact trivial
 case and=>rcases ha with⟨rfl,rfl⟩|⟨b,b',rfl,rfl,hb⟩;exact trivial;refine re_bind (re_behindNumber hb) ?_;rintro x y⟨h1,_⟩;exact re_rg (re_addrMod h1 _ _) λ_ _ h=>h
def rg_binIntPtr op(h:BinOK op) t{a a'}(ha:AO E X a a') k n:RG P E (λX' v v'=>V E X' v v') X (binOp op t (.int k n) (.pointer a)) (binOp op t (.int k n) (.pointer a')):=by
 cases op<;>first
  |exact h.elim
  |exact trivial
  |exact rg_movedNumber t ha (.int _ _)
  |skip
 case and=>rcases ha with⟨rfl,rfl⟩|⟨b,b',rfl,rfl,hb⟩;exact trivial;refine re_bind (re_behindNumber hb) ?_;rintro x y⟨h1,_⟩;exact re_rg (re_addrMod h1 _ _) λ_ _ h=>h
def rg_binPtrPtr op(h:BinOK op) t(hG:P.globals.size<=E.G){a a' b b'}(ha:AO E X a a')(hb:AO E X b b'):RG P E (λX' v v'=>V E X' v v') X (binOp op t (.pointer a) (.pointer b)) (binOp op t (.pointer a') (.pointer b')):=by
 rcases ha with⟨rfl,rfl⟩|⟨c,c',rfl,rfl,hc⟩;rcases hb with⟨rfl,rfl⟩|⟨d,d',rfl,rfl,hd⟩<;>cases op<;>first|exact h.elim|exact trivial
 rcases hb with⟨rfl,rfl⟩|⟨d,d',rfl,rfl,hd⟩;cases op<;>first|exact h.elim|exact trivial
 cases op;case sub=>exact rg_bin2 (f:=λa b=>Op.addrSub .u64 a b) (f':=λa b=>Op.addrSub .u64 a b) hc hd λ_ _ _ _ h1 h2=>rg_two hG h1 h2
 case lss=>exact rg_bin2 (f:=λa b=>Op.addrCmp .lss a b) (f':=λa b=>Op.addrCmp .lss a b) hc hd λ_ _ _ _ h1 h2=>rg_two hG h1 h2
 case geq=>exact rg_bin2 (f:=λa b=>Op.addrCmp .geq a b) (f':=λa b=>Op.addrCmp .geq a b) hc hd λ_ _ _ _ h1 h2=>rg_two hG h1 h2
 all_goals first|exact h.elim|exact trivial
def rg_binOp op(h:BinOK op) t(hG:P.globals.size<=E.G){x x' y y'}(hx:V E X x x')(hy:V E X y y'):RG P E (λX' v v'=>V E X' v v') X (binOp op t x y) (binOp op t x' y'):=by
 have hst:∀k n s,∃z,NoInit z/\binOp op t (.int k n) (.string s)=.halt z:=λk n s=>by cases op<;>first|exact h.elim|(refine⟨_,?_,rfl⟩;exact trivial)
 have hts:∀k n s,∃z,NoInit z/\binOp op t (.string s) (.int k n)=.halt z:=λk n s=>by cases op<;>first|exact h.elim|(refine⟨_,?_,rfl⟩;exact trivial)
 have hps:∀a s,∃z,NoInit z/\binOp op t (.string s) (.pointer a)=.halt z:=λa s=>by cases a<;>cases op<;>first|exact h.elim|(refine⟨_,?_,rfl⟩;exact trivial)
 have hsp:∀a s,∃z,NoInit z/\binOp op t (.pointer a) (.string s)=.halt z:=λa s=>by cases a<;>cases op<;>first|exact h.elim|(refine⟨_,?_,rfl⟩;exact trivial)
 have hss:∀a b,binOp op t (.string a) (.string b)=Op.stringOp op a b:=λa b=>by cases op<;>first|exact h.elim|rfl
 by_cases hn:numV x=true/\numV y=true;obtain⟨h1,h2⟩:=hn;have hAO:∀ {v v'},V E X v v'->∀a,v=.pointer a->∃a',v'=.pointer a'/\AO E X a a':=by
  intro v v' hv a e;cases hv with
  |ptrN=>cases e;exact⟨_,rfl,.inl ⟨rfl,rfl⟩⟩
  |ptr r b o s h=>cases e;exact⟨_,rfl,.inr ⟨_,_,rfl,rfl,h,rfl,rfl⟩⟩
  |_=>cases e
 cases hx with
 |int k n=>cases hy with|int j m=>exact re_rg (rg_binInts op h t k j n m) λ_ _ h=>h|string s=>exact rg_halt (hst _ _ _)|ptrN=>exact rg_binIntPtr op h t (.inl ⟨rfl,rfl⟩) k n|ptr r b o s hr=>exact rg_binIntPtr op h t (ao hr) k n|_=>cases h2
 |string s=>cases hy with|int j m=>exact rg_halt (hts _ _ _)|string s2=>rw[hss];exact re_rg (re_stringOp op s s2) λ_ _ h=>h|ptrN=>exact rg_halt (hps _ _)|ptr r b o s hr=>exact rg_halt (hps _ _)|_=>cases h2
 |ptrN=>cases hy with|int j m=>exact rg_binPtrInt op h t (.inl ⟨rfl,rfl⟩) j m|string s=>exact rg_halt (hsp _ _)|ptrN=>exact rg_binPtrPtr op h t hG (.inl ⟨rfl,rfl⟩) (.inl ⟨rfl,rfl⟩)|ptr r b o s hr=>exact rg_binPtrPtr op h t hG (.inl ⟨rfl,rfl⟩) (ao hr)|_=>cases h2
 |ptr r b o s hr=>cases hy with|int j m=>exact rg_binPtrInt op h t (ao hr) j m|string s=>exact rg_halt (hsp _ _)|ptrN=>exact rg_binPtrPtr op h t hG (ao hr) (.inl ⟨rfl,rfl⟩)|ptr r b o s hr2=>exact rg_binPtrPtr op h t hG (ao hr) (ao hr2)|_=>cases h2
 |_=>cases h1
 cases hnx:numV x with|false=>exact rg_halt (bin_off1 op h t x y hnx)|true=>cases hny:numV y with|false=>exact rg_halt (bin_off2 op h t x y hny)|true=>exact absurd ⟨hnx,hny⟩ hn
end
end Rn
namespace Tp
def Agree(w:World)(τ:Nat->Question->Nat)(n k:Nat):Prop:=∀i,i<k->τ (n+i)=w.tape (w.drawn+i)
def reR{α:Type}(τ:Nat->Question->Nat)(n:Nat):Result α->Result α
 |.ok a w=>.ok a (w.re τ n)|.halt h w=>.halt h (w.re τ n)
def wR{α:Type}:Result α->World
 |.ok _ w=>w|.halt _ w=>w
def NoAsk(c:Sys):Prop:=∀os,∃x,Kernel.perform c os=.done x
def markOK:Mark->Prop
 |.noRoom|.disable|.enable|.extern _=>True|_=>False
def markD:Mark->Nat->Prop
 |.noRoom,_|.disable,_|.extern _,_=>True|.enable,d=>0<d|_,_=>False
def markTo:Mark->Nat->Nat
 |.disable,d=>d+1|.enable,d=>d-1|_,d=>d
def goesOn:Halt->Prop
 |.panic _|.goexit=>True|_=>False
def haltD(h:Halt):Nat->Prop
 |0=>True|_+1=>¬goesOn h
def pureD(p:Prop):Nat->Prop
 |0=>p|_+1=>False
def PlainD(P:Program){α:Type}(Φ:α->Prop):Sem α->Nat->Prop
 |.pure a,d=>pureD (Φ a) d|.load _ _ k,d=>∀v,PlainD P Φ (k v) d|.store _ _ _ k,d=>PlainD P Φ k d|.new _ k,d=>∀r,PlainD P Φ (k r) d|.shape _ k,d=>∀s,PlainD P Φ (k s) d|.freeze _ _ k,d=>PlainD P Φ k d|.frozen _ k,d=>∀b,PlainD P Φ (k b) d|.getObj _ k,d=>∀o,PlainD P Φ (k o) d|.setObj _ _ k,d=>PlainD P Φ k d|.choose _ k,d=>∀n,PlainD P Φ (k n) d|.sys c k,d=>(∀r,PlainD P Φ (k r) d)/\(NoAsk c∨∃u,k .wouldBlock=.halt (.unsupported (.noEntry u)))|.program k,d=>PlainD P Φ (k P) d|.mark m k,d=>markD m d/\PlainD P Φ k (markTo m d)|.halt h,d=>haltD h d
abbrev Plain(P:Program){α:Type}(Φ:α->Prop)(s:Sem α):Prop:=PlainD P Φ s 0
def markD_ok{m d}(h:markD m d):markOK m:=by cases m<;>first|exact trivial|exact h
theorem PlainD.bind{P α β Φ}{Ψ:β->Prop}{f}(hf:∀a,Φ a->Plain P Ψ (f a)):∀ {s:Sem α}{d:Nat},PlainD P Φ s d->PlainD P Ψ (s.bind f) d
 |.pure a,0,h=>hf a h|.pure _,_+1,h=>h.elim|.load _ _ _,_,h=>λv=>PlainD.bind hf (h v)|.store _ _ _ k,_,h=>PlainD.bind (s:=k) hf h|.new _ _,_,h=>λv=>PlainD.bind hf (h v)|.shape _ _,_,h=>λv=>PlainD.bind hf (h v)|.freeze _ _ k,_,h=>PlainD.bind (s:=k) hf h|.frozen _ _,_,h=>λv=>PlainD.bind hf (h v)|.getObj _ _,_,h=>λv=>PlainD.bind hf (h v)|.setObj _ _ k,_,h=>PlainD.bind (s:=k) hf h|.choose _ _,_,h=>λv=>PlainD.bind hf (h v)|.sys _ _,_,h=>⟨λr=>PlainD.bind hf (h.1 r),h.2.imp id λ⟨u,hu⟩=>⟨u,by show(Sem.bind _ _)=_;rw[hu];rfl⟩⟩|.program k,_,h=>PlainD.bind (s:=k P) hf h|.mark _ k,_,h=>⟨h.1,PlainD.bind (s:=k) hf h.2⟩|.halt _,_,h=>h
theorem Plain.bind{P α β Φ Ψ}{f:α->Sem β}(hf:∀a,Φ a->Plain P Ψ (f a)){s}(h:Plain P Φ s):Plain P Ψ (s.bind f):=PlainD.bind hf h
section
variable{τ:Nat->Question->Nat}{n:Nat}{w:World}
def re_cell a:(w.re τ n).cell? a=w.cell? a:=rfl
def re_frozen a:(w.re τ n).frozen? a=w.frozen? a:=rfl
def re_shape r:(w.re τ n).shape? r=w.shape? r:=rfl
def re_setCell a v:(w.re τ n).setCell a v=(w.setCell a v).re τ n:=rfl
def re_freeze a k:(w.re τ n).freeze a k=(w.freeze a k).re τ n:=by unfold World.freeze;split<;>rfl
def re_farLoad P a b:(w.re τ n).farLoad P a b=w.farLoad P a b:=rfl
def reE{ε:Type}(τ:Nat->Question->Nat)(n:Nat):Except ε (World×List Addr)->Except ε (World×List Addr)
 |.ok (w,l)=>.ok (w.re τ n,l)|.error h=>.error h
def re_viewStore P at_ u k v b:(w.re τ n).viewStore P at_ u k v b=reE τ n (w.viewStore P at_ u k v b):=by
 unfold World.viewStore;simp only[show(w.re τ n).seen P at_ u k b=w.seen P at_ u k b from rfl];cases ht:tight P P.depth u with
 |false=>rfl|true=>
 cases w.seen P at_ u k b with
 |error e=>cases v.bytes?<;>rfl
 |ok x=>obtain⟨c,e,fz,first,like,cells⟩:=x;cases v.bytes? with|none=>rfl|some bs=>simp only[bind,Except.bind,Bool.not_true,Bool.false_eq_true,if_false];split;rfl;generalize List.foldlM (m:=Except String) _ c cells=y;cases y<;>rfl
def re_farStore P a v b:(w.re τ n).farStore P a v b=reE τ n (w.farStore P a v b):=by
 unfold World.farStore;simp only[re_viewStore,show(w.re τ n).heap=w.heap from rfl];cases w.heap[a.block]? with
 |none=>rfl|some o=>
 cases o<;>try rfl
 rename_i at_ u;dsimp only;cases w.viewStore P at_ u a v b with|error e=>rfl|ok x=>rfl
end
def EvOK(B:Nat)(e:Event):Prop:=match e.loc with
 |.cell a=>a.block<B
 |.obj r=>r<B
 |.mark m=>markOK m/\e.sync=true
 |.output=>True
 |_=>False
def EvOK.mono{B B' e}(h:EvOK B e)(hb:B<=B'):EvOK B' e:=by unfold EvOK at *;split at h<;>first|omega|exact h
def seen_low{w:World}{P at_ u k b x}(h:w.seen P at_ u k b=.ok x):at_.block<w.heap.size:=by
 unfold World.seen at h;simp only[bind,Except.bind]at h;cases hh:w.heap[at_.block]? with
 |some o=>exact(Array.getElem?_eq_some_iff.1 hh).1|none=>
 rw[hh]at h;exfalso;revert h;repeat' split
 all_goals (intro h;first|contradiction|cases h)
def farLoad_low{w:World}{P a b v l}(h:w.farLoad P a b=.ok (v,l)):∀x∈l,x.block<w.heap.size:=by
 unfold World.farLoad at h;split at h;rename_i at_ u _;split at h;rename_i r hr;obtain rfl:r=(v,l):=Except.ok.inj h;unfold World.viewLoad at hr;simp only[bind,Except.bind]at hr;cases hs:w.seen P at_ u a b with
 |error e=>rw[hs]at hr;cases hr
 |ok x=>have:=seen_low hs;rw[hs]at hr;obtain⟨c,e,fz,first,like,cells⟩:=x;dsimp only at hr;split at hr;cases hr;intro x hx;obtain⟨y,_,rfl⟩:=List.mem_map.1 hx;exact this;cases hr
 cases h;cases h
def farStore_low{w w':World}{P a b v l}(h:w.farStore P a v b=.ok (w',l)):(∀x∈l,x.block<w.heap.size)/\w'.heap.size=w.heap.size/\w'.tape=w.tape/\w'.drawn=w.drawn:=by
 unfold World.farStore at h;split at h;rename_i at_ u _;split at h;rename_i r hr;obtain rfl:r=(w',l):=Except.ok.inj h;unfold World.viewStore at hr;cases ht:tight P P.depth u with
 |false=>rw[ht]at hr;cases hr
 |true=>
  rw[ht]at hr;cases hs:w.seen P at_ u a b with
  |error e=>rw[hs]at hr;cases v.bytes?<;>cases hr
  |ok x=>
  have:=seen_low hs;rw[hs]at hr;obtain⟨c,e,fz,first,like,cells⟩:=x;cases hb:v.bytes? with
  |none=>rw[hb]at hr;cases hr
  |some bs=>
  rw[hb]at hr;simp only[bind,Except.bind,Bool.not_true,Bool.false_eq_true,if_false]at hr;split at hr;cases hr;revert hr;generalize List.foldlM (m:=Except String) _ c cells=y;intro hr;cases y with
  |error e=>cases hr
  |ok c2=>cases hr;refine⟨λx hx=>?_,by simp,rfl,rfl⟩;obtain⟨y,_,rfl⟩:=List.mem_map.1 hx;exact this
 cases h;cases h
def Cont{α:Type}:Result α->Prop
 |.ok _ _=>True|.halt h _=>goesOn h
def deaf_append x es l:deafBehind x (es++l)=deafBehind (deafBehind x es) l:=by simp only[deafBehind,Array.foldl_append]
def deaf_push x es e:deafBehind x (es.push e)=deafBehind (deafBehind x es) #[e]:=by rw[Array.push_eq_append,deaf_append]
def deaf_one x e(h1:e.loc≠.mark .disable)(h2:e.loc≠.mark .enable):deafBehind x #[e]=x:=by
 obtain⟨loc,wr,sy⟩:=e;cases loc with
 |mark m=>cases m<;>simp_all[deafBehind]
 |_=>simp[deafBehind]
def deaf_still{l}(h:∀e∈l,e.loc≠.mark .disable/\e.loc≠.mark .enable) x:deafBehind x l=x:=by
 obtain⟨l⟩:=l;induction l with
 |nil=>rfl|cons e l ih=>
 have:(⟨e::l⟩:Array Event)=#[e]++⟨l⟩:=by simp
 rw[this,deaf_append,deaf_one _ _ (h e (by simp)).1 (h e (by simp)).2];exact ih λy hy=>h y (by simp at hy|-;exact .inr hy)
def deaf_push_still x es e(h1:e.loc≠.mark .disable)(h2:e.loc≠.mark .enable):deafBehind x (es.push e)=deafBehind x es:=by rw[deaf_push,deaf_one _ _ h1 h2]
def deaf_map_still x es(l:List Addr) b c:deafBehind x (es++l.toArray.map (⟨.cell ·,b,c⟩))=deafBehind x es:=by rw[deaf_append,deaf_still];intro e he;obtain⟨a,_,rfl⟩:=Array.mem_map.1 he;exact⟨by simp,by simp⟩
structure RunRe(P:Program){α:Type}(Φ:α->Prop)(s:Sem α)(w:World)(es:Array Event)(k d0:Nat):Prop where
 drawn:(wR (s.runT P w es).1).drawn=w.drawn+k
 tape:(wR (s.runT P w es).1).tape=w.tape
 size:w.heap.size<=(wR (s.runT P w es).1).heap.size
 post:∀a w',(s.runT P w es).1=.ok a w'->Φ a
 low:∀e∈(s.runT P w es).2,e∈es∨EvOK (wR (s.runT P w es).1).heap.size e
 bal:Cont (s.runT P w es).1->∀x,deafBehind x es=x+d0->deafBehind x (s.runT P w es).2=x
 same:∀τ n,Agree w τ n k->s.runT P (w.re τ n) es=(reR τ (n+k) (s.runT P w es).1,(s.runT P w es).2)
def Agree.mono{w τ n k l}(h:Agree w τ n k)(hl:l<=k):Agree w τ n l:=λi hi=>h i (by omega)
def RunRe.of{P:Program}{α:Type}{Φ:α->Prop}{s s':Sem α}{w w1:World}{es es1:Array Event}{d k d0 d1:Nat}(h:RunRe P Φ s' w1 es1 k d1)(e:s.runT P w es=s'.runT P w1 es1) (hd:w1.drawn=w.drawn+d) (ht:w1.tape=w.tape) (hz:w.heap.size<=w1.heap.size) (hes:∀x∈es1,x∈es∨EvOK w1.heap.size x) (hb:∀x,deafBehind x es=x+d0->deafBehind x es1=x+d1) (hs:∀τ n,Agree w τ n (d+k)->s.runT P (w.re τ n) es=s'.runT P (w1.re τ (n+d)) es1):RunRe P Φ s w es (d+k) d0 where
 drawn:=by rw[e,h.drawn,hd];omega
 tape:=by rw[e,h.tape,ht]
 size:=by rw[e];exact Nat.le_trans hz h.size
 post:=by rw[e];exact h.post
 low:=by rw[e];intro x hx;rcases h.low x hx with h1|h1;exact(hes x h1).imp id (·.mono h.size);exact .inr h1
 bal:=by rw[e];exact λhc x hx=>h.bal hc x (hb x hx)
 same:=λτ n ha=>by rw[hs τ n ha,e,h.same τ (n+d) (λi hi=>by rw[hd,ht,Nat.add_assoc,Nat.add_assoc];exact ha (d+i) (by omega)),Nat.add_assoc]
def RunRe.stop{P:Program}{α:Type}{Φ:α->Prop}{s:Sem α}{w:World}{es:Array Event}{d0:Nat}{x:Halt}(e:s.runT P w es=(.halt x w,es))(hx:¬goesOn x)(hs:∀τ n,s.runT P (w.re τ n) es=(.halt x (w.re τ n),es)):RunRe P Φ s w es 0 d0 where
 drawn:=by rw[e];rfl
 tape:=by rw[e];rfl
 size:=by rw[e];exact Nat.le_refl _
 post:=by rw[e];intro a w' h;cases h
 low:=by rw[e];exact λx hx=>.inl hx
 bal:=by rw[e];exact λhc=>absurd hc hx
 same:=λτ n _=>by rw[e,hs];rfl
def noCell_not(w:World) a s:¬goesOn (w.noCell a s):=by unfold World.noCell;split<;>exact id
def farLoad_not{P}{w:World}{a b x}(h:w.farLoad P a b=.error x):¬goesOn x:=by unfold World.farLoad at h;split at h;split at h;cases h;cases h;exact id;cases h;exact noCell_not _ _ _
def farStore_not{P}{w:World}{a v b x}(h:w.farStore P a v b=.error x):¬goesOn x:=by unfold World.farStore at h;split at h;split at h;cases h;cases h;exact id;cases h;exact noCell_not _ _ _
def ok_push{es:Array Event}{B x}(hx:EvOK B x):∀e∈es.push x,e∈es∨EvOK B e:=λe he=>(Array.mem_push.1 he).imp id (λh=>by rw[h];exact hx)
def ok_map{es B}{l:List Addr}{f}(hx:∀a∈l,EvOK B (f a)):∀e∈es++l.toArray.map f,e∈es∨EvOK B e:=λe he=>(Array.mem_append.1 he).imp id (λh=>by obtain⟨a,ha,rfl⟩:=Array.mem_map.1 h;exact hx a (by simpa using ha))
def cell_lt{w:World}{a v}(h:w.cell? a=some v):a.block<w.heap.size:=by unfold World.cell? at h;split at h;rename_i hh;exact(Array.getElem?_eq_some_iff.1 hh).1;cases h
def ask_re{α} w:∀(a:Ask α),∃d,(w.ask a).2={w with drawn:=w.drawn+d}/\∀τ n,Agree w τ n d->(w.re τ n).ask a=((w.ask a).1,(w.ask a).2.re τ (n+d))
 |.done a=>⟨0,rfl,λτ n _=>rfl⟩|.ask what range k=>by by_cases hq:(Question.extern what range).forced=true;obtain⟨d,h1,h2⟩:=ask_re w (k 0);refine⟨d,?_,λτ n ha=>?_⟩;rw[World.ask];simp only[hq,if_true];exact h1;rw[World.ask,World.ask];simp only[hq,if_true];exact h2 τ n ha;obtain⟨d,h1,h2⟩:=ask_re {w with drawn:=w.drawn+1} (k ((Question.extern what range).cut (w.tape w.drawn (Question.extern what range))));refine⟨d+1,?_,λτ n ha=>?_⟩;rw[World.ask];simp only[hq,Bool.false_eq_true,if_false];rw[h1];simp;omega;rw[World.ask,World.ask];simp only[hq,Bool.false_eq_true,if_false];have e:τ n=w.tape w.drawn:=ha 0 (by omega);have:=h2 τ (n+1) (λi hi=>by have:=ha (i+1) (by omega);rw[show n+1+i=n+(i+1)from by omega,this];show w.tape _=w.tape _;congr 1;show w.drawn+(i+1)=w.drawn+1+i;omega);show World.ask {w with tape:=τ,drawn:=n+1} (k ((Question.extern what range).cut (τ n (Question.extern what range))))=_;rw[e,show n+(d+1)=n+1+d from by omega];exact this
def sysAns(w:World):(SysRet×Os)×World->SysRet×World
 |((.wouldBlock,_),_)=>(.wouldBlock,w)|((r,os),w')=>(r,{w' with os})
def sys_eq w c:w.sys c=sysAns w (w.ask (Kernel.perform c w.os)):=by unfold World.sys sysAns;rfl
def RunOr(P:Program){α:Type}(Φ:α->Prop)(s:Sem α)(w:World)(es:Array Event)(d0:Nat):Prop:=(∃k,RunRe P Φ s w es k d0)∨∃u w' es',s.runT P w es=(.halt (.unsupported (.noEntry u)) w',es')
theorem RunOr.of{P α Φ}{s s':Sem α}{w w1 es es1 d d0 d1}(h:RunOr P Φ s' w1 es1 d1)(e:s.runT P w es=s'.runT P w1 es1) (hd:w1.drawn=w.drawn+d) (ht:w1.tape=w.tape) (hz:w.heap.size<=w1.heap.size) (hes:∀x∈es1,x∈es∨EvOK w1.heap.size x) (hb:∀x,deafBehind x es=x+d0->deafBehind x es1=x+d1) (hs:∀k τ n,Agree w τ n (d+k)->s.runT P (w.re τ n) es=s'.runT P (w1.re τ (n+d)) es1):RunOr P Φ s w es d0:=by rcases h with⟨k,i⟩|⟨u,w',es',h⟩;exact .inl ⟨_,i.of (d:=d) e hd ht hz hes hb (hs k)⟩;exact .inr ⟨u,w',es',e.trans h⟩
theorem PlainD.run{P α Φ}:∀ {s:Sem α}{d0:Nat},PlainD P Φ s d0->∀w es,RunOr P Φ s w es d0
 |.pure a,0,h,w,es=>.inl ⟨0,rfl,rfl,Nat.le_refl _,(λb w' hb=>by cases hb;exact h),λe he=>.inl he,λ_ x hx=>hx,λτ n _=>rfl⟩|.pure a,_+1,h,w,es=>h.elim|.halt h,0,_,w,es=>.inl ⟨0,rfl,rfl,Nat.le_refl _,(λb w' hb=>by cases hb),λe he=>.inl he,λ_ x hx=>hx,λτ n _=>rfl⟩|.halt h,_+1,hh,w,es=>.inl ⟨0,rfl,rfl,Nat.le_refl _,(λb w' hb=>by cases hb),λe he=>.inl he,λhc=>absurd hc hh,λτ n _=>rfl⟩|.load m a k,d0,h,w,es=>by cases hc:w.cell? a with|some v=>have i:=PlainD.run (h v) w (es.push ⟨.cell a,false,m==.atomic⟩);exact RunOr.of i (d:=0) (by rw[Sem.runT];simp only[hc]) rfl rfl (Nat.le_refl _) (ok_push (cell_lt hc)) (λx hx=>by rw[deaf_push_still _ _ _ (by simp) (by simp)];exact hx) (λ_ τ n _=>by rw[Sem.runT];simp only[re_cell,hc];rfl)|none=>cases hf:w.farLoad P a (m==.atomic)with|error x=>exact .inl ⟨0,.stop (x:=x) (by rw[Sem.runT];simp only[hc,hf]) (farLoad_not hf) (λτ n=>by rw[Sem.runT];simp only[re_cell,hc,re_farLoad,hf])⟩|ok x=>obtain⟨v,l⟩:=x;have i:=PlainD.run (h v) w (es++l.toArray.map (⟨.cell ·,false,m==.atomic⟩));exact RunOr.of i (d:=0) (by rw[Sem.runT];simp only[hc,hf]) rfl rfl (Nat.le_refl _) (ok_map λa ha=>farLoad_low hf a ha) (λx hx=>by rw[deaf_map_still];exact hx) (λ_ τ n _=>by rw[Sem.runT];simp only[re_cell,hc,re_farLoad,hf];rfl)
 |.store m a v k,d0,h,w,es=>by
  have hs:(∃x,¬goesOn x/\∀(p:Program)(u:World),(Sem.store m a v k).runT p u es=(.halt x u,es))∨∀(p:Program)(u:World),(Sem.store m a v k).runT p u es=match u.cell? a with
   |some _=>if u.frozen? a then(.halt (.unsupported (.unsafePointer "a write to bytes that a string shares")) u,es)else k.runT p (u.setCell a v) (es.push ⟨.cell a,true,m==.atomic⟩)
   |none=>match u.farStore p a v (m==.atomic)with
    |.ok (w,touched)=>k.runT p w (es++touched.toArray.map (⟨.cell ·,true,m==.atomic⟩))
    |.error h=>(.halt h u,es):=by
   cases v<;>first|exact .inr (λ_ _=>rfl)|exact .inl ⟨.stuck "store: not the value of one cell",id,λ_ _=>rfl⟩
  rcases hs with⟨x,hx0,hx⟩|hs;exact .inl ⟨0,.stop (x:=x) (hx _ _) hx0 (λτ n=>hx _ _)⟩;cases hc:w.cell? a with
  |some v'=>
  by_cases hf:w.frozen? a=true;exact .inl ⟨0,.stop (x:=.unsupported (.unsafePointer "a write to bytes that a string shares")) (by rw[hs];simp only[hc,hf,if_true]) id (λτ n=>by rw[hs];simp only[re_cell,re_frozen,hc,hf,if_true])⟩;have hz:(w.setCell a v).heap.size=w.heap.size:=by simp[World.setCell]
  have i:=PlainD.run (s:=k) h (w.setCell a v) (es.push ⟨.cell a,true,m==.atomic⟩);exact RunOr.of i (d:=0) (by rw[hs];simp only[hc,hf,Bool.false_eq_true,if_false]) rfl rfl (Nat.le_of_eq hz.symm) (by rw[hz];exact ok_push (cell_lt hc)) (λx hx=>by rw[deaf_push_still _ _ _ (by simp) (by simp)];exact hx) (λ_ τ n _=>by rw[hs];simp only[re_cell,re_frozen,hc,hf,Bool.false_eq_true,if_false,re_setCell];rfl)|none=>cases hf:w.farStore P a v (m==.atomic)with|error x=>exact .inl ⟨0,.stop (x:=x) (by rw[hs];simp only[hc,hf]) (farStore_not hf) (λτ n=>by rw[hs];simp only[re_cell,hc,re_farStore,hf,reE])⟩|ok x=>obtain⟨w1,l⟩:=x;obtain⟨z1,z2,z3,z4⟩:=farStore_low hf;have i:=PlainD.run (s:=k) h w1 (es++l.toArray.map (⟨.cell ·,true,m==.atomic⟩));exact RunOr.of i (d:=0) (by rw[hs];simp only[hc,hf]) z4 z3 (Nat.le_of_eq z2.symm) (by rw[z2];exact ok_map λa ha=>z1 a ha) (λx hx=>by rw[deaf_map_still];exact hx) (λ_ τ n _=>by rw[hs];simp only[re_cell,hc,re_farStore,hf,reE];rfl)
 |.new o k,d0,h,w,es=>by have i:=PlainD.run (h w.heap.size) {w with heap:=w.heap.push o} es;exact RunOr.of i (d:=0) (by rw[Sem.runT]) rfl rfl (by simp) (λ_ h=>.inl h) (λ_ hx=>hx) (λ_ τ n _=>by rw[Sem.runT];rfl)
 |.shape r k,d0,h,w,es=>by have i:=PlainD.run (h (w.shape? r)) w es;exact RunOr.of i (d:=0) (by rw[Sem.runT]) rfl rfl (Nat.le_refl _) (λ_ h=>.inl h) (λ_ hx=>hx) (λ_ τ n _=>by rw[Sem.runT];rfl)|.freeze a n k,d0,h,w,es=>by
  have i:=PlainD.run (s:=k) h (w.freeze a n) es;have hz:(w.freeze a n).drawn=w.drawn/\(w.freeze a n).tape=w.tape/\(w.freeze a n).heap.size=w.heap.size:=by unfold World.freeze;split<;>simp
  exact RunOr.of i (d:=0) (by rw[Sem.runT]) hz.1 hz.2.1 (Nat.le_of_eq hz.2.2.symm) (λ_ h=>.inl h) (λ_ hx=>hx) (λ_ τ n _=>by rw[Sem.runT,re_freeze];rfl)|.frozen a k,d0,h,w,es=>by have i:=PlainD.run (h (w.frozen? a)) w es;exact RunOr.of i (d:=0) (by rw[Sem.runT]) rfl rfl (Nat.le_refl _) (λ_ h=>.inl h) (λ_ hx=>hx) (λ_ τ n _=>by rw[Sem.runT];rfl)|.getObj r k,d0,h,w,es=>by cases hh:w.heap[r]? with|none=>exact .inl ⟨0,.stop (x:=.stuck "getObj: no such block") (by rw[Sem.runT];simp only[hh]) id (λτ n=>by rw[Sem.runT];simp only[show(w.re τ n).heap=w.heap from rfl,hh])⟩|some o=>have hr:EvOK w.heap.size ⟨.obj r,false,o.isChan⟩:=(Array.getElem?_eq_some_iff.1 hh).1;have i:=PlainD.run (h o) w (es.push ⟨.obj r,false,o.isChan⟩);cases o with|cells _ _ _=>exact .inl ⟨0,.stop (x:=.stuck "getObj: a row of cells") (by rw[Sem.runT];simp only[hh]) id (λτ n=>by rw[Sem.runT];simp only[show(w.re τ n).heap=w.heap from rfl,hh])⟩|_=>exact RunOr.of i (d:=0) (by rw[Sem.runT];simp only[hh]) rfl rfl (Nat.le_refl _) (ok_push hr) (λx hx=>by rw[deaf_push_still _ _ _ (by simp) (by simp)];exact hx) (λ_ τ n _=>by rw[Sem.runT];simp only[show(w.re τ n).heap=w.heap from rfl,hh];rfl)
 |.setObj r o k,d0,h,w,es=>by
  cases hh:w.heap[r]? with
  |none=>exact .inl ⟨0,.stop (x:=.stuck "setObj: no such block") (by rw[Sem.runT];simp only[hh]) id (λτ n=>by rw[Sem.runT];simp only[show(w.re τ n).heap=w.heap from rfl,hh])⟩|some o'=>
  have hr:EvOK w.heap.size ⟨.obj r,true,o.isChan⟩:=(Array.getElem?_eq_some_iff.1 hh).1;have i:=PlainD.run (s:=k) h {w with heap:=w.heap.setIfInBounds r o} (es.push ⟨.obj r,true,o.isChan⟩);have hz:({w with heap:=w.heap.setIfInBounds r o}:World).heap.size=w.heap.size:=by simp
  cases o' with|cells _ _ _=>exact .inl ⟨0,.stop (x:=.stuck "setObj: a row of cells") (by rw[Sem.runT];simp only[hh]) id (λτ n=>by rw[Sem.runT];simp only[show(w.re τ n).heap=w.heap from rfl,hh])⟩|_=>exact RunOr.of i (d:=0) (by rw[Sem.runT];simp only[hh]) rfl rfl (Nat.le_of_eq hz.symm) (by rw[hz];exact ok_push hr) (λx hx=>by rw[deaf_push_still _ _ _ (by simp) (by simp)];exact hx) (λ_ τ n _=>by rw[Sem.runT];simp only[show(w.re τ n).heap=w.heap from rfl,hh];rfl)
 |.choose q k,d0,h,w,es=>by by_cases hq:q.forced=true;have i:=PlainD.run (h 0) w es;exact RunOr.of i (d:=0) (by rw[Sem.runT,if_pos hq]) rfl rfl (Nat.le_refl _) (λ_ h=>.inl h) (λ_ hx=>hx) (λ_ τ n _=>by rw[Sem.runT,if_pos hq];rfl);have i:=PlainD.run (h (q.cut (w.tape w.drawn q))) {w with drawn:=w.drawn+1} es;refine RunOr.of i (d:=1) (by rw[Sem.runT,if_neg hq]) rfl rfl (Nat.le_refl _) (λ_ h=>.inl h) (λ_ hx=>hx) (λ_ τ n ha=>?_);rw[Sem.runT,if_neg hq];have:τ n=w.tape w.drawn:=ha 0 (by omega);show(k (q.cut (τ n q))).runT P _ es=_;rw[this];rfl
 |.mark m k,d0,h,w,es=>by obtain⟨h1,h2⟩:=h;have i:=PlainD.run (s:=k) h2 w (es.push ⟨.mark m,false,true⟩);exact RunOr.of i (d:=0) (by rw[Sem.runT]) rfl rfl (Nat.le_refl _) (ok_push (show EvOK w.heap.size ⟨.mark m,false,true⟩from⟨markD_ok h1,rfl⟩)) (λx hx=>by rw[deaf_push,hx];cases m<;>first|exact h1.elim|rfl|(show x+d0-1=x+(d0-1);have:0<d0:=h1;omega)) (λ_ τ n _=>by rw[Sem.runT];rfl)
 |.sys c k,d0,h,w,es=>by
  obtain⟨h1,h2⟩:=h;rcases h2 with h2|⟨u,h2⟩;obtain⟨⟨r,os'⟩,hx⟩:=h2 w.os;have hw:w.sys c=sysAns w ((r,os'),w):=by rw[sys_eq,hx];rfl
  have hre:∀τ n,(w.re τ n).sys c=sysAns (w.re τ n) ((r,os'),w.re τ n):=λτ n=>by rw[sys_eq,show(w.re τ n).os=w.os from rfl,hx];rfl
  have i:=PlainD.run (h1 (w.sys c).1) (w.sys c).2 (es.push ⟨.output,true,false⟩);rw[hw]at i;have a1:∀u:World,(sysAns u ((r,os'),u)).1=r/\(sysAns u ((r,os'),u)).2.drawn=u.drawn/\(sysAns u ((r,os'),u)).2.tape=u.tape/\(sysAns u ((r,os'),u)).2.heap=u.heap/\∀τ n,(sysAns (u.re τ n) ((r,os'),u.re τ n))=(r,(sysAns u ((r,os'),u)).2.re τ n):=λu=>by cases r<;>exact⟨rfl,rfl,rfl,rfl,λ_ _=>rfl⟩
  obtain⟨b1,b2,b3,b4,b5⟩:=a1 w;exact RunOr.of i (d:=0) (by rw[Sem.runT,hw]) b2 b3 (by rw[b4];exact Nat.le_refl _) (by rw[b4];exact ok_push (show EvOK w.heap.size ⟨.output,true,false⟩from trivial)) (λx hx=>by rw[deaf_push_still _ _ _ (by simp) (by simp)];exact hx) (λ_ τ n _=>by rw[Sem.runT,hre,b5,b1];rfl);by_cases hb:(w.sys c).1=.wouldBlock;exact .inr ⟨u,(w.sys c).2,_,by rw[Sem.runT,hb,h2,Sem.runT]⟩;obtain⟨d,hd1,hd2⟩:=ask_re w (Kernel.perform c w.os);rw[sys_eq]at hb;have i:=PlainD.run (h1 (w.sys c).1) (w.sys c).2 (es.push ⟨.output,true,false⟩);rw[sys_eq]at i;have e1:(Sem.sys c k).runT P w es=(k (sysAns w (w.ask (Kernel.perform c w.os))).1).runT P (sysAns w (w.ask (Kernel.perform c w.os))).2 (es.push ⟨.output,true,false⟩):=by rw[Sem.runT,sys_eq]
  have e2:∀τ n,Agree w τ n d->(Sem.sys c k).runT P (w.re τ n) es=(k (sysAns (w.re τ n) ((w.ask (Kernel.perform c w.os)).1,(w.ask (Kernel.perform c w.os)).2.re τ (n+d))).1).runT P (sysAns (w.re τ n) ((w.ask (Kernel.perform c w.os)).1,(w.ask (Kernel.perform c w.os)).2.re τ (n+d))).2 (es.push ⟨.output,true,false⟩):=λτ n ha=>by rw[Sem.runT,sys_eq,show(w.re τ n).os=w.os from rfl,hd2 τ n ha]
  generalize w.ask (Kernel.perform c w.os)=x at hd1 hb i e1 e2;obtain⟨⟨r,os'⟩,w'⟩:=x;dsimp only at hd1 e2;subst hd1;have a1:r≠.wouldBlock->∀(u u':World),sysAns u ((r,os'),u')=(r,{u' with os:=os'}):=by cases r<;>first|(intro h;exact absurd rfl h)|(intro _ _ _;rfl)
  have hr:r≠.wouldBlock:=λe=>hb (by subst e;rfl);rw[a1 hr]at i e1;refine RunOr.of i (d:=d) e1 rfl rfl (Nat.le_refl _) (ok_push (show EvOK w.heap.size ⟨.output,true,false⟩from trivial)) (λx hx=>by rw[deaf_push_still _ _ _ (by simp) (by simp)];exact hx) (λk' τ n ha=>?_);rw[e2 τ n (ha.mono (by omega)),a1 hr];rfl
 |.program k,d0,h,w,es=>by have i:=PlainD.run (s:=k P) h w es;exact RunOr.of i (d:=0) (by rw[Sem.runT]) rfl rfl (Nat.le_refl _) (λ_ h=>.inl h) (λ_ hx=>hx) (λ_ τ n _=>by rw[Sem.runT];rfl)
theorem Plain.run{P α Φ}{s:Sem α}(h:Plain P Φ s) w es:RunOr P Φ s w es 0:=PlainD.run h w es
end Tp
namespace Tp
section
variable{P:Program}{α β:Type}
abbrev Pl(P:Program){α:Type}(s:Sem α):Prop:=Plain P (λ_=>True) s
def pl_bind{x}{f:α->Sem β}(hx:Pl P x)(hf:∀a,Pl P (f a)):Pl P (x >>= f):=Plain.bind (λa _=>hf a) hx
def pl_load a m:Pl P (load a m):=λ_=>trivial
def pl_store a v m:Pl P (store a v m):=trivial
def pl_newObj o:Pl P (newObj o):=λ_=>trivial
def pl_shape r:Pl P (shape r):=λ_=>trivial
def pl_freeze a n:Pl P (freeze a n):=trivial
def pl_frozen a:Pl P (frozen a):=λ_=>trivial
def pl_getObj r:Pl P (getObj r):=λ_=>trivial
def pl_setObj r o:Pl P (setObj r o):=trivial
def pl_choose q:Pl P (choose q):=λ_=>trivial
def pl_noRoom:Pl P (mark .noRoom):=⟨trivial,trivial⟩
def pl_askRoom n:Pl P (askRoom n):=by unfold askRoom;split<;>first|exact pl_noRoom|exact trivial
def pl_writeFd n b:Pl P (writeFd n b):=⟨λr=>by cases r<;>exact trivial,.inr ⟨_,rfl⟩⟩
def pl_program{f:Program->Sem α}(hf:Pl P (f P)):Pl P (program >>= f):=hf
theorem pl_forIn{σ} f(hf:∀a s,Pl P (f a s)):∀(l:List α)(s:σ),Pl P (forIn l s f)
 |[],s=>by rw[List.forIn_nil];exact trivial|a::l,s=>by rw[List.forIn_cons];refine pl_bind (hf a s) λr=>?_;cases r with|done b=>exact trivial|yield b=>exact pl_forIn f hf l b
def pl_forInA{σ} f(hf:∀a s,Pl P (f a s))(l:Array α)(s:σ):Pl P (forIn l s f):=by rw[<-Array.forIn_toList];exact pl_forIn f hf _ _
theorem pl_mapM(f:α->Sem β)(hf:∀a,Pl P (f a)):∀l:List α,Pl P (l.mapM f)
 |[]=>by rw[List.mapM_nil];exact trivial|a::l=>by rw[List.mapM_cons];exact pl_bind (hf a) λ_=>pl_bind (pl_mapM f hf l) λ_=>trivial
def pl_mapMA(f:α->Sem β)(hf:∀a,Pl P (f a))(l:Array α):Pl P (l.mapM f):=by rw[Array.mapM_eq_mapM_toList];refine pl_bind (pl_mapM f hf _) λ_=>trivial
theorem pl_foldlM f(hf:∀b a,Pl P (f b a)):∀(l:List α)(b:β),Pl P (l.foldlM f b)
 |[],_=>by rw[List.foldlM_nil];exact trivial|a::l,b=>by rw[List.foldlM_cons];exact pl_bind (hf b a) λ_=>pl_foldlM f hf l _
def pl_forInR{σ}(f:Nat->σ->Sem (ForInStep σ))(hf:∀a s,Pl P (f a s)) n s:Pl P (forIn [0:n] s f):=by rw[Std.Legacy.Range.forIn_eq_forIn_range'];exact pl_forIn f hf _ _
def pl_ite{c}[Decidable c]{a b:Sem α}(h1:Pl P a)(h2:Pl P b):Pl P (if c then a else b):=by split<;>assumption
theorem pl_forInL'{σ}:∀(l:List α)(f:(a:α)->a∈l->σ->Sem (ForInStep σ))(_:∀a h s,Pl P (f a h s))(s),Pl P (forIn' l s f)
 |[],f,hf,s=>by rw[List.forIn'_nil];exact trivial|a::l,f,hf,s=>by rw[List.forIn'_cons];refine pl_bind (hf _ _ _) λr=>?_;cases r with|done b=>exact trivial|yield b=>exact pl_forInL' l _ (λ_ _ _=>hf _ _ _) b
def pl_forInR'{σ} n(f:(a:Nat)->a∈[:n]->σ->Sem (ForInStep σ))(hf:∀a h s,Pl P (f a h s)) s:Pl P (forIn' [:n] s f):=by rw[Std.Legacy.Range.forIn'_eq_forIn'_range'];exact pl_forInL' _ _ (λ_ _ _=>hf _ _ _) s
def tac{p:Prop}(h:p:=by repeat' (first|exact trivial|assumption|with_reducible exact ih _ _ _|with_reducible exact ih _ _|with_reducible apply d1|with_reducible apply d2|with_reducible apply d3|with_reducible apply d4|with_reducible apply d5|with_reducible apply d6|with_reducible apply d7|with_reducible apply d8|with_reducible apply d9|with_reducible apply d10|with_reducible apply d11|with_reducible apply d12|with_reducible apply d13|with_reducible apply d14|with_reducible apply d15|with_reducible apply d16|with_reducible apply d17|with_reducible exact pl_load _ _|with_reducible exact pl_store _ _ _|with_reducible exact pl_newObj _|with_reducible exact pl_shape _|with_reducible exact pl_freeze _ _|with_reducible exact pl_frozen _|with_reducible exact pl_getObj _|with_reducible exact pl_setObj _ _|with_reducible exact pl_choose _|with_reducible exact pl_writeFd _ _|with_reducible exact pl_noRoom|with_reducible exact pl_askRoom _|refine pl_bind ?_ (λ_=>?_)|with_reducible apply pl_ite|with_reducible apply pl_forInA|with_reducible apply pl_forIn|with_reducible apply pl_forInR|with_reducible apply pl_mapM|with_reducible apply pl_mapMA|with_reducible apply pl_foldlM|with_reducible apply pl_program|split|intro _|dsimp only)):p:=h
def pl_viewAt r:Pl P (Go.viewAt r):=by unfold Go.viewAt;exact tac
def pl_numberAt r:Pl P (Go.numberAt r):=by unfold Go.numberAt;exact tac
def pl_cellsIn r:Pl P (Go.cellsIn r):=by unfold Go.cellsIn;exact tac
def pl_asNumber a lost:Pl P (Go.asNumber a lost):=by unfold Go.asNumber;exact tac
def pl_behindNumber n:Pl P (Go.behindNumber n):=by unfold Go.behindNumber;have d1:=@pl_numberAt P;exact tac
def pl_noView a:Pl P (Go.noView a):=by unfold Go.noView;have d1:=@pl_viewAt P;exact tac
def pl_markStringish a:Pl P (Go.markStringish a):=by unfold Go.markStringish;exact tac
def pl_stringish a:Pl P (Go.stringish a):=by unfold Go.stringish;exact tac
def pl_mayBeOne a b:Pl P (Go.mayBeOne a b):=by unfold Go.mayBeOne;have d1:=@pl_stringish P;exact tac
def pl_sameAddr a b:Pl P (Go.sameAddr a b):=by unfold Go.sameAddr;have d1:=@pl_noView P;have d2:=@pl_mayBeOne P;exact tac
def pl_samePointer:∀a0 a1,Pl P (Go.samePointer a0 a1):=by intro a0 a1;unfold Go.samePointer;have d1:=@pl_sameAddr P;exact tac
def pl_typeInfo t:Pl P (Go.typeInfo t):=by unfold Go.typeInfo;exact tac
def pl_underlying t:Pl P (Go.underlying t):=by unfold Go.underlying;exact tac
def pl_typeStr t:Pl P (Go.typeStr t):=by unfold Go.typeStr;have d1:=@pl_typeInfo P;exact tac
def pl_zeroValue t:Pl P (Go.zeroValue t):=by unfold Go.zeroValue;have d1:=@pl_typeInfo P;exact tac
def pl_sizeOf t:Pl P (Go.sizeOf t):=by unfold Go.sizeOf;have d1:=@pl_typeInfo P;exact tac
def pl_isAgg t:Pl P (Go.isAgg t):=by unfold Go.isAgg;have d1:=@pl_underlying P;exact tac
def pl_loadCellsFrom a i:∀a0 a1,Pl P (Go.loadCellsFrom a i a0 a1):=by intro a0;induction a0 generalizing i with|zero=>intro a1;exact trivial|succ n ih=>intro a1;exact λ_=>ih _ _
def pl_loadCells a n:Pl P (Go.loadCells a n):=by unfold Go.loadCells;have d1:=@pl_loadCellsFrom P;exact tac
def pl_storeCells a vs i:Pl P (Go.storeCells a vs i):=by induction vs generalizing i with|nil=>exact trivial|cons v r ih=>exact ih (i+1)
def pl_loadVar t a:Pl P (Go.loadVar t a):=by unfold Go.loadVar;have d1:=@pl_sizeOf P;have d2:=@pl_isAgg P;have d3:=@pl_loadCells P;exact tac
def pl_storeVar t a v:Pl P (Go.storeVar t a v):=by unfold Go.storeVar;have d1:=@pl_sizeOf P;have d2:=@pl_storeCells P;exact tac
def pl_newRow elem cells:Pl P (Go.newRow elem cells):=by unfold Go.newRow;exact tac
def pl_newVar t v:Pl P (Go.newVar t v):=by unfold Go.newVar;have d1:=@pl_newRow P;exact tac
def pl_elemOf t:Pl P (Go.elemOf t):=by unfold Go.elemOf;have d1:=@pl_underlying P;exact tac
def pl_part t cs off:Pl P (Go.part t cs off):=by unfold Go.part;have d1:=@pl_sizeOf P;have d2:=@pl_isAgg P;exact tac
def pl_runtimePanic e:Pl P ((Go.runtimePanic e:Sem α)):=by unfold Go.runtimePanic;have d1:=@pl_newVar P;have d2:=@pl_elemOf P;exact tac
def pl_boundsPanic k x y code:Pl P ((Go.boundsPanic k x y code:Sem α)):=by unfold Go.boundsPanic;have d1:=@pl_runtimePanic P;exact tac
def pl_asIntOf:∀a0,Pl P (Go.asIntOf a0):=by intro a0;unfold Go.asIntOf;exact tac
def pl_asInt v:Pl P (Go.asInt v):=by unfold Go.asInt;have d1:=@pl_asIntOf P;exact tac
def pl_asBool:∀a0,Pl P (Go.asBool a0):=by intro a0;unfold Go.asBool;exact tac
def pl_asString:∀a0,Pl P (Go.asString a0):=by intro a0;unfold Go.asString;exact tac
def pl_asAgg:∀a0,Pl P (Go.asAgg a0):=by intro a0;unfold Go.asAgg;exact tac
def pl_asAddr:∀a0,Pl P (Go.asAddr a0):=by intro a0;unfold Go.asAddr;have d1:=@pl_runtimePanic P;exact tac
def pl_Deferred_ofValue f args:Pl P (Go.Deferred.ofValue f args):=by unfold Go.Deferred.ofValue;exact tac
def pl_Instr_alloc elem heap old:Pl P (Go.Instr.alloc elem heap old):=by unfold Go.Instr.alloc;have d1:=@pl_zeroValue P;have d2:=@pl_storeVar P;have d3:=@pl_newVar P;exact tac
def pl_Instr_sliceBound x y code:Pl P (Go.Instr.sliceBound x y code):=by unfold Go.Instr.sliceBound;have d1:=@pl_boundsPanic P;have d2:=@pl_asIntOf P;exact tac
def pl_Instr_sliceBounds isSlice len cap low high max:Pl P (Go.Instr.sliceBounds isSlice len cap low high max):=by unfold Go.Instr.sliceBounds;have d1:=@pl_Instr_sliceBound P;exact tac
def pl_Instr_slice xType x low high max:Pl P (Go.Instr.slice xType x low high max):=by unfold Go.Instr.slice;have d1:=@pl_underlying P;have d2:=@pl_sizeOf P;have d3:=@pl_asAddr P;have d4:=@pl_Instr_sliceBounds P;exact tac
def pl_byteOf a:Pl P (Go.byteOf a):=by unfold Go.byteOf;have d1:=@pl_noView P;exact tac
def pl_partAt base cells bytes:Pl P (Go.partAt base cells bytes):=by unfold Go.partAt;have d1:=@pl_byteOf P;exact tac
def pl_fieldPlace a f:Pl P (Go.fieldPlace a f):=by unfold Go.fieldPlace;have d1:=@pl_sizeOf P;have d2:=@pl_partAt P;exact tac
def pl_variablesAt a u n:Pl P (Go.variablesAt a u n):=by unfold Go.variablesAt;exact tac
def pl_loadBytes a acc:∀a0,Pl P (Go.loadBytes a acc a0):=by intro a0;induction a0 generalizing a acc with|zero=>exact trivial|succ n ih=>unfold Go.loadBytes;refine pl_bind (pl_load _ _) λ_=>?_;split;exact ih _ _;exact trivial
def pl_Instr_sureAddr:∀a0,Pl P (Go.Instr.sureAddr a0):=by intro a0;unfold Go.Instr.sureAddr;exact tac
def pl_Instr_loadAt t addr:Pl P (Go.Instr.loadAt t addr):=by unfold Go.Instr.loadAt;have d1:=@pl_loadVar P;have d2:=@pl_Instr_sureAddr P;exact tac
def pl_Instr_storeAt t addr val:Pl P (Go.Instr.storeAt t addr val):=by unfold Go.Instr.storeAt;have d1:=@pl_storeVar P;have d2:=@pl_Instr_sureAddr P;exact tac
def pl_Instr_fieldAt s addr field:Pl P (Go.Instr.fieldAt s addr field):=by unfold Go.Instr.fieldAt;have d1:=@pl_underlying P;have d2:=@pl_fieldPlace P;have d3:=@pl_Instr_sureAddr P;exact tac
def pl_Instr_indexAt t x index:Pl P (Go.Instr.indexAt t x index):=by unfold Go.Instr.indexAt;have d1:=@pl_underlying P;have d2:=@pl_sizeOf P;have d3:=@pl_boundsPanic P;have d4:=@pl_asIntOf P;have d5:=@pl_Instr_slice P;have d6:=@pl_Instr_sureAddr P;exact tac
def pl_Instr_sliceAt t x low high max:Pl P (Go.Instr.sliceAt t x low high max):=by unfold Go.Instr.sliceAt;have d1:=@pl_underlying P;have d2:=@pl_sizeOf P;have d3:=@pl_Instr_sliceBounds P;have d4:=@pl_Instr_slice P;have d5:=@pl_Instr_sureAddr P;exact tac
def pl_Instr_arrayAt arr x:Pl P (Go.Instr.arrayAt arr x):=by unfold Go.Instr.arrayAt;have d1:=@pl_underlying P;have d2:=@pl_runtimePanic P;have d3:=@pl_Instr_slice P;exact tac
def pl_Instr_box elem v:Pl P (Go.Instr.box elem v):=by unfold Go.Instr.box;have d1:=@pl_newVar P;exact tac
def pl_Instr_build t parts:Pl P (Go.Instr.build t parts):=by unfold Go.Instr.build;have d1:=@pl_underlying P;have d2:=@pl_zeroValue P;have d3:=@pl_sizeOf P;have d4:=@pl_part P;exact tac
def pl_Instr_buildSlice t len parts:Pl P (Go.Instr.buildSlice t len parts):=by unfold Go.Instr.buildSlice;have d1:=@pl_underlying P;have d2:=@pl_zeroValue P;have d3:=@pl_sizeOf P;have d4:=@pl_newRow P;have d5:=@pl_part P;have d6:=@pl_Instr_slice P;exact tac
def pl_Instr_waits g:Pl P (Go.Instr.waits g):=by unfold Go.Instr.waits;exact tac
def pl_Instr_ready g:Pl P (Go.Instr.ready g):=by unfold Go.Instr.ready;exact tac
def pl_Instr_makeInterface xType x:Pl P (Go.Instr.makeInterface xType x):=by unfold Go.Instr.makeInterface;have d1:=@pl_underlying P;exact tac
def pl_Instr_makeFunc fn first captured:Pl P (Go.Instr.makeFunc fn first captured):=by unfold Go.Instr.makeFunc;exact tac
def pl_Instr_makeMap t reserve:Pl P (Go.Instr.makeMap t reserve):=by unfold Go.Instr.makeMap;have d1:=@pl_underlying P;have d2:=@pl_asInt P;exact tac
def pl_Instr_makeChan t size:Pl P (Go.Instr.makeChan t size):=by unfold Go.Instr.makeChan;have d1:=@pl_typeInfo P;have d2:=@pl_underlying P;have d3:=@pl_runtimePanic P;have d4:=@pl_asInt P;exact tac
def pl_Instr_makeSlice t len cap:Pl P (Go.Instr.makeSlice t len cap):=by unfold Go.Instr.makeSlice;have d1:=@pl_typeInfo P;have d2:=@pl_underlying P;have d3:=@pl_zeroValue P;have d4:=@pl_sizeOf P;have d5:=@pl_newRow P;have d6:=@pl_runtimePanic P;have d7:=@pl_asInt P;have d8:=@pl_Instr_slice P;exact tac
def pl_Instr_field xType x field:Pl P (Go.Instr.field xType x field):=by unfold Go.Instr.field;have d1:=@pl_underlying P;have d2:=@pl_part P;have d3:=@pl_asAgg P;exact tac
def pl_Instr_index xType x index:Pl P (Go.Instr.index xType x index):=by unfold Go.Instr.index;have d1:=@pl_underlying P;have d2:=@pl_sizeOf P;have d3:=@pl_part P;have d4:=@pl_boundsPanic P;have d5:=@pl_asIntOf P;exact tac
def pl_Op_equalIn:∀a0 a1 a2 a3,Pl P (Go.Op.equalIn a0 a1 a2 a3):=by intro a0;induction a0 with|zero=>intros;exact trivial|succ n ih=>intro a1 a2 a3;unfold Go.Op.equalIn;have d1:=@pl_behindNumber P;have d2:=@pl_sameAddr P;have d3:=@pl_samePointer P;have d4:=@pl_typeInfo P;have d5:=@pl_underlying P;have d6:=@pl_typeStr P;have d7:=@pl_sizeOf P;have d8:=@pl_part P;have d9:=@pl_runtimePanic P;have d10:=@pl_byteOf P;exact tac
def pl_Op_equal t x y:Pl P (Go.Op.equal t x y):=by unfold Go.Op.equal;have d1:=@pl_Op_equalIn P;exact tac
def pl_Op_eqGuardIn:∀a0 a1 a2 a3,Pl P (Go.Op.eqGuardIn a0 a1 a2 a3):=by intro a0;induction a0 with|zero=>intros;exact trivial|succ n ih=>intro a1 a2 a3;unfold Go.Op.eqGuardIn;have d1:=@pl_underlying P;have d2:=@pl_sizeOf P;have d3:=@pl_part P;exact tac
def pl_Instr_checkKey empty:∀a0 a1 a2,Pl P (Go.Instr.checkKey empty a0 a1 a2):=by intro a0;induction a0 with|zero=>intros;exact trivial|succ n ih=>intro a1 a2;unfold Go.Instr.checkKey;have d1:=@pl_typeInfo P;have d2:=@pl_underlying P;have d3:=@pl_typeStr P;have d4:=@pl_sizeOf P;have d5:=@pl_part P;have d6:=@pl_runtimePanic P;exact tac
theorem pl_Instr_findAsking keyType k:∀l i,Pl P (Go.Instr.findAsking keyType k l i)
 |[],_=>trivial|e::es,i=>by unfold Go.Instr.findAsking;refine pl_bind (pl_Op_equal _ _ _) λb=>?_;split;exact trivial;exact pl_Instr_findAsking keyType k es _
def pl_Instr_findKey keyType k es:Pl P (Go.Instr.findKey keyType k es):=by unfold Go.Instr.findKey;refine pl_bind (pl_underlying _) λ_=>?_;split;exact trivial;exact pl_Instr_findAsking _ _ _ _
def pl_Instr_lookup xType x index commaOk:Pl P (Go.Instr.lookup xType x index commaOk):=by unfold Go.Instr.lookup;have d1:=@pl_underlying P;have d2:=@pl_zeroValue P;have d3:=@pl_Instr_index P;have d4:=@pl_Instr_checkKey P;have d5:=@pl_Instr_findKey P;exact tac
def pl_Instr_keyThatStays old new:Pl P (Go.Instr.keyThatStays old new):=by unfold Go.Instr.keyThatStays;exact tac
def pl_Instr_mapUpdate mapType map key value:Pl P (Go.Instr.mapUpdate mapType map key value):=by unfold Go.Instr.mapUpdate;have d1:=@pl_underlying P;have d2:=@pl_runtimePanic P;have d3:=@pl_Instr_checkKey P;have d4:=@pl_Instr_findKey P;have d5:=@pl_Instr_keyThatStays P;exact tac
def pl_Instr_mapEntry mapType map key:Pl P (Go.Instr.mapEntry mapType map key):=by unfold Go.Instr.mapEntry;have d1:=@pl_underlying P;have d2:=@pl_zeroValue P;have d3:=@pl_runtimePanic P;have d4:=@pl_Instr_checkKey P;have d5:=@pl_Instr_findKey P;have d6:=@pl_Instr_keyThatStays P;exact tac
def pl_Instr_entryStore umapType map stamp value:Pl P (Go.Instr.entryStore umapType map stamp value):=by unfold Go.Instr.entryStore;have d1:=@pl_asInt P;exact tac
def pl_Instr_range xType x:Pl P (Go.Instr.range xType x):=by unfold Go.Instr.range;have d1:=@pl_underlying P;exact tac
def pl_Instr_next iter isString utype:Pl P (Go.Instr.next iter isString utype):=by unfold Go.Instr.next;exact tac
def pl_Instr_entry iter:Pl P (Go.Instr.entry iter):=by unfold Go.Instr.entry;exact tac
def pl_Instr_getLoop l:Pl P (Go.Instr.getLoop l):=by unfold Go.Instr.getLoop;have d1:=@pl_Instr_range P;exact tac
def pl_Instr_enterLoop fn tmps params assign body around:Pl P (Go.Instr.enterLoop fn tmps params assign body around):=by unfold Go.Instr.enterLoop;have d1:=@pl_Instr_getLoop P;exact tac
def pl_Instr_beginRound l:Pl P (Go.Instr.beginRound l):=by unfold Go.Instr.beginRound;have d1:=@pl_runtimePanic P;have d2:=@pl_Instr_range P;have d3:=@pl_Instr_getLoop P;exact tac
def pl_Instr_endRound l jump:Pl P (Go.Instr.endRound l jump):=by unfold Go.Instr.endRound;have d1:=@pl_Instr_getLoop P;exact tac
def pl_Instr_endLoop l:Pl P (Go.Instr.endLoop l):=by unfold Go.Instr.endLoop;have d1:=@pl_runtimePanic P;have d2:=@pl_Instr_range P;have d3:=@pl_Instr_getLoop P;exact tac
def pl_Instr_deferInRound l d:Pl P (Go.Instr.deferInRound l d):=by unfold Go.Instr.deferInRound;have d1:=@pl_Instr_range P;have d2:=@pl_Instr_getLoop P;exact tac
def pl_Instr_takeDeferred block:Pl P (Go.Instr.takeDeferred block):=by unfold Go.Instr.takeDeferred;have d1:=@pl_Instr_range P;exact tac
def pl_Builtin_ssaWrapNilChk_ argTypes utype args:Pl P (Go.Builtin.ssaWrapNilChk_ argTypes utype args):=by
 unfold Go.Builtin.ssaWrapNilChk_;rcases args with⟨_|⟨a,_|⟨b,_|⟨c,_|⟨d,l⟩⟩⟩⟩⟩;exact trivial;exact trivial;cases b<;>exact trivial
 ·cases b<;>first|exact trivial|skip
  cases c<;>first|exact trivial|skip
  cases a<;>first|exact trivial|skip
  rename_i o;cases o with|some o=>exact trivial|none=>
  refine pl_bind (pl_choose _) λ_=>pl_ite (pl_bind (pl_runtimePanic _) λ_=>?_) ?_<;>
  (repeat' (first|exact trivial|with_reducible apply pl_typeInfo|with_reducible apply pl_underlying|with_reducible apply pl_runtimePanic|with_reducible exact pl_choose _|refine pl_bind ?_ (λ_=>?_)|with_reducible apply pl_ite|split|dsimp only))
 cases b<;>exact trivial
def pl_Place_get t:∀a0,Pl P (Go.Place.get t a0):=by intro a0;unfold Go.Place.get;have d1:=@pl_loadVar P;exact tac
def pl_follow:∀a0 a1 a2,Pl P (Go.follow a0 a1 a2):=by
 intro a0;induction a0 with
 |nil=>intros;exact trivial|cons s r ih=>
 intro a1 a2;unfold Go.follow
 (repeat' (first|exact trivial|with_reducible exact ih _ _|with_reducible apply pl_underlying|with_reducible apply pl_Place_get|with_reducible apply pl_asAddr|with_reducible apply pl_fieldPlace|with_reducible apply pl_part|refine pl_bind ?_ (λ_=>?_)|with_reducible apply pl_ite|split|dsimp only))
def pl_receiverAt xt x pointerReceiver wrapper:Pl P (Go.receiverAt xt x pointerReceiver wrapper):=by unfold Go.receiverAt;refine pl_bind (pl_underlying _) λd=>?_;split;exact pl_Place_get _ _;refine pl_bind (pl_Place_get _ _) λ_=>?_;split;exact pl_bind (pl_Builtin_ssaWrapNilChk_ _ _ _) λ_=>pl_bind (pl_asAddr _) λ_=>pl_loadVar _ _;exact pl_bind trivial λ_=>pl_bind (pl_asAddr _) λ_=>pl_loadVar _ _;exact trivial;exact trivial;exact pl_Place_get _ _
def pl_receiverVia t v path pointerReceiver:Pl P (Go.receiverVia t v path pointerReceiver):=by unfold Go.receiverVia;have d1:=@pl_follow P;have d2:=@pl_receiverAt P;exact tac
def pl_method:∀a0 a1 a2 a3,Pl P (Go.method a0 a1 a2 a3):=by intro a0;induction a0 with|zero=>intros;exact trivial|succ n ih=>intro a1 a2 a3;unfold Go.method;refine pl_bind (pl_typeInfo _) λi=>?_;split;refine pl_bind (pl_follow _ _ _) λr=>?_;dsimp only;split;refine pl_bind (pl_Place_get _ _) λv=>?_;split;exact ih _ _ _;exact pl_runtimePanic _;exact trivial;exact pl_bind (pl_receiverAt _ _ _ _) λ_=>trivial;exact trivial
def pl_followBlind:∀a0 a1 a2,Pl P (Go.followBlind a0 a1 a2):=by intro a0;induction a0 with|nil=>intros;exact trivial|cons hd tl ih=>intro a1 a2;unfold Go.followBlind;have d1:=@pl_underlying P;have d2:=@pl_part P;have d3:=@pl_Instr_field P;have d4:=@pl_Instr_index P;have d5:=@pl_method P;exact tac
def pl_nilAhead:∀a0 a1 a2 a3,Pl P (Go.nilAhead a0 a1 a2 a3):=by intro a0;induction a0 with|zero=>intros;exact trivial|succ n ih=>intro a1 a2 a3;unfold Go.nilAhead;have d1:=@pl_typeInfo P;have d2:=@pl_underlying P;have d3:=@pl_method P;have d4:=@pl_followBlind P;exact tac
def pl_Builtin_printOne t v:Pl P (Go.Builtin.printOne t v):=by unfold Go.Builtin.printOne;have d1:=@pl_typeInfo P;exact tac
def pl_Builtin_pieces ln consts argTypes args:Pl P (Go.Builtin.pieces ln consts argTypes args):=by
 unfold Go.Builtin.pieces;dsimp only;refine pl_bind (pl_forInR' _ _ (λi h s=>?_) _) λr=>?_
 ·(repeat' (first|exact trivial|with_reducible apply pl_Builtin_printOne|with_reducible apply pl_forInA|refine pl_bind ?_ (λ_=>?_)|with_reducible apply pl_ite|split|(intro _)|dsimp only))
 (repeat' (first|exact trivial|refine pl_bind ?_ (λ_=>?_)|with_reducible apply pl_ite|split|dsimp only))
def pl_Instr_typeAssert x xType asserted commaOk:Pl P (Go.Instr.typeAssert x xType asserted commaOk):=by unfold Go.Instr.typeAssert;have d1:=@pl_typeInfo P;have d2:=@pl_underlying P;have d3:=@pl_zeroValue P;have d4:=@pl_runtimePanic P;exact tac
def pl_Instr_extract tuple index:Pl P (Go.Instr.extract tuple index):=by unfold Go.Instr.extract;have d1:=@pl_Instr_index P;exact tac
def pl_Instr_panicnil:Pl P Go.Instr.panicnil:=by unfold Go.Instr.panicnil;refine pl_bind (x:=sys .env) ⟨λ_=>trivial,.inl λos=>⟨_,rfl⟩⟩ λr=>?_;split;exact trivial;exact trivial
def pl_Instr_panic x:Pl P (Go.Instr.panic x):=by unfold Go.Instr.panic;have d1:=@pl_runtimePanic P;have d2:=@pl_Instr_panicnil P;exact tac
def pl_Op_intArith op k x y:Pl P (Go.Op.intArith op k x y):=by unfold Go.Op.intArith;exact tac
def pl_Op_intDiv op k x y:Pl P (Go.Op.intDiv op k x y):=by unfold Go.Op.intDiv;have d1:=@pl_runtimePanic P;exact tac
def pl_Op_intBits op k x y:Pl P (Go.Op.intBits op k x y):=by unfold Go.Op.intBits;exact tac
def pl_Op_shift op k x uyk y:Pl P (Go.Op.shift op k x uyk y):=by unfold Go.Op.shift;have d1:=@pl_runtimePanic P;exact tac
def pl_Op_intCmp op x y:Pl P (Go.Op.intCmp op x y):=by unfold Go.Op.intCmp;exact tac
def pl_Op_floatArith op k x y:Pl P (Go.Op.floatArith op k x y):=by unfold Go.Op.floatArith;exact tac
def pl_Op_floatCmp op k x y:Pl P (Go.Op.floatCmp op k x y):=by unfold Go.Op.floatCmp;exact tac
def pl_Conv_floatToFloat src bits dst:Pl P (Go.Conv.floatToFloat src bits dst):=by unfold Go.Conv.floatToFloat;exact tac
def pl_Op_Complex_arith op k x y:Pl P (Go.Op.Complex.arith op k x y):=by unfold Go.Op.Complex.arith;have d1:=@pl_Op_floatArith P;exact tac
def pl_Op_Complex_cmp op k x y:Pl P (Go.Op.Complex.cmp op k x y):=by unfold Go.Op.Complex.cmp;have d1:=@pl_asBool P;have d2:=@pl_Op_floatCmp P;exact tac
def pl_Op_Complex_conv src x dst:Pl P (Go.Op.Complex.conv src x dst):=by unfold Go.Op.Complex.conv;have d1:=@pl_Conv_floatToFloat P;exact tac
def pl_Op_Complex_product a b c d:Pl P (Go.Op.Complex.product a b c d):=by unfold Go.Op.Complex.product;exact tac
def pl_Op_Complex_corrected scale a b c d:Pl P (Go.Op.Complex.corrected scale a b c d):=by unfold Go.Op.Complex.corrected;exact tac
def pl_Op_Complex_quotient a b c d:Pl P (Go.Op.Complex.quotient a b c d):=by
 unfold Go.Op.Complex.quotient;have h1:∀x y,Pl P (Go.Op.Complex.mul x y):=λ_ _=>pl_Op_Complex_arith _ _ _ _;have h2:∀x y,Pl P (Go.Op.Complex.add x y):=λ_ _=>pl_Op_Complex_arith _ _ _ _;have h3:∀x y,Pl P (Go.Op.Complex.sub x y):=λ_ _=>pl_Op_Complex_arith _ _ _ _;have h4:∀x y,Pl P (Go.Op.Complex.quo x y):=λ_ _=>pl_Op_Complex_arith _ _ _ _
 (repeat' (first|exact trivial|with_reducible exact h1 _ _|with_reducible exact h2 _ _|with_reducible exact h3 _ _|with_reducible exact h4 _ _|with_reducible exact pl_Op_Complex_corrected _ _ _ _ _|with_reducible apply pl_Op_Complex_arith|with_reducible apply pl_Op_Complex_cmp|refine pl_bind ?_ (λ_=>?_)|with_reducible apply pl_ite|split|dsimp only))
def pl_Op_complexOp op k xr xi yr yi:Pl P (Go.Op.complexOp op k xr xi yr yi):=by have q:=λa b c d=>@pl_Op_Complex_quotient P a b c d;unfold Go.Op.complexOp;cases op<;>(repeat' (first|exact trivial|with_reducible exact q _ _ _ _|with_reducible apply pl_Op_Complex_product|with_reducible apply pl_Op_Complex_conv|with_reducible apply pl_Op_Complex_arith|with_reducible apply pl_Op_Complex_cmp|refine pl_bind ?_ (λ_=>?_)|with_reducible apply pl_ite|dsimp only))
def pl_Op_stringOp op x y:Pl P (Go.Op.stringOp op x y):=by unfold Go.Op.stringOp;exact tac
def pl_Op_twoPlaces a b:Pl P (Go.Op.twoPlaces a b):=by unfold Go.Op.twoPlaces;have d1:=@pl_byteOf P;exact tac
def pl_Op_addrSub k a b:Pl P (Go.Op.addrSub k a b):=by unfold Go.Op.addrSub;have d1:=@pl_Op_twoPlaces P;exact tac
def pl_Op_addrCmp op a b:Pl P (Go.Op.addrCmp op a b):=by unfold Go.Op.addrCmp;have d1:=@pl_Op_twoPlaces P;exact tac
def pl_Op_addrMod k a n:Pl P (Go.Op.addrMod k a n):=by unfold Go.Op.addrMod;have d1:=@pl_typeInfo P;have d2:=@pl_byteOf P;exact tac
def pl_Op_unary op x:Pl P (Go.Op.unary op x):=by unfold Go.Op.unary;have d1:=@pl_Op_intArith P;have d2:=@pl_Op_intBits P;exact tac
def pl_Conv_intToInt dst n:Pl P (Go.Conv.intToInt dst n):=by unfold Go.Conv.intToInt;exact tac
def pl_Conv_intToFloat dst n:Pl P (Go.Conv.intToFloat dst n):=by unfold Go.Conv.intToFloat;exact tac
def pl_Conv_floatToInt src bits dst:Pl P (Go.Conv.floatToInt src bits dst):=by unfold Go.Conv.floatToInt;exact tac
def pl_Conv_complexToComplex src re im dst:Pl P (Go.Conv.complexToComplex src re im dst):=by unfold Go.Conv.complexToComplex;have d1:=@pl_Conv_floatToFloat P;exact tac
def pl_Conv_intToString n:Pl P (Go.Conv.intToString n):=by unfold Go.Conv.intToString;exact tac
def pl_Conv_stringToBytes elem s:Pl P (Go.Conv.stringToBytes elem s):=by unfold Go.Conv.stringToBytes;have d1:=@pl_markStringish P;have d2:=@pl_newRow P;exact tac
def pl_Conv_bytesToString x:Pl P (Go.Conv.bytesToString x):=by unfold Go.Conv.bytesToString;have d1:=@pl_loadCells P;have d2:=@pl_Instr_slice P;exact tac
def pl_Conv_stringToRunes elem s:Pl P (Go.Conv.stringToRunes elem s):=by unfold Go.Conv.stringToRunes;have d1:=@pl_newRow P;exact tac
def pl_Conv_runesToString x:Pl P (Go.Conv.runesToString x):=by unfold Go.Conv.runesToString;have d1:=@pl_loadCells P;have d2:=@pl_Instr_slice P;exact tac
def pl_Conv_seenAt a:Pl P (Go.Conv.seenAt a):=by unfold Go.Conv.seenAt;have d1:=@pl_viewAt P;exact tac
def pl_Conv_unsafePointer src dst x:Pl P (Go.Conv.unsafePointer src dst x):=by unfold Go.Conv.unsafePointer;have d1:=@pl_cellsIn P;have d2:=@pl_asNumber P;have d3:=@pl_underlying P;have d4:=@pl_sizeOf P;have d5:=@pl_variablesAt P;have d6:=@pl_Instr_waits P;have d7:=@pl_Conv_seenAt P;exact tac
def pl_Builtin_holdsCells a cells:Pl P (Go.Builtin.holdsCells a cells):=by unfold Go.Builtin.holdsCells;exact tac
def pl_Builtin_mayShare size sLen n base x:Pl P (Go.Builtin.mayShare size sLen n base x):=by unfold Go.Builtin.mayShare;have d1:=@pl_Builtin_holdsCells P;exact tac
def pl_Builtin_lenOf:∀a0,Pl P (Go.Builtin.lenOf a0):=by intro a0;unfold Go.Builtin.lenOf;have d1:=@pl_Instr_slice P;exact tac
def pl_Builtin_firstCells size n:∀a0,Pl P (Go.Builtin.firstCells size n a0):=by intro a0;unfold Go.Builtin.firstCells;have d1:=@pl_loadCells P;have d2:=@pl_Instr_slice P;have d3:=@pl_Instr_extract P;exact tac
def pl_Builtin_append_ argTypes utype args:Pl P (Go.Builtin.append_ argTypes utype args):=by
 unfold Go.Builtin.append_;split
 ·(repeat' (first|exact trivial|with_reducible apply pl_underlying|with_reducible apply pl_sizeOf|with_reducible apply pl_asInt|with_reducible apply pl_typeInfo|with_reducible apply pl_runtimePanic|with_reducible exact pl_choose _|with_reducible apply pl_Builtin_lenOf|with_reducible apply pl_Builtin_firstCells|with_reducible apply pl_zeroValue|with_reducible apply pl_storeCells|with_reducible apply pl_Builtin_mayShare|with_reducible exact pl_noRoom|with_reducible exact pl_askRoom _|with_reducible apply pl_newRow|refine pl_bind ?_ (λ_=>?_)|with_reducible apply pl_ite|split|dsimp only))
 exact trivial
def pl_Builtin_cap_ argTypes utype args:Pl P (Go.Builtin.cap_ argTypes utype args):=by unfold Go.Builtin.cap_;have d1:=@pl_underlying P;have d2:=@pl_Instr_slice P;exact tac
def pl_Builtin_clear_ argTypes utype args:Pl P (Go.Builtin.clear_ argTypes utype args):=by unfold Go.Builtin.clear_;have d1:=@pl_underlying P;have d2:=@pl_zeroValue P;have d3:=@pl_storeCells P;have d4:=@pl_Instr_slice P;exact tac
def pl_Builtin_close_ uargTypes utype args:Pl P (Go.Builtin.close_ uargTypes utype args):=by
 unfold Go.Builtin.close_;rcases args with⟨_|⟨a,_|⟨b,l⟩⟩⟩;exact trivial
 ·cases a;case chan r=>
   cases r with
   |none=>exact pl_runtimePanic _|some r=>
   refine pl_bind (pl_getObj _) λo=>?_;cases o<;>first|exact trivial|skip
   dsimp only
   (repeat' (first|exact trivial|with_reducible apply pl_runtimePanic|with_reducible exact pl_setObj _ _|refine pl_bind ?_ (λ_=>?_)|with_reducible apply pl_ite|split|dsimp only))
  all_goals exact trivial
 exact trivial
def pl_Builtin_complex_ uargTypes utype args:Pl P (Go.Builtin.complex_ uargTypes utype args):=by
 unfold Go.Builtin.complex_;rcases args with⟨_|⟨a,_|⟨b,_|⟨c,l⟩⟩⟩⟩;exact trivial;exact trivial;cases a<;>cases b<;>first|exact trivial|skip
 exact pl_ite (c:=_=_) trivial trivial;exact trivial
def pl_Builtin_copy_ argTypes utype args:Pl P (Go.Builtin.copy_ argTypes utype args):=by unfold Go.Builtin.copy_;have d1:=@pl_underlying P;have d2:=@pl_sizeOf P;have d3:=@pl_storeCells P;have d4:=@pl_Instr_slice P;have d5:=@pl_Builtin_lenOf P;have d6:=@pl_Builtin_firstCells P;exact tac
def pl_Builtin_delete_ argTypes utype args:Pl P (Go.Builtin.delete_ argTypes utype args):=by unfold Go.Builtin.delete_;have d1:=@pl_underlying P;have d2:=@pl_Instr_checkKey P;have d3:=@pl_Instr_findKey P;exact tac
def pl_Builtin_imag_ uargTypes utype args:Pl P (Go.Builtin.imag_ uargTypes utype args):=by unfold Go.Builtin.imag_;rcases args with⟨_|⟨a,_|⟨b,l⟩⟩⟩;exact trivial;cases a<;>exact trivial;exact trivial
def pl_Builtin_len_ argTypes utype args:Pl P (Go.Builtin.len_ argTypes utype args):=by unfold Go.Builtin.len_;have d1:=@pl_underlying P;have d2:=@pl_Instr_slice P;exact tac
def pl_Builtin_max2:∀a0 a1,Pl P (Go.Builtin.max2 a0 a1):=by intro a0 a1;unfold Go.Builtin.max2;have d1:=@pl_asBool P;have d2:=@pl_Op_stringOp P;exact tac
def pl_Builtin_max_ uargTypes utype args:Pl P (Go.Builtin.max_ uargTypes utype args):=by unfold Go.Builtin.max_;have d1:=@pl_Builtin_max2 P;exact tac
def pl_Builtin_min2:∀a0 a1,Pl P (Go.Builtin.min2 a0 a1):=by intro a0 a1;unfold Go.Builtin.min2;have d1:=@pl_asBool P;have d2:=@pl_Op_stringOp P;exact tac
def pl_Builtin_min_ uargTypes utype args:Pl P (Go.Builtin.min_ uargTypes utype args):=by unfold Go.Builtin.min_;have d1:=@pl_Builtin_min2 P;exact tac
def pl_Builtin_real_ uargTypes utype args:Pl P (Go.Builtin.real_ uargTypes utype args):=by unfold Go.Builtin.real_;rcases args with⟨_|⟨a,_|⟨b,l⟩⟩⟩;exact trivial;cases a<;>exact trivial;exact trivial
def pl_Builtin_unsafeAdd_ uargTypes utype args:Pl P (Go.Builtin.unsafeAdd_ uargTypes utype args):=by
 unfold Go.Builtin.unsafeAdd_;rcases args with⟨_|⟨a,_|⟨b,_|⟨c,l⟩⟩⟩⟩;exact trivial;cases a<;>exact trivial
 ·cases a<;>first|exact trivial|skip
  dsimp only
  (repeat' (first|exact trivial|with_reducible apply pl_asInt|with_reducible apply pl_viewAt|with_reducible exact pl_shape _|with_reducible apply pl_program|refine pl_bind ?_ (λ_=>?_)|with_reducible apply pl_ite|split|dsimp only))
 cases a<;>exact trivial
def pl_Builtin_unsafeSlice_ argTypes utype args:Pl P (Go.Builtin.unsafeSlice_ argTypes utype args):=by
 unfold Go.Builtin.unsafeSlice_;rcases args with⟨_|⟨a,_|⟨b,_|⟨c,l⟩⟩⟩⟩;exact trivial;cases a<;>exact trivial
 ·cases a<;>first|exact trivial|skip
  dsimp only
  (repeat' (first|exact trivial|with_reducible apply pl_asInt|with_reducible apply pl_viewAt|with_reducible apply pl_elemOf|with_reducible apply pl_runtimePanic|with_reducible apply pl_typeInfo|with_reducible apply pl_sizeOf|with_reducible apply pl_variablesAt|with_reducible exact pl_newObj _|with_reducible exact pl_shape _|with_reducible apply pl_program|refine pl_bind ?_ (λ_=>?_)|with_reducible apply pl_ite|split|dsimp only))
 cases a<;>exact trivial
def pl_Builtin_unsafeSliceData_ uargTypes type args:Pl P (Go.Builtin.unsafeSliceData_ uargTypes type args):=by
 unfold Go.Builtin.unsafeSliceData_;rcases args with⟨_|⟨a,_|⟨b,l⟩⟩⟩;exact trivial
 ·cases a;case slice r n c=>cases r with|none=>exact trivial|some r=>exact pl_ite (c:=_≠_) trivial (pl_bind (pl_viewAt _) λb=>pl_ite trivial (pl_bind (pl_elemOf _) λ_=>pl_bind (pl_newObj _) λ_=>trivial))
  all_goals exact trivial
 exact trivial
def pl_Builtin_unsafeString_ argTypes utype args:Pl P (Go.Builtin.unsafeString_ argTypes utype args):=by
 unfold Go.Builtin.unsafeString_;rcases args with⟨_|⟨a,_|⟨b,_|⟨c,l⟩⟩⟩⟩;exact trivial;cases a<;>exact trivial
 ·cases a<;>first|exact trivial|skip
  dsimp only
  (repeat' (first|exact trivial|with_reducible apply pl_asInt|with_reducible apply pl_loadBytes|with_reducible apply pl_elemOf|with_reducible apply pl_runtimePanic|with_reducible apply pl_variablesAt|with_reducible exact pl_freeze _ _|refine pl_bind ?_ (λ_=>?_)|with_reducible apply pl_ite|split|dsimp only))
 cases a<;>exact trivial
def pl_Builtin_unsafeStringData_ uargTypes type args:Pl P (Go.Builtin.unsafeStringData_ uargTypes type args):=by
 unfold Go.Builtin.unsafeStringData_;rcases args with⟨_|⟨a,_|⟨b,l⟩⟩⟩;exact trivial
 ·cases a<;>first|exact trivial|skip
  refine pl_ite (c:=_=_) ?_ ?_<;>
  (repeat' (first|exact trivial|with_reducible apply pl_newRow|with_reducible apply pl_markStringish|with_reducible apply pl_elemOf|with_reducible exact pl_choose _|with_reducible exact pl_freeze _ _|refine pl_bind ?_ (λ_=>?_)|with_reducible apply pl_ite|split|dsimp only))
 cases a<;>exact trivial
def pl_movedNumber t x y:Pl P (Go.movedNumber t x y):=by unfold Go.movedNumber;have d1:=@pl_asNumber P;have d2:=@pl_behindNumber P;have d3:=@pl_underlying P;have d4:=@pl_Builtin_unsafeAdd_ P;exact tac
def pl_movedPointer t x y:Pl P (Go.movedPointer t x y):=by unfold Go.movedPointer;have d1:=@pl_numberAt P;have d2:=@pl_Builtin_unsafeAdd_ P;exact tac
def pl_eqGuard op t x y a b:Pl P (Go.eqGuard op t x y a b):=by unfold Go.eqGuard;have d1:=@pl_part P;have d2:=@pl_Op_eqGuardIn P;exact tac
def pl_binOp op xType x y:Pl P (Go.binOp op xType x y):=by unfold Go.binOp;have d1:=@pl_behindNumber P;have d2:=@pl_underlying P;have d3:=@pl_Op_equal P;have d4:=@pl_Op_intArith P;have d5:=@pl_Op_intDiv P;have d6:=@pl_Op_intBits P;have d7:=@pl_Op_shift P;have d8:=@pl_Op_intCmp P;have d9:=@pl_Op_floatArith P;have d10:=@pl_Op_floatCmp P;have d11:=@pl_Op_complexOp P;have d12:=@pl_Op_stringOp P;have d13:=@pl_Op_addrSub P;have d14:=@pl_Op_addrCmp P;have d15:=@pl_Op_addrMod P;have d16:=@pl_movedNumber P;have d17:=@pl_movedPointer P;exact tac
def pl_convert src dst x:Pl P (Go.convert src dst x):=by unfold Go.convert;have d1:=@pl_markStringish P;have d2:=@pl_underlying P;have d3:=@pl_Instr_slice P;have d4:=@pl_Conv_floatToFloat P;have d5:=@pl_Conv_intToInt P;have d6:=@pl_Conv_intToFloat P;have d7:=@pl_Conv_floatToInt P;have d8:=@pl_Conv_complexToComplex P;have d9:=@pl_Conv_intToString P;have d10:=@pl_Conv_stringToBytes P;have d11:=@pl_Conv_bytesToString P;have d12:=@pl_Conv_stringToRunes P;have d13:=@pl_Conv_runesToString P;have d14:=@pl_Conv_unsafePointer P;exact tac
def pl_resolve ρ c type:Pl P (Go.resolve ρ c type):=by unfold Go.resolve;have d1:=@pl_Deferred_ofValue P;exact tac
end
end Tp
namespace Tp
section
variable{P:Program}{α β:Type}
def NextOK:Next->Prop
 |.value _|.skip|.enter _ _|.round _ _ _ _ _|.defer _|.recover|.spawn _|.comm _ _ _=>True|.coroswitch _ b=>b=true|.row r _=>r= "runtime.print$piece"|_=>False
abbrev Nx(P:Program)(s:Sem Next):Prop:=Plain P NextOK s
def nx_bind{x:Sem α}{f}(hx:Pl P x)(hf:∀a,Nx P (f a)):Nx P (x >>= f):=Plain.bind (λa _=>hf a) hx
def nx_val {x} (hx : Pl P x) : Nx P (do pure (.value (<- x))) := nx_bind hx λ_ => trivial
def nx_unit {x} (hx : Pl P x) : Nx P (do x; pure .skip) := nx_bind hx λ_ => trivial
def ByHand(P:Program)(fn:Func):Prop:=Extern.findNext fn=none/\∀e,Extern.find fn=some e->∀args,Pl P (e args)
def Bodied(P:Program):Prop:=∀(f:Nat)(fn:Func),P.funcs[f]? =some fn->(fn.name== "runtime.NumGoroutine")=false/\(fn.body.isNone=false∨ByHand P fn)
def nx_callFunc(hB:Bodied P) f args:Nx P (Go.callFunc f args):=by unfold Go.callFunc;show Nx P (match P.funcs[f]? with|none=>_|some fn=>_);split;exact trivial;rename_i fn hf;obtain⟨h2,h1⟩:=hB f fn hf;rw[h2];rcases h1 with h1|⟨h3,h4⟩;rw[h1];exact trivial;cases h1:fn.body.isNone with|false=>exact trivial|true=>simp only[Bool.false_eq_true,if_false,if_true];refine⟨trivial,?_⟩;rw[h3];cases he:Extern.find fn with|none=>show Nx P (if _ then _ else _);split;exact trivial;exact trivial|some e=>exact nx_val (h4 e he args)
def nv_bind{x}{f:α->Sem β}{Φ}(hx:Pl P x)(hf:∀a,Plain P Φ (f a)):Plain P Φ (x >>= f):=Plain.bind (λa _=>hf a) hx
def nv_runtimePanic Φ e:Plain P Φ (runtimePanic e:Sem α):=by unfold runtimePanic;refine Plain.bind (Φ:=λ_=>True) (λp _=>?_) (show Plain P _ program from trivial);cases e;all_goals (repeat' (first|exact trivial|with_reducible apply pl_elemOf|with_reducible apply pl_newVar|with_reducible apply pl_typeStr|with_reducible apply pl_typeInfo|refine nv_bind ?_ (λ_=>?_)|split|(intro _)|dsimp only))
def nx_ite{c}[Decidable c]{a b}(h1:Nx P a)(h2:Nx P b):Nx P (if c then a else b):=by split<;>assumption
def nx_piece a b args:Nx P (Extern.PrintPieces.piece a b args):=by
 unfold Extern.PrintPieces.piece;split;case h_2=>exact trivial
 split;case h_2=>exact trivial
 rename_i first _ _ p _
 dsimp only;generalize(args.size==2)=last;by_cases hp:p.size>65536;rw[if_pos hp];exact trivial;rw[if_neg hp];cases first
 refine nx_bind (pl_writeFd _ _) λ_=>?_;cases last;exact rfl;exact⟨trivial,⟨Nat.zero_lt_one,trivial⟩⟩;refine⟨trivial,λv=>?_⟩;cases v;case bool c=>cases c;cases last;refine⟨Nat.zero_lt_one,?_⟩;exact nx_bind (x:=writeFd 2 p) (pl_writeFd _ _) λ_=>rfl;refine⟨Nat.zero_lt_one,?_⟩;exact nx_bind (x:=writeFd 2 p) (pl_writeFd _ _) λ_=>trivial;exact id
 all_goals exact id
def nx_callMethod(hB:Bodied P) recv name args:Nx P (Go.callMethod recv name args):=by unfold Go.callMethod;split;refine nx_bind (show Pl P program from trivial) λp=>?_;refine nx_bind (pl_method _ _ _ _) λr=>?_;exact nx_callFunc hB _ _;exact nv_runtimePanic _ _;exact trivial
def nx_printMarked ln consts argTypes args:Nx P (Go.Builtin.printMarked ln consts argTypes args):=by unfold Go.Builtin.printMarked;refine nx_bind (pl_Builtin_pieces _ _ _ _) λps=>?_;split;exact trivial;exact nx_piece _ _ _
def nx_builtin b argTypes type consts args:Nx P (Go.builtin b argTypes type consts args):=by
 unfold Go.builtin;cases b;all_goals first
  |exact nx_printMarked _ _ _ _
  |exact trivial
  |exact nx_bind (pl_typeInfo _) λ_=>trivial
  |(refine nx_val ?_;first|apply pl_Builtin_append_|apply pl_Builtin_cap_|apply pl_Builtin_clear_|apply pl_Builtin_close_|apply pl_Builtin_complex_|apply pl_Builtin_copy_|apply pl_Builtin_delete_|apply pl_Builtin_imag_|apply pl_Builtin_len_|apply pl_Builtin_max_|apply pl_Builtin_min_|apply pl_Instr_panic|apply pl_Builtin_real_|apply pl_Builtin_unsafeAdd_|apply pl_Builtin_unsafeSlice_|apply pl_Builtin_unsafeSliceData_|apply pl_Builtin_unsafeString_|apply pl_Builtin_unsafeStringData_)
def nx_yield l args:Nx P (Instr.yield l args):=by unfold Instr.yield;refine nx_bind (pl_Instr_getLoop _) λr=>?_;split;exact nx_bind (show Pl P (stuck _:Sem PUnit)from trivial) λ_=>trivial;exact trivial
def nx_invoke(hB:Bodied P) t args:Nx P (Go.invoke t args):=by unfold Go.invoke;split;exact nv_runtimePanic _ _;exact nx_builtin _ _ _ _ _;exact nx_callFunc hB _ _;split;exact nx_callMethod hB _ _ _;exact trivial;split;refine nx_bind (pl_underlying _) λd=>?_;exact nx_callMethod hB _ _ _;exact trivial;split;exact nx_bind (pl_receiverVia _ _ _ _) λ_=>nx_callFunc hB _ _;exact trivial;exact nx_yield _ _;exact trivial;exact rfl
def nx_execOp(hB:Bodied P) ρ o:Nx P (Go.execOp ρ o):=by
 unfold Go.execOp;cases o.op;all_goals first
  |exact trivial
  |(refine nx_val ?_;first|apply pl_Instr_alloc|apply pl_Instr_box|apply pl_Instr_build|apply pl_Instr_buildSlice|apply pl_Instr_loadAt|apply pl_Instr_waits|apply pl_Op_unary|apply pl_convert|apply pl_Instr_arrayAt|apply pl_Instr_makeInterface|apply pl_Instr_makeFunc|apply pl_Instr_makeMap|apply pl_Instr_makeChan|apply pl_Instr_makeSlice|apply pl_Instr_sliceAt|apply pl_Instr_fieldAt|apply pl_Instr_field|apply pl_Instr_indexAt|apply pl_Instr_index|apply pl_Instr_lookup|apply pl_Instr_mapEntry|apply pl_Instr_range|apply pl_Instr_next|apply pl_Instr_entry|apply pl_Instr_typeAssert|apply pl_Instr_extract|apply pl_Instr_panic|exact pl_bind (pl_eqGuard _ _ _ _ _ _) (λ_=>pl_binOp _ _ _ _))
  |(refine nx_unit ?_;first|apply pl_Instr_storeAt|apply pl_Instr_ready|apply pl_Instr_mapUpdate|apply pl_Instr_entryStore)
  |exact nx_bind (pl_asBool _) λ_=>trivial
  |exact nx_bind (pl_resolve _ _ _) λ_=>nx_invoke hB _ _
  |exact nx_bind (pl_resolve _ _ _) λ_=>trivial
  |(dsimp only;(repeat' (first|exact trivial|exact nv_runtimePanic _ _|exact(show Pl P program from trivial)|with_reducible apply pl_nilAhead|with_reducible apply pl_underlying|with_reducible apply pl_zeroValue|with_reducible apply pl_mapMA|refine nx_bind ?_ (λ_=>?_)|refine pl_bind ?_ (λ_=>?_)|with_reducible apply nx_ite|split|(intro _)|dsimp only)))
end
end Tp
