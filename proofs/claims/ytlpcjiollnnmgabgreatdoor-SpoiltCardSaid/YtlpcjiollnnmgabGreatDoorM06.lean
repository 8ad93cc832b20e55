import Derived.Test.YtlpcjiollnnmgabGreatDoorM05
import Derived.Conc.Beside
import Derived.Conc.CrowdComm
set_option maxRecDepth 100000
set_option maxHeartbeats 8000000
set_option linter.all false
def Go.Item.TY:Go.Item->Prop
 |.call ..=>False|.extern row _=>row= "runtime.print$piece"|_=>True
namespace Go.Proofs.YtlpcjiollnnmgabGreatDoor
namespace Rn
section
variable{P:Program}{E:Env}{X:List Nat}{α β:Type}
def Gp t (hz : ∀ e, P.underlying t = some (.slice e) -> jN P e) {l l' c c'} (hl : V E X l l') (hc : V E X c c') : RG P E (λX' v v' => V E X' v v') X (Instr.makeSlice t l c) (Instr.makeSlice t l' c') := by
  unfold Instr.makeSlice
  refine ay (bF t) ?_
  rintro d _ ⟨rfl, hu⟩
  split
  · rename_i elem
    refine ay (R := Eq) (AE hl) λlen _ e => ?_
    subst e
    refine ay (R := Eq) (AE hc) λcap _ e => ?_
    subst e
    refine cJ (gF elem) λinfo => ?_
    dsimp only
    have il : ∀ (z : Array Value) (n a b : Nat), (∀ (i : Nat) v, z[i]? = some v -> Clean v) -> RG P E (λX' v v' => V E X' v v') X
        (do let x <- newRow elem ((Array.range n).map (z[· % z.size]!)); pure (.slice (some x) a b))
        (do let x <- newRow elem ((Array.range n).map (z[· % z.size]!)); pure (.slice (some x) a b)) := by
      intro z n a b ql
      refine jS (qL elem (VA.lY ql n)) ?_
      rintro Y x x' ⟨_, ha⟩
      rw [ha.eq]
      exact ⟨_, rfl, .slice _ _ _ _ _ _ ha.1⟩
    have hgo : RG P E (λX' v v' => V E X' v v') X
        (do askRoom ((IntKind.i64.wrap cap).toNat * info.bytes)
            let n := (IntKind.i64.wrap cap).toNat * (<- sizeOf elem)
            let zero <- if n = 0 then pure #[] else do pure (<- zeroValue elem).cells
            let a <- newRow elem ((Array.range n).map (zero[· % zero.size]!))
            pure (.slice (some a) (IntKind.i64.wrap len).toNat (IntKind.i64.wrap cap).toNat))
        (do askRoom ((IntKind.i64.wrap cap).toNat * info.bytes)
            let n := (IntKind.i64.wrap cap).toNat * (<- sizeOf elem)
            let zero <- if n = 0 then pure #[] else do pure (<- zeroValue elem).cells
            let a <- newRow elem ((Array.range n).map (zero[· % zero.size]!))
            pure (.slice (some a) (IntKind.i64.wrap len).toNat (IntKind.i64.wrap cap).toNat)) := by
      refine ay (AD _) λ_ _ _ => ?_
      refine cJ (dM _) λn => ?_
      dsimp only
      refine dR ?_ ?_
      · exact ay (R := λa b => a = #[] /\ b = #[]) (az ⟨rfl, rfl⟩) (λa b ⟨e1, e2⟩ => by subst e1; subst e2; exact il _ _ _ _ (λi v h => by simp at h))
      · refine ay (gD _ (hz _ hu)) ?_
        rintro z z' ⟨e, hc⟩
        subst e
        exact ay (R := λa b => a = z.cells /\ b = z.cells) (az ⟨rfl, rfl⟩) (λa b ⟨e1, e2⟩ => by subst e1; subst e2; exact il _ _ _ _ hc.cells)
    refine dR ?_ hgo
    refine dR ?_ (dR ?_ ?_)
    all_goals first
      | (refine dU.bind (Φ := λ_ _ _ => False) (λ_ _ _ h => h.elim) (fY ?_); exact trivial)
      | skip
    refine cJ (m8 _) λn => ?_
    refine dU.bind (Φ := λ_ _ _ => False) (λ_ _ _ h => h.elim) (fY ?_)
    exact trivial
  · exact trivial
def Mz t:RG P E (λX' v v'=>V E X' v v') X (Instr.makeMap t none) (Instr.makeMap t none):=by unfold Instr.makeMap;refine jS (qM (.map #[] #[] 0 ⟨rfl,λi v v' h=>by simp at h⟩)) ?_;rintro Y r b⟨_,hr⟩;exact⟨_,rfl,.map _ _ hr⟩
def aeG t(ht:∀d,P.underlying t=some d->(∀k e,d≠.map k e)/\∀a b,d≠.chan a b) ty{v v'}(hv:V E X v v'):RE P E (V E X) X (Builtin.len_ #[t] ty #[v]) (Builtin.len_ #[t] ty #[v']):=by
 unfold Builtin.len_;show RE P E (V E X) X (underlying t >>= λd=>_) (underlying t >>= λd=>_);refine ay (bF t) ?_;rintro d _⟨rfl,hu⟩;have bZ:=ht d hu;cases d with
 |array n e=>exact az (.int _ _)|string=>cases hv with|string s=>exact az (.int _ _)|_=>exact trivial
 |slice e=>cases hv with|fp n c=>exact az (.int _ _)|slice=>exact az (.int _ _)|_=>exact trivial
 |pointer arr=>refine cJ (bL arr) λd2=>?_;split;exact az (.int _ _);exact trivial|map k e=>exact absurd rfl (bZ.1 k e)
 |chan a b=>exact absurd rfl (bZ.2 a b)|_=>exact trivial
def cF{s}{f:α->Sem β}{a}(h:norm P s=.pure a):norm P (s >>= f)=norm P (f a):=by show norm P (s.bind f)=_;rw[en P f s,h];rfl
theorem Fa:∀s:Sem α,norm P (norm P s)=norm P s
 |.program k=>Fa (k P)|.pure _|.load _ _ _|.store _ _ _ _|.new _ _|.shape _ _|.freeze _ _ _|.frozen _ _|.getObj _ _|.setObj _ _ _|.choose _ _|.sys _ _|.mark _ _|.halt _=>rfl
def lF{s}{f:α->Sem β}{a}(h:norm P s=.halt a):norm P (s >>= f)=.halt a:=by show norm P (s.bind f)=_;rw[en P f s,h];rfl
def xy{t}(hs:P.underlying t=some .string) em em' n m v v':RE P E (λ_ _=>True) X (Instr.checkKey em (n+1) t v) (Instr.checkKey em' (m+1) t v'):=by unfold Instr.checkKey;refine ay (bF t) ?_;rintro d _⟨rfl,hu⟩;rw[hs]at hu;cases hu;exact az trivial
def Nh{t}(hs:P.underlying t=some .string) x y:(∃a b,x=.string a/\y=.string b/\norm P (Op.equal t x y)=.pure (a==b))∨∃h,eu h/\norm P (Op.equal t x y)=.halt h:=by
 have:norm P (Op.equal t x y)=norm P (Op.equalIn Op.maxDepth t x y):=rfl;rw[this,show Op.maxDepth=(Op.maxDepth-1)+1 from rfl];unfold Op.equalIn;rw[cF (fI hs)];cases x with
 |string a=>cases y with|string b=>exact .inl ⟨a,b,rfl,rfl,rfl⟩|_=>(refine .inr ⟨_,?_,rfl⟩;exact trivial)
 |_=>(refine .inr ⟨_,?_,rfl⟩;exact trivial)
def FR(E:Env)(X:List Nat)(l l':List MapEntry)(i:Nat)(r r':Option (Nat×Value)):Prop:=r=none/\r'=none∨∃j v v' s,r=some (i+j,v)/\r'=some (i+j,v')/\V E X v v'/\(∃e e',l[j]? =some e/\l'[j]? =some e'/\e.key=.string s/\e'.key=.string s)
structure ML(E:Env)(X:List Nat)(l l':List MapEntry):Prop where
 size:l.length=l'.length
 el:∀(i:Nat)(v v':MapEntry),l[i]? =some v->l'[i]? =some v'->ME E X v v'
def MA.list{a a'}(h:MA E X a a'):ML E X a.toList a'.toList:=⟨by simpa using h.size,λi v v' h1 h2=>h.el i v v' (by simpa using h1) (by simpa using h2)⟩
theorem yc{k k'}(hk:V E X k k'):∀l l' i,ML E X l l'->Instr.findNow .string k l i=none∨∃r r' s,Instr.findNow .string k l i=some r/\Instr.findNow .string k' l' i=some r'/\FR E X l l' i r r'/\(r≠none->k=.string s/\k'=.string s/\∀j v,r=some (i+j,v)->∃e e',l[j]? =some e/\l'[j]? =some e'/\e.key=.string s/\e'.key=.string s)
 |[],l',i,h=>by have:l'=[]:=List.eq_nil_of_length_eq_zero (by have:=h.size;simpa using this.symm);subst this;exact .inr ⟨none,none,ByteArray.empty,rfl,rfl,.inl ⟨rfl,rfl⟩,λh=>absurd rfl h⟩|e::l,[],i,h=>by have:=h.size;simp at this|e::l,e'::l',i,h=>by
  have he:=h.el 0 e e' rfl rfl;unfold Instr.findNow;cases hk with
  |string s=>
   cases e with|mk key val born=>
   cases e' with|mk axe aoU auW=>
   cases he.key with
   |string s2=>
    have h1:Instr.sameNow .string (.string s) (.string s2)=some (s==s2):=rfl;dsimp only;rw[h1];cases ZQ:(s==s2)with
    |true=>
    obtain rfl:s=s2:=(Go.MapKept.bytes_beq s s2).1 ZQ;exact .inr ⟨_,_,s,rfl,rfl,.inr ⟨0,val,aoU,s,rfl,rfl,he.val,_,_,rfl,rfl,rfl,rfl⟩,λ_=>⟨rfl,rfl,λj v hj=>by
    have:j=0:=by injection hj with hj;injection hj with hj _;omega
    subst this;exact⟨_,_,rfl,rfl,rfl,rfl⟩⟩⟩
    |false=>
    dsimp only;rcases yc (.string s:V E X _ _) l l' (i+1) ⟨by have:=h.size;simpa using this,λj v v' a b=>h.el (j+1) v v' (by simpa using a) (by simpa using b)⟩with hn|⟨r,r',s3,h2,h3,h4,h5⟩;exact .inl hn;refine .inr ⟨r,r',s3,h2,h3,?_,λhr=>?_⟩;rcases h4 with⟨rfl,rfl⟩|⟨j,v,v',s4,rfl,rfl,hv,e1,e2,a1,a2,a3⟩;exact .inl ⟨rfl,rfl⟩;exact .inr ⟨j+1,v,v',s4,by rw[show i+1+j=i+(j+1)by omega],by rw[show i+1+j=i+(j+1)by omega],hv,e1,e2,by simpa using a1,by simpa using a2,a3⟩;obtain⟨b1,b2,b3⟩:=h5 hr;refine⟨b1,b2,λj v hj=>?_⟩;cases j with
    |zero=>rcases h4 with⟨rfl,rfl⟩|⟨j',v2,v2',s4,rfl,rfl,_⟩;exact absurd rfl hr;injection hj with hj;injection hj with hj _;omega
    |succ j=>obtain⟨x,x',c1,c2,c3⟩:=b3 j v (by rw[hj,show i+1+j=i+(j+1)by omega]);exact⟨x,x',by simpa using c1,by simpa using c2,c3⟩
   |_=>exact .inl rfl
  |_=>exact .inl rfl
theorem nG{t}(hs:P.underlying t=some .string) k:∀l i,Instr.findNow .string k l i=none->∃h,eu h/\norm P (Instr.findAsking t k l i)=.halt h
 |[],i,h=>by cases h
 |e::l,i,h=>by
  unfold Instr.findAsking;unfold Instr.findNow at h;rcases Nh (P:=P) hs k e.key with⟨a,b,rfl,hb,he⟩|⟨x,pd,he⟩;rw[cF he];rw[hb]at h;have h1:Instr.sameNow .string (.string a) (.string b)=some (a==b):=rfl;rw[h1]at h;cases DU:(a==b)with
  |true=>rw[DU]at h;cases h
  |false=>rw[DU]at h;exact nG hs _ l (i+1) h
  exact⟨x,pd,lF he⟩
def AA{t}(hs:P.underlying t=some .string){k k'}(hk:V E X k k'){l l'}(hl:ML E X l l'):RE P E (λr r'=>FR E X l l' 0 r r'/\(r≠none->∃s,k=.string s/\k'=.string s/\∀j v,r=some (j,v)->∃e e',l[j]? =some e/\l'[j]? =some e'/\e.key=.string s/\e'.key=.string s)) X (Instr.findKey t k l) (Instr.findKey t k' l'):=by unfold Instr.findKey;refine ay (bF t) ?_;rintro d _⟨rfl,hu⟩;rw[hs]at hu;cases hu;rcases yc hk l l' 0 hl with hn|⟨r,r',s,h1,h2,h3,h4⟩;rw[hn];obtain⟨x,pd,hx⟩:=nG hs k l 0 hn;exact nt (s:=.halt x) (by rw[hx];rfl) pd;rw[h1,h2];refine az ⟨h3,λhr=>?_⟩;obtain⟨a,b,c⟩:=h4 hr;exact⟨s,a,b,λj v hj=>c j v (by simpa using hj)⟩
def LU(P:Program)(t:TypeId):Prop:=∃k e,P.underlying t=some (.map k e)/\P.underlying k=some .string/\jN P e
def Sc {t} (ht : LU P t) {x x' i i'} (hx : V E X x x') (hi : V E X i i') ok : RE P E (V E X) X (Instr.lookup t x i ok) (Instr.lookup t x' i' ok) := by
  obtain ⟨k, e, h1, h2, h3⟩ := ht
  unfold Instr.lookup
  refine ay (bF t) ?_
  rintro d _ ⟨rfl, hu⟩
  rw [h1] at hu
  cases hu
  dsimp only
  have fin : ∀ a a', MA E X a a' -> RE P E (V E X) X
      (do Instr.checkKey a.isEmpty 10000 k i
          let (v, ok') <- match <- Instr.findKey k i a.toList with
            | some (_, v) => pure (v, true)
            | none => do pure (<- zeroValue e, false)
          pure (if ok then .tuple #[v, .bool ok'] else v))
      (do Instr.checkKey a'.isEmpty 10000 k i'
          let (v, ok') <- match <- Instr.findKey k i' a'.toList with
            | some (_, v) => pure (v, true)
            | none => do pure (<- zeroValue e, false)
          pure (if ok then .tuple #[v, .bool ok'] else v)) := by
    intro a a' ha
    refine ay (xy h2 _ _ 9999 9999 _ _) λ_ _ _ => ?_
    refine ay (AA h2 hi ha.list) ?_
    rintro r r' ⟨hr, _⟩
    have fin : ∀ v v' b, V E X v v' -> RE P E (V E X) X (pure (if ok = true then Value.tuple #[v, .bool b] else v)) (pure (if ok = true then Value.tuple #[v', .bool b] else v')) := by
      intro v v' b hv
      cases ok with
      | true => exact az (V.eI ((VA.one hv).push (.bool b)))
      | false => exact az hv
    rcases hr with ⟨rfl, rfl⟩ | ⟨j, v, v', s, rfl, rfl, hv, _⟩
    · refine ay (gD e h3) ?_
      rintro z z' ⟨rfl, hz⟩
      exact fin _ _ false (hz.self X)
    · exact fin _ _ true hv
  cases hx with
  | Bu => exact fin #[] #[] ⟨rfl, λi v v' h => by simp at h⟩
  | map r b h =>
    refine ay (gG h) λo o' ho => ?_
    cases ho with
    | map a a' n ha => exact fin a a' ha
    | _ => exact trivial
  | undef _ hf => exact trivial
  | _ => exact trivial
def MA.modify{a a'}(h:MA E X a a') i{f f'}(hf:∀e e',ME E X e e'->ME E X (f e) (f' e')):MA E X (a.modify i f) (a'.modify i f'):=by refine⟨by simp[h.size],λj x x' h1 h2=>?_⟩;rw[Array.getElem?_modify]at h1 h2;split at h1;rename_i hj;rw[if_pos hj]at h2;obtain⟨y,hy,rfl⟩:=Option.map_eq_some_iff.1 h1;obtain⟨y',hy',rfl⟩:=Option.map_eq_some_iff.1 h2;exact hf _ _ (h.el j y y' hy hy');rename_i hj;rw[if_neg hj]at h2;exact h.el j x x' h1 h2
def MA.push{a a'}(h:MA E X a a'){e e'}(he:ME E X e e'):MA E X (a.push e) (a'.push e'):=by refine⟨by simp[h.size],λi x x' h1 h2=>?_⟩;rw[Array.getElem?_push]at h1 h2;rw[<-h.size]at h2;split at h1;rename_i hi;rw[if_pos hi]at h2;cases h1;cases h2;exact he;rename_i hi;rw[if_neg hi]at h2;exact h.el i x x' h1 h2
def yq s:Instr.sameBits 10000 (.string s) (.string s)=true:=by unfold Instr.sameBits;exact(Go.MapKept.bytes_beq s s).2 rfl
def GC{t}(ht:LU P t){m m' k k' x x'}(hm:V E X m m')(hk:V E X k k')(hx:V E X x x'):RE P E (λ_ _=>True) X (Instr.mapUpdate t m k x) (Instr.mapUpdate t m' k' x'):=by
 obtain⟨kt,e,h1,h2,h3⟩:=ht;unfold Instr.mapUpdate;refine ay (bF t) ?_;rintro d _⟨rfl,hu⟩;rw[h1]at hu;cases hu;dsimp only;cases hm with
 |map r b h=>
  refine ay (gG h) λo o' ho=>?_;cases ho with
  |map a a' n ha=>
  dsimp only;refine ay (xy h2 _ _ 9999 9999 _ _) λ_ _ _=>?_;refine ay (AA h2 hk ha.list) ?_;rintro r1 r1'⟨hr,hs⟩;rcases hr with⟨rfl,rfl⟩|⟨j,v,v',s,rfl,rfl,hv,_⟩;exact vy h (.map _ _ _ (ha.push ⟨hk,hx,rfl⟩));obtain⟨s,rfl,rfl,rQ⟩:=hs (by simp);obtain⟨e1,e1',a1,a2,a3,a4⟩:=rQ _ v rfl;have b1:(((a[0+j]?).map (·.key)).getD (.string s):Value)=.string s:=by rw[show a[0+j]? =some e1 by simpa using a1];exact a3
  have b2:(((a'[0+j]?).map (·.key)).getD (.string s):Value)=.string s:=by rw[show a'[0+j]? =some e1' by simpa using a2];exact a4
  dsimp only;rw[b1,b2];have aS:(Instr.keyThatStays (.string s) (.string s):Sem Value)=pure (.string s):=by unfold Instr.keyThatStays;rw[yq];rfl
  rw[aS];exact vy h (.map _ _ _ (ha.modify _ λe e' he=>⟨.string s,hx,he.born⟩))
  |_=>exact trivial
 |undef _ hf=>exact trivial|_=>exact trivial
def VT {t} (ht : ∀ d, P.underlying t = some d -> ∃ k e, d = .map k e) {x x'} (hx : V E X x x') : RG P E (λX' v v' => V E X' v v') X (Instr.range t x) (Instr.range t x') := by
  unfold Instr.range
  refine ay (bF t) ?_
  rintro d _ ⟨rfl, hu⟩
  obtain ⟨k, e, rfl⟩ := ht d hu
  have fin : ∀ o o', mP E X o o' -> RG P E (λX' v v' => V E X' v v') X (do pure (.pointer (some ⟨<- newObj o, 0, none⟩)) : Sem Value) (do pure (.pointer (some ⟨<- newObj o', 0, none⟩)) : Sem Value) := by
    intro o o' ho
    refine jS (qM ho) ?_
    rintro Y r b ⟨_, hr⟩
    exact ⟨_, rfl, .ptr _ _ _ _ hr⟩
  cases hx with
  | Bu => exact fin _ _ (.Fi 0 #[] 0)
  | map r b h =>
    refine ay (gG h) λo o' ho => ?_
    cases ho with
    | map a a' n ha => exact fin _ _ (.iter r b n #[] n h)
    | _ => exact trivial
  | _ => exact trivial
def MA.get{a a'}(h:MA E X a a')(i:Nat):(∃v v',a[i]? =some v/\a'[i]? =some v'/\ME E X v v')∨(a[i]? =none/\a'[i]? =none):=by
 by_cases hi:i<a.size;have KH:i<a'.size:=by rw[<-h.size];exact hi
 exact .inl ⟨a[i],a'[i],Array.getElem?_eq_getElem hi,Array.getElem?_eq_getElem KH,h.el i _ _ (Array.getElem?_eq_getElem hi) (Array.getElem?_eq_getElem KH)⟩;exact .inr ⟨Array.getElem?_eq_none (by omega),Array.getElem?_eq_none (by rw[<-h.size];omega)⟩
def ML.cons{e e' l l'}(h:ML E X (e::l) (e'::l')):ME E X e e'/\ML E X l l':=⟨h.el 0 e e' rfl rfl,by have:=h.size;simpa using this,λi v v' h1 h2=>h.el (i+1) v v' (by simpa using h1) (by simpa using h2)⟩
def ML.push{e e' l l'}(he:ME E X e e')(h:ML E X l l'):ML E X (e::l) (e'::l'):=⟨by simp[h.size],λi v v' h1 h2=>by
 cases i with
 |zero=>cases h1;cases h2;exact he
 |succ i=>exact h.el i v v' (by simpa using h1) (by simpa using h2)⟩
def ML.ae7{l'}(h:ML E X [] l'):l'=[]:=List.eq_nil_of_length_eq_zero (by have:=h.size;simpa using this.symm)
theorem ML.filter(p:Nat->Bool):∀ {l l':List MapEntry},ML E X l l'->ML E X (l.filter λe=>p e.born) (l'.filter λe=>p e.born)
 |[],l',h=>by rw[h.ae7];exact⟨rfl,λi v v' h1=>by simp at h1⟩|e::l,[],h=>by have:=h.size;simp at this|e::l,e'::l',h=>by obtain⟨h1,h2⟩:=h.cons;rw[List.filter_cons,List.filter_cons,<-h1.born];split;exact(ML.filter p h2).push h1;exact ML.filter p h2
theorem ML.all(p:Nat->Bool):∀ {l l':List MapEntry},ML E X l l'->(l.all λe=>p e.born)=(l'.all λe=>p e.born)
 |[],l',h=>by rw[h.ae7]|e::l,[],h=>by have:=h.size;simp at this|e::l,e'::l',h=>by obtain⟨h1,h2⟩:=h.cons;rw[List.all_cons,List.all_cons,h1.born,ML.all p h2]
theorem ML.find(p:Nat->Bool):∀ {l l':List MapEntry},ML E X l l'->(∃e e',l.find? (λe=>p e.born)=some e/\l'.find? (λe=>p e.born)=some e'/\ME E X e e')∨(l.find? (λe=>p e.born)=none/\l'.find? (λe=>p e.born)=none)
 |[],l',h=>by rw[h.ae7];exact .inr ⟨rfl,rfl⟩|e::l,[],h=>by have:=h.size;simp at this|e::l,e'::l',h=>by obtain⟨h1,h2⟩:=h.cons;rw[List.find?_cons,List.find?_cons,<-h1.born];cases p e.born with|true=>exact .inl ⟨e,e',rfl,rfl,h1⟩|false=>exact ML.find p h2
def ML.ma{l l'}(h:ML E X l l'):MA E X l.toArray l'.toArray:=⟨by simpa using h.size,λi v v' h1 h2=>h.el i v v' (by simpa using h1) (by simpa using h2)⟩
def MA.filter(p:Nat->Bool){a a'}(h:MA E X a a'):MA E X (a.filter λe=>p e.born) (a'.filter λe=>p e.born):=by have:=(ML.filter p h.list).ma;rwa[<-Array.toList_filter,<-Array.toList_filter,Array.toArray_toList,Array.toArray_toList]at this
def MA.append{a a' b b'}(h:MA E X a a')(h':MA E X b b'):MA E X (a++b) (a'++b'):=by refine⟨by simp[h.size,h'.size],λi x x' h1 h2=>?_⟩;rw[Array.getElem?_append]at h1 h2;rw[<-h.size]at h2;split at h1;rename_i hi;rw[if_pos hi]at h2;exact h.el i x x' h1 h2;rename_i hi;rw[if_neg hi]at h2;exact h'.el _ x x' h1 h2
def aaJ{i i'}(hi:V E X i i') ty:RE P E (V E X) X (Instr.next i false ty) (Instr.next i' false ty):=by
 unfold Instr.next;have over:RE P E (V E X) X (pure (.tuple #[.bool false])) (pure (.tuple #[.bool false])):=az (V.eI (VA.one (.bool false)));cases hi with
 |ptr r b off sp h=>
  cases off with|succ n=>exact trivial|zero=>
  refine ay (gG h) λo o' ho=>?_;cases ho with
  |Fi s x n=>exact over|iter m m' s x n hm=>
   refine ay (gG hm) λo o' ho=>?_;cases ho with
   |map a a' c ha=>
   dsimp only;have lU:=ha.size;have DR:a.isEmpty=a'.isEmpty:=by simp[Array.isEmpty,lU]
   have gJ:a.all (λe=>decide (e.born≥n))=a'.all (λe=>decide (e.born≥n)):=by rw[<-Array.all_toList,<-Array.all_toList];exact ML.all (λx=>decide (x≥n)) ha.list
   rw[DR,gJ];refine dR trivial ?_;have adv:=ha.filter λy=> !x.contains y;have hold:=adv.filter λy=>decide (y<s);have abx:=adv.filter λy=>decide (y≥s);have Qy:=hold.append abx;have hoe:((a.filter λe=> !x.contains e.born).filter λe=>decide (e.born<s)).isEmpty=((a'.filter λe=> !x.contains e.born).filter λe=>decide (e.born<s)).isEmpty:=by have:=hold.size;unfold Array.isEmpty;rw[this]
   rw[<-hoe];have apC:∀pre:Array (Option MapEntry),(pre++(((a.filter λe=> !x.contains e.born).filter λe=>decide (e.born<s))++((a.filter λe=> !x.contains e.born).filter λe=>decide (e.born≥s))).map some).size=(pre++(((a'.filter λe=> !x.contains e.born).filter λe=>decide (e.born<s))++((a'.filter λe=> !x.contains e.born).filter λe=>decide (e.born≥s))).map some).size:=by intro pre;have:=Qy.size;simp only[Array.size_append,Array.size_map]at this|-;omega
   rw[<-apC];refine cJ (m8 _) λpick=>?_;have mM:∀pre:Array (Option MapEntry),(∀y∈pre,y=none)->((∃e e',(pre++(((a.filter λe=> !x.contains e.born).filter λe=>decide (e.born<s))++((a.filter λe=> !x.contains e.born).filter λe=>decide (e.born≥s))).map some)[pick]? =some (some e)/\(pre++(((a'.filter λe=> !x.contains e.born).filter λe=>decide (e.born<s))++((a'.filter λe=> !x.contains e.born).filter λe=>decide (e.born≥s))).map some)[pick]? =some (some e')/\ME E X e e')∨((pre++(((a.filter λe=> !x.contains e.born).filter λe=>decide (e.born<s))++((a.filter λe=> !x.contains e.born).filter λe=>decide (e.born≥s))).map some)[pick]? =some none/\(pre++(((a'.filter λe=> !x.contains e.born).filter λe=>decide (e.born<s))++((a'.filter λe=> !x.contains e.born).filter λe=>decide (e.born≥s))).map some)[pick]? =some none)∨(pre++(((a.filter λe=> !x.contains e.born).filter λe=>decide (e.born<s))++((a.filter λe=> !x.contains e.born).filter λe=>decide (e.born≥s))).map some)[pick]? =none):=by intro pre To;generalize((a.filter λe=> !x.contains e.born).filter λe=>decide (e.born<s))++((a.filter λe=> !x.contains e.born).filter λe=>decide (e.born≥s))=u at Qy|-;generalize((a'.filter λe=> !x.contains e.born).filter λe=>decide (e.born<s))++((a'.filter λe=> !x.contains e.born).filter λe=>decide (e.born≥s))=u' at Qy|-;rw[Array.getElem?_append,Array.getElem?_append];by_cases hp:pick<pre.size;rw[if_pos hp,if_pos hp,Array.getElem?_eq_getElem hp,To _ (Array.getElem_mem hp)];exact .inr (.inl ⟨rfl,rfl⟩);rw[if_neg hp,if_neg hp,Array.getElem?_map,Array.getElem?_map];rcases Qy.get (pick-pre.size)with⟨e,e',h1,h2,h3⟩|⟨h1,h2⟩;rw[h1,h2];exact .inl ⟨e,e',rfl,rfl,h3⟩;rw[h1];exact .inr (.inr rfl)
   have To:∀y∈(if((a.filter λe=> !x.contains e.born).filter λe=>decide (e.born<s)).isEmpty=true then #[none]else #[]:Array (Option MapEntry)),y=none:=by intro y hy;split at hy;simpa using hy;simp at hy
   rcases mM _ To with⟨e,e',h1,h2,h3⟩|⟨h1,h2⟩|h1;rw[h1,h2];dsimp only;rw[<-h3.born];exact ay (vy h (.iter _ _ _ _ _ hm)) λ_ _ _=>az (V.eI (((VA.one (.bool true)).push h3.key).push h3.val));rw[h1,h2];exact over;rw[h1];exact trivial
   |_=>exact trivial
  |_=>exact trivial
 |_=>exact trivial
def V9{i i'}(hi:V E X i i'):RE P E (V E X) X (Instr.entry i) (Instr.entry i'):=by
 unfold Instr.entry;cases hi with
 |ptr r b off sp h=>
  cases off with|succ n=>exact trivial|zero=>
  refine ay (gG h) λo o' ho=>?_;cases ho with
  |iter m m' s x n hm=>
   dsimp only;cases x.back? with|none=>exact trivial|some st=>
   refine ay (gG hm) λo o' ho=>?_;cases ho with
   |map a a' c ha=>dsimp only;refine dR trivial ?_;have:=ML.find (λy=>y==st) ha.list;rw[Array.find?_toList,Array.find?_toList]at this;rcases this with⟨e,e',h1,h2,h3⟩|⟨h1,h2⟩;rw[h1,h2];exact az (V.eI ((VA.one h3.key).push h3.val));rw[h1];exact trivial
   |_=>exact trivial
  |_=>exact trivial
 |_=>exact trivial
def V6{x x'}(hx:V E X x x'):RE P E Eq X (Builtin.lenOf x) (Builtin.lenOf x'):=by cases hx<;>first|exact trivial|exact az rfl
def VA.clean{a}(h:∀(i:Nat) v,a[i]? =some v->Clean v):VA E X a a:=⟨rfl,λi v v' h1 h2=>by rw[h1]at h2;cases h2;exact(h i v h1).self X⟩
def mD size n{x x'}(hx:V E X x x'):RE P E (VA E X) X (Builtin.firstCells size n x) (Builtin.firstCells size n x'):=by
 cases hx with
 |string s=>refine az (VA.clean λi v h=>?_);rw[Array.getElem?_map]at h;obtain⟨b,_,rfl⟩:=Option.map_eq_some_iff.1 h;exact .int _ _
 |fp n c=>exact az (VA.empty X)|slice r b off sp n c h=>exact n5 (a:=⟨r,off,sp⟩) (a':=⟨b,off,sp⟩) ⟨h,rfl,rfl⟩ _
 |_=>exact trivial
def VA.zeroCells{z}(hz:∀(i:Nat) v,z[i]? =some v->Clean v) n:VA E X (Builtin.zeroCells z n) (Builtin.zeroCells z n):=by unfold Builtin.zeroCells;refine VA.clean λi v h=>?_;rw[Array.getElem?_map]at h;obtain⟨b,hb,rfl⟩:=Option.map_eq_some_iff.1 h;by_cases h0:z.size=0;rw[h0,Nat.mul_zero]at hb;simp at hb;have aM:b % z.size<z.size:=Nat.mod_lt _ (by omega);refine hz (b % z.size) _ ?_;rw[getElem!_pos z _ aM,Array.getElem?_eq_getElem aM]
theorem dc.rg:∀ {s s':Sem α}{Ψ:List Nat->α->α->Prop},dc P s->RG P E Ψ X s s'
 |.program k,s',Ψ,h=>dc.rg (s:=k P) h|.shape r k,s',Ψ,h=>.inr h|.frozen r k,s',Ψ,h=>h|.mark m k,s',Ψ,h=>.inr h|.halt x,_,_,h=>h|.pure _,_,_,h|.load _ _ _,_,_,h|.store _ _ _ _,_,_,h|.new _ _,_,_,h|.getObj _ _,_,_,h|.setObj _ _ _,_,_,h|.choose _ _,_,_,h|.sys _ _,_,_,h|.freeze _ _ _,_,_,h=>h.elim
inductive Looks(P:Program):∀ {α:Type},Sem α->Prop
 |pure {α:Type} (a:α):Looks P (.pure a)
 |shape {α:Type} (r:Nat) (k:Option (TypeId×Nat)->Sem α) (h:∀z,Looks P (k z)):Looks P (.shape r k)
 |frozen {α:Type} (r:Addr) (k:Bool->Sem α) (h:∀z,Looks P (k z)):Looks P (.frozen r k)
def Looks.Yj{s}(h:Looks P s){f:α->Sem β}(hf:∀a,dc P (f a)):dc P (s >>= f):=by induction h with|pure a=>exact hf a|shape r k _ ih=>exact λz=>ih z|frozen r k _ ih=>exact λz=>ih z
def Looks.bind{s}(h:Looks P s){f:α->Sem β}(hf:∀a,Looks P (f a)):Looks P (s >>= f):=by induction h with|pure a=>exact hf a|shape r k _ ih=>exact .shape _ _ λz=>ih z|frozen r k _ ih=>exact .frozen _ _ λz=>ih z
def xJ a n:Looks P (Builtin.holdsCells a n):=by unfold Builtin.holdsCells;refine .shape _ _ λz=>?_;cases z<;>exact .pure _
def Bx size yt n base x : Looks P (Builtin.mayShare size yt n base x) := by
  unfold Builtin.mayShare
  have h2 : Looks P (match x with | .slice (some b) _ _ => do pure (!(<- Builtin.holdsCells b (n * size)) || base.any (·.block == b.block)) | _ => pure false : Sem Bool) := by
    split
    · exact (xJ _ _).bind λ_ => .pure _
    · exact .pure _
  dsimp only
  cases base with
  | none => exact h2
  | some a =>
    refine (xJ _ _).bind λb => (Looks.frozen _ _ λ_ => .pure _ : Looks P (frozen _)).bind λb2 => ?_
    show Looks P (if (!(b && !b2)) = true then _ else _)
    split
    · exact .pure _
    · exact h2
structure Q0(P:Program)(t u:TypeId):Prop where
 zero:∀e,P.underlying t=some (.slice e)->jN P e
 Ra:∃d,P.underlying u=some d/\∀k,d≠.int k
def xn{t u}(dO:Q0 P t u) ty{base Zb}(hb:AO E X base Zb) yt aaA{x x'}(hx:V E X x x'):RG P E (λX' v v'=>V E X' v v') X (Builtin.append_ #[t,u] ty #[.slice base yt aaA,x]) (Builtin.append_ #[t,u] ty #[.slice Zb yt aaA,x']):=by
 obtain⟨hz,d2,rP,hd2⟩:=dO;unfold Builtin.append_;simp only[List.getElem?_toArray,List.getElem?_cons_zero,List.getElem?_cons_succ];refine ay (bF t) ?_;rintro d _⟨rfl,hu⟩;have hsv:V E X (.slice base yt aaA) (.slice Zb yt aaA):=by rcases hb with⟨rfl,rfl⟩|⟨b,b',rfl,rfl,hb⟩;exact .fp _ _;rw[hb.eq];exact .slice _ _ _ _ _ _ hb.1
 cases d with
 |slice elem=>
 dsimp only;have hz:=hz elem hu;refine cJ (dM elem) λsize=>?_;refine ay (bF u) ?_;rintro d _⟨rfl,hu3⟩;rw[rP]at hu3;cases hu3;have hf:∀d:TypeDesc,(∀k,d≠.int k)->(match d with|.int _=>true|_=>false)=false:=by intro d hd;cases d<;>first|rfl|exact absurd rfl (hd _)
 refine ay (R:=λa b=>a=false/\b=false) (az ⟨hf _ hd2,hf _ hd2⟩) ?_;rintro _ _⟨rfl,rfl⟩;simp only[Bool.false_eq_true,if_false,Bool.not_false,if_true];refine ay (R:=Eq) (V6 hx) ?_;rintro n _ rfl;refine dR ?_ ?_;refine ay (mD size n hx) λc c' hc=>?_;rcases hb with⟨rfl,rfl⟩|⟨b,b',rfl,rfl,hb⟩;exact tV (az (.fp _ _)) λ_ _ h=>h;refine ay (mB (hb.add _) _ _ 0 (by simpa using hc)) λ_ _ _=>?_;rw[hb.eq];exact tV (az (.slice _ _ _ _ _ _ hb.1)) λ_ _ h=>h;refine cJ (gF elem) λinfo=>?_;refine dR ?_ ?_;refine dU.bind (Φ:=λ_ _ _=>False) (λ_ _ _ h=>h.elim) (fY ?_);exact trivial;refine cJ (gF elem) λinfo=>?_;refine dR ?_ ?_;refine dc.rg (dc.bind ((Bx _ _ _ _ _).Yj λb=>?_));split<;>exact trivial;refine cJ (m8 _) λapa=>?_;refine cJ (gF elem) λinfo=>?_;refine ay (AD _) λ_ _ _=>?_;refine ay (mD size yt hsv) λc c' hc=>?_;refine ay (mD size n hx) λe e' he=>?_;refine ay (gD elem hz) ?_;rintro z z'⟨rfl,ql⟩;refine jS (qL elem ((hc.append he).append (VA.zeroCells ql.cells _))) ?_;rintro Y r r'⟨_,hr⟩;rw[hr.eq];exact⟨_,rfl,.slice _ _ _ _ _ _ hr.1⟩
 |_=>exact trivial
def RN{t u}(dO:Q0 P t u) ty{s s' x x'}(hs:V E X s s')(hx:V E X x x'):RG P E (λX' v v'=>V E X' v v') X (Builtin.append_ #[t,u] ty #[s,x]) (Builtin.append_ #[t,u] ty #[s',x']):=by
 have Yj:(∀b n c,s≠.slice b n c)->∀s',RG P E (λX' v v'=>V E X' v v') X (Builtin.append_ #[t,u] ty #[s,x]) s':=by
  intro hn s';refine nt (s:=norm P (Builtin.append_ #[t,u] ty #[s,x])) (Fa _) ?_;unfold Builtin.append_;simp only[List.getElem?_toArray,List.getElem?_cons_zero,List.getElem?_cons_succ];cases hu:P.underlying t with
  |none=>
  have:∃h,eu h/\norm P (underlying t)=.halt h:=by
   unfold underlying;rw[cF (a:=P) rfl,hu]
   (refine⟨_,?_,rfl⟩;exact trivial)
  obtain⟨h,pd,this⟩:=this;rw[lF this];exact pd
  |some d=>
  rw[cF (fI hu)];cases d with
  |slice elem=>cases s<;>first|exact trivial|exact absurd rfl (hn _ _ _)
  |_=>exact trivial
 cases hs with|fp n c=>exact xn dO ty (.inl ⟨rfl,rfl⟩) n c hx|slice r b off sp n c h=>exact xn dO ty (ao h) n c hx|_=>exact Yj (by intros;simp) _
inductive NX(E:Env)(X:List Nat):Next->Next->Prop
 |value (v v':Value) (h:V E X v v'):NX E X (.value v) (.value v')
 |skip:NX E X .skip .skip
 |enter (f:FuncId) (a a':Array Value) (hF:E.F f) (h:VA E X a a'):NX E X (.enter f a) (.enter f a')
def j5 {s s'} (h : RG P E (λX' v v' => V E X' v v') X s s') : RG P E (NX E) X (do pure (.value (<- s))) (do pure (.value (<- s'))) := jS h λY v v' hv => gC (.value _ _ hv)
def fF {s s'} (h : RE P E (V E X) X s s') : RG P E (NX E) X (do pure (.value (<- s))) (do pure (.value (<- s'))) := ay h λv v' hv => gC (.value _ _ hv)
def PF {s s'} (h : RE P E (λ_ _ => True) X s s') : RG P E (NX E) X (do s; pure .skip) (do s'; pure .skip) := ay h λ_ _ _ => gC .skip
def Z8(P:Program)(E:Env):Prop:=∀(f:Nat)(fn:Func),E.F f->P.funcs[f]? =some fn->fn.body.isNone=false/\(fn.name== "runtime.NumGoroutine")=false
def Jy(hB:Z8 P E) f(hF:E.F f){a a'}(ha:VA E X a a'):RG P E (NX E) X (callFunc f a) (callFunc f a'):=by unfold callFunc;refine qN ?_;cases hf:P.funcs[f]? with|none=>exact trivial|some fn=>obtain⟨h1,h2⟩:=hB f fn hF hf;dsimp only;rw[h1,h2];simp only[Bool.false_eq_true,if_false];exact gC (.enter _ _ _ hF ha)
def VA.Nw{ev zu}{Q:Operand->Prop}(gr:∀x,Q x->V E X (ev x) (zu x))(l:Array Operand)(h:∀x∈l,Q x):VA E X (l.map ev) (l.map zu):=VA.map ev zu l λx hx=>gr x (h x hx)
def JQ args : ∃ h, eu h /\ norm P (do let d <- Deferred.ofValue (.func (.method "") #[.nilIface] #[]) args; invoke d.target d.args : Sem Next) = .halt h := by
  have h1 : (#[Value.nilIface] ++ args)[0]? = some .nilIface := by rw [Array.getElem?_append_left (by simp)]; rfl
  rw [cF (a := { target := .fn (.method "") #[], args := #[.nilIface] ++ args }) rfl]
  unfold invoke
  dsimp only
  rw [h1]
  (refine ⟨_, ?_, rfl⟩; exact trivial)
def OY(P:Program)(Q:Operand->Prop)(c:Call):Prop:=(∀x∈c.args,Q x)/\match c.callee with
 |.value f=>Q f
 |.builtin .len=>∃t x,c.argTypes=#[t]/\c.args=#[x]/\∀d,P.underlying t=some d->(∀k e,d≠.map k e)/\∀a b,d≠.chan a b
 |.builtin .append=>∃t u x y,c.argTypes=#[t,u]/\c.args=#[x,y]/\Q0 P t u
 |_=>False
def aaE (hB : Z8 P E) {Q ev zu} (gr : ∀ x, Q x -> V E X (ev x) (zu x)) c (hc : OY P Q c) ty : RG P E (NX E) X (do let d <- resolve ev c ty; invoke d.target d.args) (do let d <- resolve zu c ty; invoke d.target d.args) := by
  obtain ⟨callee, args, argTypes⟩ := c
  obtain ⟨h1, h2⟩ := hc
  have Yi := VA.Nw gr args h1
  unfold resolve
  cases callee with
  | value f =>
    dsimp only
    have hf := gr f h2
    revert hf
    generalize ev f = v
    generalize zu f = v'
    intro hf
    cases hf with
    | func g a a' c c' hF e1 e2 e3 e4 =>
      show RG P E (NX E) X (callFunc g _) (callFunc g _)
      exact Jy hB g hF (((VA.mk e1 e2 : VA E X a a').append Yi).append ⟨e3, e4⟩)
    | nilFunc => exact fY (e := .nilDeref) (e' := .nilDeref) trivial
    | undef _ h =>
      obtain ⟨h0, pd, hh⟩ := JQ (P := P) (args.map ev)
      exact nt (s := .halt h0) hh.symm pd
    | _ => exact trivial
  | builtin b =>
    cases b with
    | len =>
      obtain ⟨t, x, e1, e2, h3⟩ := h2
      dsimp only at e1 e2
      subst e1; subst e2
      have hx := gr x (h1 x (by simp))
      show RG P E (NX E) X (do pure (.value (<- Builtin.len_ #[t] ty (#[x].map ev)))) (do pure (.value (<- Builtin.len_ #[t] ty (#[x].map zu))))
      rw [show (#[x].map ev : Array Value) = #[ev x] by simp, show (#[x].map zu : Array Value) = #[zu x] by simp]
      exact fF (aeG t h3 ty hx)
    | append =>
      obtain ⟨t, u, x, y, e1, e2, h3⟩ := h2
      dsimp only at e1 e2
      subst e1; subst e2
      have hx := gr x (h1 x (by simp))
      have hy := gr y (h1 y (by simp))
      show RG P E (NX E) X (do pure (.value (<- Builtin.append_ #[t, u] ty (#[x, y].map ev)))) (do pure (.value (<- Builtin.append_ #[t, u] ty (#[x, y].map zu))))
      rw [show (#[x, y].map ev : Array Value) = #[ev x, ev y] by simp, show (#[x, y].map zu : Array Value) = #[zu x, zu y] by simp]
      exact j5 (RN h3 ty hx hy)
    | _ => exact h2.elim
  | invoke r n => exact h2.elim
def QO(Q:Operand->Prop):Option Operand->Prop
 |none=>True|some x=>Q x
def acC(P:Program)(E:Env)(Q:Operand->Prop)(o:Oper):Prop:=match o.op with
 |.move x|.assign x|.nilCheck x|.load _ x|.box _ x|.extract x _|.entry x=>Q x
 |.pick c a b=>Q c/\Q a/\Q b
 |.alloc e=>jN P e
 |.build t l=>jN P t/\∀x∈l,Q x.2
 |.buildSlice t _ l=>(∀e,P.underlying t=some (.slice e)->jN P e)/\∀x∈l,Q x.2
 |.store _ a x=>Q a/\Q x
 |.binOp op _ x y _=>u5 op/\Q x/\Q y
 |.convert s d x=>OX P s d/\Q x
 |.makeFunc (.func f) a c=>E.F f/\(∀x∈a,Q x)/\∀x∈c,Q x
 |.makeMap _ none=>True
 |.makeSlice t l c=>(∀e,P.underlying t=some (.slice e)->jN P e)/\Q l/\Q c
 |.slice _ x a b c=>Q x/\QO Q a/\QO Q b/\QO Q c
 |.fieldAddr t x _=>IC P t/\Q x
 |.indexAddr _ x i|.index _ x i=>Q x/\Q i
 |.lookup t x i _=>LU P t/\Q x/\Q i
 |.mapUpdate t m k x=>LU P t/\Q m/\Q k/\Q x
 |.range t x=>(∀d,P.underlying t=some d->∃k e,d=.map k e)/\Q x
 |.next x s=>s=false/\Q x
 |.call c=>OY P Q c
 |_=>False
def PR.of{ev zu:Operand->Value}{Q:Operand->Prop}(gr:∀x,Q x->V E X (ev x) (zu x))(l:Array (Nat×Operand))(h:∀x∈l,Q x.2):PR E X (l.map λ(i,x)=>(i,ev x)) (l.map λ(i,x)=>(i,zu x)):=by
 refine⟨by simp,λi p p' h1 h2=>?_⟩;rw[Array.getElem?_map]at h1 h2;cases hl:l[i]? with
 |none=>rw[hl]at h1;cases h1
 |some y=>rw[hl]at h1 h2;cases h1;cases h2;exact⟨rfl,gr _ (h _ (Array.mem_of_getElem? hl))⟩
theorem VO.of{ev zu Q}(gr:∀x,Q x->V E X (ev x) (zu x)):∀x,QO Q x->VO E X (x.map ev) (x.map zu)
 |Option.none,_=>.none|Option.some x,h=>.some (gr x h)
def RM(hB:Z8 P E)(hG:P.globals.size<=E.G){Q ev zu}(gr:∀x,Q x->V E X (ev x) (zu x)) o(ho:acC P E Q o):RG P E (NX E) X (execOp ev o) (execOp zu o):=by
 obtain⟨dst,op,type,pos⟩:=o;cases op with
 |move x=>exact gC (.value _ _ (gr x ho))|assign x=>exact gC (.value _ _ (gr x ho))
 |pick c a b=>obtain⟨h1,h2,h3⟩:=ho;refine ay (R:=Eq) (Sj (gr c h1)) ?_;rintro b' _ rfl;cases b' with|true=>exact gC (.value _ _ (gr a h2))|false=>exact gC (.value _ _ (gr b h3))
 |alloc e=>exact j5 (VW e ho)|box e x=>exact j5 (aeE e (gr x ho))
 |build t l=>exact fF (Wa t ho.1 (PR.of gr l ho.2))|buildSlice t n l=>exact j5 (Dz t ho.1 n (PR.of gr l ho.2))
 |load t a=>exact fF (Se t (gr a ho))|store t a x=>exact PF (MJ t (gr a ho.1) (gr x ho.2))
 |nilCheck x=>have hx:=gr x ho;unfold execOp;dsimp only;revert hx;generalize ev x=v;generalize zu x=v';intro hx;cases hx with|ptrN=>exact fY (e:=.nilDeref) (e':=.nilDeref) trivial|nilIface=>exact fY (e:=.nilDeref) (e':=.nilDeref) trivial|nilFunc=>exact fY (e:=.nilDeref) (e':=.nilDeref) trivial|undef _ h=>exact trivial|ptr r b o s h=>exact gC (.value _ _ (.ptr r b o s h))|func f a a' c c' hF h1 h2 h3 h4=>exact gC (.value _ _ (.func f a a' c c' hF h1 h2 h3 h4))|_=>exact gC (.value _ _ (by constructor<;>assumption))
 |binOp op t x y t2=>
 have hg:∀a b,(eqGuard op t x y a b:Sem Unit)=pure ():=by intro a b;have:=ho.1;cases op<;>first|exact ho.1.elim|rfl
 unfold execOp;dsimp only;rw[hg,hg];exact j5 (VU op ho.1 t hG (gr x ho.2.1) (gr y ho.2.2))
 |convert s d x=>exact fF (MU s d ho.1 (gr x ho.2))|makeFunc fn a c=>cases fn with|func f=>have h1:=VA.Nw gr a ho.2.1;have h2:=VA.Nw gr c ho.2.2;exact gC (.value _ _ (.func f _ _ _ _ ho.1 h1.size h1.el h2.size h2.el))|_=>exact ho.elim
 |makeMap t r=>cases r with|none=>exact j5 (Mz t)|some r=>exact ho.elim
 |makeSlice t l c=>exact j5 (Gp t ho.1 (gr l ho.2.1) (gr c ho.2.2))|slice t x a b c=>exact fF (MK t (gr x ho.1) (VO.of gr a ho.2.1) (VO.of gr b ho.2.2.1) (VO.of gr c ho.2.2.2))
 |fieldAddr t x i=>exact fF (MS t ho.1 (gr x ho.2) i)|indexAddr t x i=>exact fF (MR t (gr x ho.1) (gr i ho.2))
 |index t x i=>exact fF (V8 t (gr x ho.1) (gr i ho.2))|lookup t x i ok=>exact fF (Sc ho.1 (gr x ho.2.1) (gr i ho.2.2) ok)
 |mapUpdate t m k x=>exact PF (GC ho.1 (gr m ho.2.1) (gr k ho.2.2.1) (gr x ho.2.2.2))|range t x=>exact j5 (VT ho.1 (gr x ho.2))
 |next x s=>obtain⟨rfl,h2⟩:=ho;exact fF (aaJ (gr x h2) type)
 |entry x=>exact fF (V9 (gr x ho))|extract x i=>exact fF (MT i (gr x ho))
 |call c=>exact aaE hB gr c ho type|_=>exact ho.elim
end
end Rn
namespace Tp
def gW:GStep->World
 |.go _ w _|.comm _ _ _ _ w _|.spawn _ _ w _|.count _ w _|.timer _ _ w _|.alone _ _ w _|.newcoro _ _ _ w _|.coroswitch _ _ _ w _|.collect _ w _|.watch _ w _|.ended _ w _=>w
def gE:GStep->Array Event
 |.go _ _ es|.comm _ _ _ _ _ es|.spawn _ _ _ es|.count _ _ es|.timer _ _ _ es|.alone _ _ _ es|.newcoro _ _ _ _ es|.coroswitch _ _ _ _ es|.collect _ _ es|.watch _ _ es|.ended _ _ es=>es
def reG(τ:Nat->Question->Nat)(n:Nat):GStep->GStep
 |.go g w es=>.go g (w.re τ n) es|.comm g a b c w es=>.comm g a b c (w.re τ n) es|.spawn g c w es=>.spawn g c (w.re τ n) es|.count g w es=>.count g (w.re τ n) es|.timer g o w es=>.timer g o (w.re τ n) es|.alone g o w es=>.alone g o (w.re τ n) es|.newcoro g c d w es=>.newcoro g c d (w.re τ n) es|.coroswitch g c b w es=>.coroswitch g c b (w.re τ n) es|.collect g w es=>.collect g (w.re τ n) es|.watch g w es=>.watch g (w.re τ n) es|.ended o w es=>.ended o (w.re τ n) es
def bI(l:List Item):Prop:=∀it∈l,it.TY
def gT(cs:List Frame):Prop:=∀c∈cs,bI c.todo
def bot:Frame->List Frame->CallKind
 |fr,[]=>fr.kind|_,c::cs=>bot c cs
theorem LB{fr fr'}(h:fr'.kind=fr.kind):∀cs,bot fr' cs=bot fr cs
 |[]=>h|_::_=>rfl
structure cm(dy:Option Dying)(fr:Frame)(cs:List Frame):Prop where
 todo:bI fr.todo
 rest:gT cs
 low:dy.isSome=true->bot fr cs=.report
def bI.tail{x k}(h:bI (x::k)):bI k:=λit hi=>h it (List.mem_cons_of_mem _ hi)
def bI.cons{x k}(h:x.TY)(hk:bI k):bI (x::k):=λit hi=>by rcases List.mem_cons.1 hi with rfl|hi;exact h;exact hk it hi
def bI.nil:bI []:=λ_ h=>by cases h
def gT.cons{c cs}(h:bI c.todo)(hc:gT cs):gT (c::cs):=λx hx=>by rcases List.mem_cons.1 hx with rfl|hx;exact h;exact hc x hx
def gT.tail{c cs}(h:gT (c::cs)):gT cs:=λx hx=>h x (List.mem_cons_of_mem _ hx)
def gT.head{c cs}(h:gT (c::cs)):bI c.todo:=h c List.mem_cons_self
def yb{fr:Frame}(h:bI fr.todo) v:bI (fr.finish v).todo:=by unfold Frame.finish;split;rename_i hh;rw[hh]at h;exact bI.cons trivial h.tail;rename_i hh;rw[hh]at h;exact bI.cons trivial h.tail;rename_i hh;rw[hh]at h;exact h.tail;rename_i hh;rw[hh]at h;exact(h _ List.mem_cons_self).elim;rename_i hh;rw[hh]at h;exact h.tail;exact h
def Om{fr:Frame}(h:bI fr.todo) l:bI (fr.raise l).todo:=by unfold Frame.raise;split<;>exact h
def iG P f args k:bI (Frame.enter P f args k).todo:=bI.cons trivial .nil
def Co l f t a b k:bI (Frame.round l f t a b k).todo:=bI.cons trivial (bI.cons trivial (bI.cons trivial .nil))
def uO{fr}:∀ {cs:List Frame}{v:Value}{fy:List Frame},gT cs->tryRecover fr cs=some (v,fy)->gT fy:=by
 intro cs;induction cs generalizing fr with
 |nil=>intro v fy _ h;unfold tryRecover at h;cases hk:fr.kind<;>simp[hk]at h
 |cons c cs ih=>
 intro v fy hc h;unfold tryRecover at h;cases hk:fr.kind<;>simp only[hk]at h<;>try cases h
 split at h;cases h;exact gT.cons (show bI c.todo from hc.head) hc.tail;cases h;obtain⟨⟨v1,r1⟩,h1,h2⟩:=Option.map_eq_some_iff.1 h;cases h2;exact gT.cons hc.head (ih hc.tail h1)
def wM:∀ {cs:List Frame}{l:Nat}{v:Value}{fy:List Frame},gT cs->tryRecoverLoop l cs=some (v,fy)->gT fy:=by
 intro cs;induction cs with
 |nil=>intro l v fy _ h;cases h
 |cons c cs ih=>intro l v fy hc h;unfold tryRecoverLoop at h;obtain⟨⟨v1,r1⟩,h1,h2⟩:=Option.map_eq_some_iff.1 h;cases h2;refine gT.cons hc.head ?_;split at h1;exact ih hc.tail h1;split at h1;exact uO hc.tail h1;exact ih hc.tail h1;exact ih hc.tail h1
theorem wO{id}:∀ {k k':List Item},bI k->exitTo id k=some k'->bI k'
 |[],_,_,h=>by cases h
 |it::k,k',hf,h=>by unfold exitTo at h;split at h;rename_i hh;cases hh;split at h;cases h;exact hf.tail;exact wO hf.tail h;rename_i hh;cases hh;exact wO hf.tail h;cases h
theorem wN{l}:∀ {k k':List Item},bI k->gotoIn l k=some k'->bI k'
 |[],_,_,h=>by cases h
 |it::k,k',hf,h=>by unfold gotoIn at h;split at h;rename_i hh;cases hh;split at h;cases h;exact bI.cons trivial (bI.cons trivial hf.tail);exact wN hf.tail h;rename_i hh;cases hh;exact wN hf.tail h;cases h
def ya(fr:Frame) v:(fr.finish v).kind=fr.kind:=by unfold Frame.finish;split<;>rfl
def MZ(fr:Frame) l:(fr.raise l).kind=fr.kind:=by unfold Frame.raise;split<;>rfl
def yf{fr}:∀ {cs:List Frame}{v:Value}{fy:List Frame}(f:Frame),tryRecover fr cs=some (v,fy)->bot f fy=bot f cs:=by
 intro cs;induction cs generalizing fr with
 |nil=>intro v fy f h;unfold tryRecover at h;cases hk:fr.kind<;>simp[hk]at h
 |cons c cs ih=>
 intro v fy f h;unfold tryRecover at h;cases hk:fr.kind<;>simp only[hk]at h<;>try cases h
 split at h;cases h;show bot {c with mode:=_} cs=bot c cs;cases cs<;>rfl;cases h;obtain⟨⟨v1,r1⟩,h1,h2⟩:=Option.map_eq_some_iff.1 h;cases h2;exact ih c h1
def yS:∀ {cs:List Frame}{l:Nat}{v:Value}{fy:List Frame}(f:Frame),tryRecoverLoop l cs=some (v,fy)->bot f fy=bot f cs:=by
 intro cs;induction cs with
 |nil=>intro l v fy f h;cases h
 |cons c cs ih=>intro l v fy f h;unfold tryRecoverLoop at h;obtain⟨⟨v1,r1⟩,h1,h2⟩:=Option.map_eq_some_iff.1 h;cases h2;show bot c r1=bot c cs;split at h1;exact ih c h1;split at h1;exact yf c h1;exact ih c h1;exact ih c h1
section
variable{dy:Option Dying}{fr:Frame}{cs:List Frame}
def cm.same(h:cm dy fr cs){fr'}(ht:fr'.todo=fr.todo)(hk:fr'.kind=fr.kind):cm dy fr' cs:=⟨by rw[ht];exact h.todo,h.rest,λhd=>(LB hk cs).trans (h.low hd)⟩
def cm.with(h:cm dy fr cs){fr'}(ht:bI fr'.todo)(hk:fr'.kind=fr.kind):cm dy fr' cs:=⟨ht,h.rest,λhd=>(LB hk cs).trans (h.low hd)⟩
def cm.finish(h:cm dy fr cs) v:cm dy (fr.finish v) cs:=h.with (yb h.todo v) (ya fr v)
def cm.raise(h:cm dy fr cs) l:cm dy (fr.raise l) cs:=h.with (Om h.todo l) (MZ fr l)
def cm.push(h:cm dy fr cs){c}(hc:bI c.todo):cm dy c (fr::cs):=⟨hc,gT.cons h.todo h.rest,h.low⟩
def cm.pop{c}(h:cm dy fr (c::cs)):cm dy c cs:=⟨h.rest.head,h.rest.tail,h.low⟩
def cm.recover(h:cm dy fr cs){v fy}(hx:tryRecover fr cs=some (v,fy)):cm dy fr fy:=⟨h.todo,uO h.rest hx,λhd=>(yf fr hx).trans (h.low hd)⟩
def cm.JG(h:cm dy fr cs){l v fy}(hx:tryRecoverLoop l cs=some (v,fy)):cm dy fr fy:=⟨h.todo,wM h.rest hx,λhd=>(yS fr hx).trans (h.low hd)⟩
def cm.aeH(h:cm dy fr cs){c}(hc:bI c.todo) l(hl:gT l):cm dy c (l++fr::cs):=by
 refine⟨hc,λx hx=>?_,λhd=>?_⟩;rcases List.mem_append.1 hx with hx|hx;exact hl x hx;exact gT.cons h.todo h.rest x hx;have:∀(l:List Frame)(c:Frame),bot c (l++fr::cs)=bot fr cs:=by intro l;induction l with|nil=>intro c;rfl|cons a l ih=>intro c;exact ih a
 rw[this];exact h.low hd
end
def al0(g:Goroutine):Prop:=∃d,g.dying=some d/\(d.calling=true->cm (some d) g.frame g.callers)
def QY:GStep->Prop
 |.ended _ _ _=>True|.go g _ _=>(g.status=.blocked∨g.status=.waiting∨g.status=.finished)∨(g.status=.running/\al0 g)|_=>False
def Kind(dy:Option Dying):GStep->Prop
 |.go g _ _=>cm dy g.frame g.callers/\g.dying=dy/\g.status=.running|.comm g _ _ _ _ _=>cm dy g.frame g.callers/\g.dying=dy/\g.status=.running|.coroswitch g _ b _ _=>cm dy g.frame g.callers/\g.dying=dy/\g.status=.running/\b=true|.spawn _ _ _ _|.ended _ _ _=>True|_=>False
structure GRe(dy:Option Dying)(f:World->GStep)(w:World)(k:Nat):Prop where
 drawn:(gW (f w)).drawn=w.drawn+k
 tape:(gW (f w)).tape=w.tape
 size:w.heap.size<=(gW (f w)).heap.size
 low:∀e∈gE (f w),oH (gW (f w)).heap.size e
 Zc:∀x,deafBehind x (gE (f w))=x
 kind:Kind dy (f w)
 same:∀τ n,Agree w τ n k->f (w.re τ n)=reG τ (n+k) (f w)
def fh(dy:Option Dying)(f:World->GStep)(w:World):Prop:=(∃k,GRe dy f w k)∨QY (f w)
variable{dy:Option Dying}
def uJ es r:gW (r.after es)=gW r:=by cases r<;>rfl
def KV es r:gE (r.after es)=es++gE r:=by cases r<;>rfl
def Sk es r τ n:reG τ n (r.after es)=(reG τ n r).after es:=by cases r<;>rfl
def dN{es r}(h:QY r):QY (r.after es):=by cases r<;>first|exact h|exact h.elim
def NJ{es r}(h:Kind dy r):Kind dy (r.after es):=by cases r<;>exact h
def fh.congr{F F' w}(h:fh dy F' w)(e:∀u,F u=F' u):fh dy F w:=by have:F=F':=funext e;rw[this];exact h
def fh.qx{F F' w}(h:fh dy F' w)(e0:F w=F' w)(e1:∀τ n,F (w.re τ n)=F' (w.re τ n)):fh dy F w:=by rcases h with⟨k,g⟩|h;exact .inl ⟨k,by rw[e0];exact g.drawn,by rw[e0];exact g.tape,by rw[e0];exact g.size,by rw[e0];exact g.low,by rw[e0];exact g.Zc,by rw[e0];exact g.kind,λτ n ha=>by rw[e0,e1];exact g.same τ n ha⟩;exact .inr (by rw[e0];exact h)
def Ac p fn es:∀e∈seen p fn es,e∈es:=by
 unfold seen;dsimp only;rw[<-Array.foldl_toList];have h:∀(l:List Event)(q:Bool)(kept:Array Event),(∀e∈(l.foldl (λ(x:Bool×Array Event) e=>match x with
  |(q,kept)=>match e.loc with
   |.mark (.extern f)=>((p.funcs[f]?).any (·.norace),kept)
   |_=>(q,if q&& !e.sync then kept else kept.push e)) (q,kept)).2,e∈kept∨e∈l):=by
  intro l;induction l with
  |nil=>intro q kept e he;exact .inl he
  |cons a l ih=>
   intro q kept e he;rw[List.foldl_cons]at he;dsimp only at he;split at he
   ·rcases ih _ _ e he with h1|h1
    ·exact .inl h1
    ·exact .inr (List.mem_cons_of_mem _ h1)
   ·rcases ih _ _ e he with h1|h1
    ·split at h1
     ·exact .inl h1
     ·rcases Array.mem_push.1 h1 with h2|h2
      ·exact .inl h2
      ·exact .inr (by rw[h2];exact List.mem_cons_self)
    ·exact .inr (List.mem_cons_of_mem _ h1)
 intro e he;rcases h es.toList _ #[] e he with h1|h1;simp at h1;simpa using h1
def IH(es:Array Event):Prop:=∀e∈es,∀m,e.loc=.mark m->GO m/\e.sync=true
def eZ p fn{es}(hm:IH es) x:deafBehind x (seen p fn es)=deafBehind x es:=by
 unfold seen;dsimp only;rw[<-Array.foldl_toList];have h:∀(l:List Event)(_:∀e∈l,∀m,e.loc=.mark m->GO m/\e.sync=true)(q:Bool)(kept:Array Event),deafBehind x ((l.foldl (λ(x:Bool×Array Event) e=>match x with
  |(q,kept)=>match e.loc with
   |.mark (.extern f)=>((p.funcs[f]?).any (·.norace),kept)
   |_=>(q,if q&& !e.sync then kept else kept.push e)) (q,kept)).2)=deafBehind (deafBehind x kept) ⟨l⟩:=by
  intro l;induction l with
  |nil=>intro _ q kept;rfl
  |cons a l ih=>
   intro hl q kept;have e0:(⟨a::l⟩:Array Event)=#[a]++⟨l⟩:=by simp
   rw[List.foldl_cons];dsimp only;split
   ·rename_i f hf;rw[ih (λe he=>hl e (List.mem_cons_of_mem _ he)),e0,iP,uQ _ _ (by rw[hf];simp) (by rw[hf];simp)]
   ·rw[ih (λe he=>hl e (List.mem_cons_of_mem _ he)),e0,iP]
    congr 1;split
    ·rename_i hq;have hs:a.sync=false:=by
      cases h1:a.sync
      ·rfl
      ·rw[h1]at hq;simp at hq
     have h2:∀m,a.loc≠.mark m:=λm hm'=>by
      have:=(hl a List.mem_cons_self m hm').2;rw[hs]at this;cases this
     rw[uQ _ _ (h2 _) (h2 _)]
    ·rw[deaf_push]
 exact h es.toList (λe he=>hm e (by simpa using he)) _ #[]
def fh.const{F w}(h1:gW (F w)=w)(h2:gE (F w)=#[])(h3:Kind dy (F w))(h4:∀τ n,F (w.re τ n)=reG τ n (F w)):fh dy F w:=.inl ⟨0,by rw[h1];rfl,by rw[h1],by rw[h1];exact ν,by rw[h2];simp,by rw[h2];exact λ_=>rfl,h3,λτ n _=>h4 τ n⟩
def fh.go{w g}(h:cm dy g.frame g.callers)(hd:g.dying=dy)(hr:g.status=.running):fh dy (λw=>.go g w #[]) w:=.const rfl rfl ⟨h,hd,hr⟩ (λ_ _=>rfl)
theorem fh.run{P α Φ s}(hs:Plain P Φ s){w f}(body:Result α×Array Event->GStep)(hf:∀u,f u=body (s.runT P u #[])) (hlost:∀x w' es,QY (body (.halt (.unsupported (.noEntry x)) w',es))) (hbody:∀r es,(∀a w',r=.ok a w'->Φ a)->IH es->(acH r->∀x,deafBehind x es=x)->QY (body (r,es))∨∃E F,(∀e∈E,e∈es)/\(∀x,deafBehind x E=x)/\(∀τ n,body (ZL τ n r,es)=GStep.after E (F ((wR r).re τ n)))/\body (r,es)=GStep.after E (F (wR r))/\fh dy F (wR r)):fh dy f w:=by
 rcases hs.run w #[]with⟨k,i⟩|⟨x,w',iI,hx⟩;have e1:=i.drawn;have e2:=i.tape;have e3:=i.size;have e4:=i.post;have e5:=i.low;have e6:=i.same;have e7:=hf w;have e8:=i.Zc;generalize s.runT P w #[]=x at e1 e2 e3 e4 e5 e6 e7 e8;obtain⟨r,es⟩:=x;dsimp only at e1 e2 e3 e4 e5 e6 e8;have zo:IH es:=λe he m hm=>by rcases e5 e he with h|h;simp at h;unfold oH at h;rw[hm]at h;exact h
 rcases hbody r es e4 zo (λhc x=>e8 hc x rfl)with kC|⟨E,F,hE,aqH,h1,h2,h3⟩;exact .inr (by rw[e7];exact kC);rcases h3 with⟨k2,g⟩|kC;refine .inl ⟨k+k2,?_,?_,?_,?_,?_,?_,?_⟩;rw[e7,h2,uJ,g.drawn,e1];omega;rw[e7,h2,uJ,g.tape,e2];rw[e7,h2,uJ];exact Nat.le_trans e3 g.size;rw[e7,h2,uJ,KV];intro e he;rcases Array.mem_append.1 he with he|he;rcases e5 e (hE e he)with h|h;simp at h;exact h.mono g.size;exact g.low e he;intro x;rw[e7,h2,KV,iP,aqH,g.Zc];rw[e7,h2];exact NJ g.kind;intro τ n ha;rw[hf,e6 τ n (ha.mono (by omega)),h1,e7,h2,Sk,<-Nat.add_assoc];rw[g.same τ (n+k) (λj hj=>by rw[e1,e2,Nat.add_assoc,Nat.add_assoc];exact ha (k+j) (by omega))];exact .inr (by rw[e7,h2];exact dN kC);exact .inr (by rw[hf,hx];exact hlost x w' iI)
def YA(p:Program) w τ n:∀fuel f,p.found (w.re τ n) fuel f=p.found w fuel f:=by intro fuel;induction fuel with|zero=>intro f;rfl|succ k ih=>intro f;unfold Program.found;simp only[ih];rfl
def OB(p:Program) w τ n:∀fuel l s,p.brought (w.re τ n) fuel l s=p.brought w fuel l s:=by
 intro fuel;induction fuel with
 |zero=>intro l s;cases l<;>rfl
 |succ k ih=>intro l s;cases l with|nil=>rfl|cons f l=>unfold Program.brought;simp only[ih];rfl
theorem Og{P fr callers}{g:Nat}{w}(h:cm dy fr callers):fh dy (λw=>match w.heap[g]? with
  |some (.pending c elem)=>.go {frame:=fr,callers,status:=.running,dying:=dy} {w with heap:=w.heap.setIfInBounds g (.cells c elem)}
  |_=>.ended (.stuck "early: the variable does not wait" (fr.pos P)) w) w:=by
 cases hh:w.heap[g]? with
 |none=>exact .inr (by simp only[hh];exact trivial)
 |some o=>
  cases o with
  |pending c e=>
   refine .inl ⟨0,by simp only[hh];rfl,by simp only[hh];rfl,by simp only[hh];simp[gW],by simp only[hh];simp[gE],by simp only[hh];exact λ_=>rfl,by simp only[hh];exact⟨h,rfl,rfl⟩,λτ n _=>?_⟩
   simp only[show(w.re τ n).heap=w.heap from rfl,hh];rfl
  |_=>exact .inr (by simp only[hh];exact trivial)
def eC{o w}:fh dy (λw=>.ended o w) w:=.inr trivial
def YB P(l:List FuncId):gT (l.map (Frame.enter P · #[] .early)):=λc hm=>by obtain⟨f,_,rfl⟩:=List.mem_map.1 hm;exact iG _ _ _ _
def TN{P} fr callers g w(h:cm dy fr callers):fh dy (early P fr callers dy g) w:=by
 have NQ:∀(f:FuncId)(w:World),fh dy (λw=>.go {frame:=Frame.enter P f #[] .early,callers:=(if(P.code? f).any P.plainData then(P.brought w (2*P.funcs.size+1) [f] []).drop 1 else []).map (Frame.enter P · #[] .early)++fr::callers,status:=.running,dying:=dy} w #[]) w:=by intro f w;refine .const rfl rfl ⟨h.aeH (iG _ _ _ _) _ (YB _ _),rfl,rfl⟩ (λτ n=>?_);simp only[OB];rfl
 have Tq:∀w,fh dy (λw=>match w.heap[g]? with
  |some (.pending c elem)=>.go {frame:=fr,callers,status:=.running,dying:=dy} {w with heap:=w.heap.setIfInBounds g (.cells c elem)}
  |_=>.ended (.stuck "early: the variable does not wait" (fr.pos P)) w) w:=λw=>Og h
 have abr:∀w,fh dy (λw=>.ended (.unsupported (.initOrder g) (fr.pos P)) w) w:=λw=>eC;cases hp:P.follows .staticDataAhead with|false=>exact(Tq w).congr (λu=>by unfold early;simp only[hp,Bool.not_false,if_true]<;>rfl)|true=>
 cases hs:P.stepOf g with|none=>exact(abr w).congr (λu=>by unfold early;simp only[hp,hs,Bool.not_true,Bool.false_eq_true,if_false]<;>rfl)|some f=>
 cases h1:(P.code? f).any P.atRunTime with|true=>exact(Tq w).congr (λu=>by unfold early;simp only[hp,hs,h1,Bool.not_true,Bool.false_eq_true,if_false,if_true]<;>rfl)|false=>
 have nA:∀τ n,(((P.code? f).bind λc=>(readies c).getLast?).bind (w.re τ n).shape?).isSome=(((P.code? f).bind λc=>(readies c).getLast?).bind w.shape?).isSome:=λτ n=>rfl;cases h2:(((P.code? f).bind λc=>(readies c).getLast?).bind w.shape?).isSome with|true=>rw[h2]at nA;exact(Tq w).qx (by unfold early;simp only[hp,hs,h1,h2,Bool.not_true,Bool.false_eq_true,if_false,if_true]<;>rfl) (λτ n=>by unfold early;simp only[hp,hs,h1,nA,Bool.not_true,Bool.false_eq_true,if_false,if_true]<;>rfl)|false=>
 rw[h2]at nA;have X8:=YA P w;cases hk:fr.kind==.early with
 |true=>cases h3:P.found w P.funcs.size f with|unknown=>exact(abr w).qx (by unfold early;simp only[hp,hs,h1,h2,h3,hk,Bool.not_true,Bool.false_eq_true,if_false]<;>rfl) (λτ n=>by unfold early;simp only[hp,hs,h1,nA,X8,h3,hk,Bool.not_true,Bool.false_eq_true,if_false]<;>rfl)|notYet=>exact(abr w).qx (by unfold early;simp only[hp,hs,h1,h2,h3,hk,Bool.not_true,Bool.false_eq_true,if_false]<;>rfl) (λτ n=>by unfold early;simp only[hp,hs,h1,nA,X8,h3,hk,Bool.not_true,Bool.false_eq_true,if_false]<;>rfl)|either=>exact(NQ f w).qx (by unfold early;simp only[hp,hs,h1,h2,h3,hk,Bool.not_true,Bool.false_eq_true,if_false]<;>rfl) (λτ n=>by unfold early;simp only[hp,hs,h1,nA,X8,h3,hk,Bool.not_true,Bool.false_eq_true,if_false]<;>rfl)
 |false=>
 cases h3:P.found w P.funcs.size f with
 |unknown=>exact(abr w).qx (by unfold early;simp only[hp,hs,h1,h2,h3,hk,Bool.not_true,Bool.false_eq_true,if_false]<;>rfl) (λτ n=>by unfold early;simp only[hp,hs,h1,nA,X8,h3,hk,Bool.not_true,Bool.false_eq_true,if_false]<;>rfl)|notYet=>exact(Tq w).qx (by unfold early;simp only[hp,hs,h1,h2,h3,hk,Bool.not_true,Bool.false_eq_true,if_false]<;>rfl) (λτ n=>by unfold early;simp only[hp,hs,h1,nA,X8,h3,hk,Bool.not_true,Bool.false_eq_true,if_false]<;>rfl)
 |either=>
 cases h4:(P.code? f).any P.plainData with|true=>exact(NQ f w).qx (by unfold early;simp only[hp,hs,h1,h2,h3,hk,h4,Bool.not_true,Bool.false_eq_true,if_false,if_true]<;>rfl) (λτ n=>by unfold early;simp only[hp,hs,h1,nA,X8,h3,hk,h4,Bool.not_true,Bool.false_eq_true,if_false,if_true]<;>rfl)|false=>
 cases h5:(P.code? f).any P.bareCopy with
 |false=>exact(Tq w).qx (by unfold early;simp only[hp,hs,h1,h2,h3,hk,h4,h5,Bool.not_false,Bool.not_true,Bool.false_eq_true,if_false,if_true]<;>rfl) (λτ n=>by unfold early;simp only[hp,hs,h1,nA,X8,h3,hk,h4,h5,Bool.not_false,Bool.not_true,Bool.false_eq_true,if_false,if_true]<;>rfl)|true=>
 have cD:∀u:World,(choose (.early g)).run P u=.ok ((Question.early g).cut (u.tape u.drawn (.early g))) {u with drawn:=u.drawn+1}:=λu=>rfl;have hw2:=Tq {w with drawn:=w.drawn+1};have ht2:=NQ f {w with drawn:=w.drawn+1};have key:∀u:World,(((P.code? f).bind λc=>(readies c).getLast?).bind u.shape?).isSome=false->P.found u P.funcs.size f=.either->early P fr callers dy g u=match(Question.early g).cut (u.tape u.drawn (.early g))with
   |0=>(λw:World=>match w.heap[g]? with
     |some (.pending c elem)=>.go {frame:=fr,callers,status:=.running,dying:=dy} {w with heap:=w.heap.setIfInBounds g (.cells c elem)}
     |_=>.ended (.stuck "early: the variable does not wait" (fr.pos P)) w) {u with drawn:=u.drawn+1}
   |_+1=>(λw:World=>.go {frame:=Frame.enter P f #[] .early,callers:=(if(P.code? f).any P.plainData then(P.brought w (2*P.funcs.size+1) [f] []).drop 1 else []).map (Frame.enter P · #[] .early)++fr::callers,status:=.running,dying:=dy} w #[]) {u with drawn:=u.drawn+1}:=by
  intro u q2 q3;unfold early;simp only[hp,hs,h1,q2,q3,hk,h4,h5,cD,Bool.not_true,Bool.false_eq_true,if_false];cases(Question.early g).cut (u.tape u.drawn (.early g))<;>rfl
 have k0:=key w h2 h3;have k1:=λτ n=>key (w.re τ n) (nA τ n) (by rw[X8];exact h3);cases hcut:(Question.early g).cut (w.tape w.drawn (.early g))with
 |zero=>rw[hcut]at k0;dsimp only at k0;rcases hw2 with⟨k,i⟩|kC;refine .inl ⟨k+1,by rw[k0,i.drawn];show w.drawn+1+k=_;omega,by rw[k0,i.tape],by rw[k0];exact i.size,by rw[k0];exact i.low,by rw[k0];exact i.Zc,by rw[k0];exact i.kind,λτ n ha=>?_⟩;have e:τ n=w.tape w.drawn:=ha 0 (by omega);rw[k1 τ n,show(w.re τ n).tape (w.re τ n).drawn=τ n from rfl,e,hcut,k0];have:=i.same τ (n+1) (λj hj=>by have:=ha (j+1) (by omega);rw[show n+1+j=n+(j+1)by omega,this];show w.tape _=w.tape _;congr 1;show w.drawn+(j+1)=w.drawn+1+j;omega);rw[show n+(k+1)=n+1+k by omega];exact this;exact .inr (by rw[k0];exact kC)
 |succ c=>rw[hcut]at k0;dsimp only at k0;rcases ht2 with⟨k,i⟩|kC;refine .inl ⟨k+1,by rw[k0,i.drawn];show w.drawn+1+k=_;omega,by rw[k0,i.tape],by rw[k0];exact i.size,by rw[k0];exact i.low,by rw[k0];exact i.Zc,by rw[k0];exact i.kind,λτ n ha=>?_⟩;have e:τ n=w.tape w.drawn:=ha 0 (by omega);rw[k1 τ n,show(w.re τ n).tape (w.re τ n).drawn=τ n from rfl,e,hcut,k0];have:=i.same τ (n+1) (λj hj=>by have:=ha (j+1) (by omega);rw[show n+1+j=n+(j+1)by omega,this];show w.tape _=w.tape _;congr 1;show w.drawn+(j+1)=w.drawn+1+j;omega);rw[show n+(k+1)=n+1+k by omega];exact this;exact .inr (by rw[k0];exact kC)
def qV p fr callers dying m w:QY (endFatal p fr callers dying m w):=by unfold endFatal;dsimp only;generalize Sem.run p _ w=r;cases r with|ok a w'=>exact .inr ⟨rfl,_,rfl,λh=>by cases h⟩|halt h w'=>cases h<;>exact trivial
def nE{P} fr callers{s}(hs:Nx P s) w(h:cm dy fr callers):fh dy (stepG.apply P true fr callers dy s) w:=by
 have hf:=h.todo;apply fh.run hs;case hf=>intro u;unfold stepG.apply;simp only[if_true];generalize s.runT P u #[]=x;exact rfl
 case hlost=>intro x w' es;exact trivial
 case hbody=>
 intro r es dO zo jI;have hE:∀e∈seen P fr.fn (if(fr.kind==CallKind.early)=true then #[]else es),e∈es:=λe he=>by have:=Ac _ _ _ e he;split at this;simp at this;exact this
 have hE0:∀e∈seen P fr.fn (if(fr.kind==CallKind.early)=true then #[]else(#[]:Array Event)),e∈es:=λe he=>by have:=Ac _ _ _ e he;split at this<;>simp at this
 have hB:acH r->∀x,deafBehind x (seen P fr.fn (if(fr.kind==CallKind.early)=true then #[]else es))=x:=λlV x=>by by_cases hk:(fr.kind==CallKind.early)=true;rw[if_pos hk,eZ _ _ (λe he=>by simp at he)];rfl;rw[if_neg hk,eZ _ _ zo];exact jI lV x
 have hB0:∀x,deafBehind x (seen P fr.fn (if(fr.kind==CallKind.early)=true then #[]else(#[]:Array Event)))=x:=λx=>by rw[ite_self,eZ _ _ (λe he=>by simp at he)];rfl
 cases r with
 |ok n w'=>
 have hn:=dO n w' rfl;replace hB:=hB trivial;cases n;case value v=>exact .inr ⟨_,λu=>.go _ u #[],hE,hB,λ_ _=>rfl,rfl,fh.go (h.finish _) rfl rfl⟩
 case skip=>exact .inr ⟨_,λu=>.go _ u #[],hE,hB,λ_ _=>rfl,rfl,fh.go (h.finish _) rfl rfl⟩
 case enter f args=>exact .inr ⟨_,λu=>.go _ u #[],hE,hB,λ_ _=>rfl,rfl,fh.go (h.push (iG _ _ _ _)) rfl rfl⟩
 case round l f t a b=>exact .inr ⟨_,λu=>.go _ u #[],hE,hB,λ_ _=>rfl,rfl,fh.go (h.push (Co _ _ _ _ _ _)) rfl rfl⟩
 case defer d=>exact .inr ⟨_,λu=>.go _ u #[],hE,hB,λ_ _=>rfl,rfl,fh.go ((h.same (fr':={fr with defers:=d::fr.defers}) rfl rfl).finish _) rfl rfl⟩
 case row row args=>
  dsimp only[ZL,wR];generalize pX:fr.todo=td;have hft:bI td:=pX▸hf;have bQ:∀k,cm dy (Frame.ofRow P row args k) (fr::callers):=λk=>h.push (bI.cons hn .nil);rcases td with _|⟨i,k⟩;exact .inr ⟨_,λu=>.go _ u #[],hE,hB,λ_ _=>rfl,rfl,fh.go (bQ _) rfl rfl⟩;cases i;case extern r2 a2=>exact .inr ⟨_,λu=>.go _ u #[],hE,hB,λ_ _=>rfl,rfl,fh.go (h.with (fr':={fr with todo:=.extern row args::k}) (bI.cons hn hft.tail) rfl) rfl rfl⟩
  all_goals exact .inr ⟨_,λu=>.go _ u #[],hE,hB,λ_ _=>rfl,rfl,fh.go (bQ _) rfl rfl⟩
 case recover=>
  dsimp only[ZL,wR];generalize hx:tryRecover fr callers=x;generalize kQ:fr.roundOf=ro;rcases ro with _|l;rcases x with _|⟨v,c⟩;exact .inr ⟨_,λu=>.go _ u #[],hE,hB,λ_ _=>rfl,rfl,fh.go (h.finish _) rfl rfl⟩;exact .inr ⟨_,λu=>.go _ u #[],hE,hB,λ_ _=>rfl,rfl,fh.go ((h.recover hx).finish _) rfl rfl⟩;dsimp only;have hy:∀v c,(if P.follows Departure.rangeFuncRecover=true then x else tryRecoverLoop l callers)=some (v,c)->cm dy fr c:=λv c h2=>by split at h2;exact h.recover (hx.trans h2);exact h.JG h2
  generalize(if P.follows Departure.rangeFuncRecover=true then x else tryRecoverLoop l callers)=y at hy|-;rcases y with _|⟨v,c⟩;exact .inr ⟨_,λu=>.go _ u #[],hE,hB,λ_ _=>rfl,rfl,fh.go (h.finish _) rfl rfl⟩;exact .inr ⟨_,λu=>.go _ u #[],hE,hB,λ_ _=>rfl,rfl,fh.go ((hy v c rfl).finish _) rfl rfl⟩
 case comm a b c=>exact .inr ⟨_,λu=>.comm _ _ _ _ u #[],hE,hB,λ_ _=>rfl,rfl,fh.const rfl rfl ⟨h,rfl,rfl⟩ (λ_ _=>rfl)⟩
 case coroswitch c b=>exact .inr ⟨_,λu=>.coroswitch _ _ _ u #[],hE,hB,λ_ _=>rfl,rfl,fh.const rfl rfl ⟨h,rfl,rfl,hn⟩ (λ_ _=>rfl)⟩
 case spawn d=>dsimp only[ZL,wR];generalize(P.follows Departure.goNilFatal&&_&&_&&_)=b;cases b;exact .inr ⟨_,λu=>.spawn _ _ u #[],hE,hB,λ_ _=>rfl,rfl,fh.const rfl rfl trivial (λ_ _=>rfl)⟩;exact .inl (dN (.inr ⟨rfl,_,rfl,λh=>by cases h⟩))
 all_goals exact hn.elim
 |halt hh w'=>
 cases hh;case panic v=>exact .inr ⟨_,λu=>.go _ u #[],hE,hB trivial,λ_ _=>rfl,rfl,fh.go (h.raise _) rfl rfl⟩
 case goexit=>exact .inr ⟨_,λu=>.go _ u #[],hE,hB trivial,λ_ _=>rfl,rfl,fh.go (h.raise _) rfl rfl⟩
 case blocked=>exact .inl (dN (.inl (.inl rfl)))
 case waiting=>exact .inl (dN (.inl (.inr (.inl rfl))))
 case fatal m=>exact .inl (dN (qV _ _ _ _ _ _))
 case throw m=>exact .inl (dN (.inr ⟨rfl,_,rfl,λh=>by cases h⟩))
 case unsupported u=>
  cases u;case initOrder g=>exact .inr ⟨_,early P fr callers dy g,hE0,hB0,λ_ _=>rfl,rfl,TN _ _ _ _ h⟩
  all_goals exact .inl trivial
 all_goals exact .inl trivial
def KZ(c:Frame):Frame:=match c.mode with
 |.panicking ({recovered:=true,..}::aiw)=>
  match aiw.dropWhile (!·.goexit)with
  |[]=>{c with mode:=.returning}
  |rest=>{c with mode:=.panicking rest}
 |_=>c
def Oi c:(KZ c).todo=c.todo:=by unfold KZ;split;split<;>rfl;rfl
def Oj c:(KZ c).kind=c.kind:=by unfold KZ;split;split<;>rfl;rfl
def oC{P} fr callers v w(h:cm dy fr callers):fh dy (λw=>doReturn P true fr callers dy v w) w:=by
 cases callers with
 |cons c cs=>
 have hp:=h.pop;have h1:∀k,fr.kind=k->(k=.normal∨k=.wrapped)->fh dy (λw=>doReturn P true fr (c::cs) dy v w) w:=λk hk hh=>(fh.go (g:={frame:=c.finish v,callers:=cs,status:=.running,dying:=dy}) (hp.finish v) rfl rfl).congr (λu=>by unfold doReturn;rcases hh with rfl|rfl<;>simp only[hk]);cases hk:fr.kind;case normal=>exact h1 _ hk (.inl rfl)
 case wrapped=>exact h1 _ hk (.inr rfl)
 case early=>exact(fh.go (g:={frame:=c,callers:=cs,status:=.running,dying:=dy}) hp rfl rfl).congr (λu=>by unfold doReturn;simp only[hk])
 all_goals
  refine fh.congr (F':=λu=>.go {frame:=KZ c,callers:=cs,status:=.running,dying:=dy} u #[]) (fh.go (hp.same (Oi c) (Oj c)) rfl rfl) (λu=>by unfold doReturn;simp only[hk];rfl)
 |nil=>
 cases hk:fr.kind;case report=>
  cases dy with
  |none=>exact(eC (o:=.stuck "report: Error or String returned no string" "")).congr (λu=>by unfold doReturn;simp only[hk])|some d=>
  cases v;case string s=>refine .inr ?_;unfold doReturn;simp only[hk];exact .inr ⟨rfl,_,rfl,λh=>by cases h⟩
  all_goals exact(eC (o:=.stuck "report: Error or String returned no string" "")).congr (λu=>by unfold doReturn;simp only[hk])
 all_goals
  cases dy with
  |some d=>exact absurd (h.low rfl) (by show fr.kind≠_;rw[hk];simp)
  |none=>
   cases hi:P.inits.idxOf? fr.fn with
   |none=>exact(eC (o:=.done v)).congr (λu=>by unfold doReturn;simp only[hk,hi,Bool.not_true,Bool.false_eq_true,if_false])
   |some k=>exact(fh.go (g:={frame:=Frame.enter P (P.initFrom (k+1)) #[] .normal,callers:=[],status:=.running,dying:=none}) ⟨iG _ _ _ _,(λ_ h=>by cases h),λhd=>by cases hd⟩ rfl rfl).congr (λu=>by unfold doReturn;simp only[hk,hi,Bool.not_true,Bool.false_eq_true,if_false])
def sd{P fn es}:∀e∈seen P fn es,e∈es:=Ac P fn es
def q8{P} fr callers jump w(h:cm dy fr callers) F (h0:fr.roundOf=none->(∀u,F u=.go {frame:={fr with mode:=.returning},callers,status:=.running,dying:=dy} u #[])∨∃o,∀u,F u=.ended o u) (h1:∀l,fr.roundOf=some l->∀u,F u=(match(Instr.endRound l jump).runT P u #[]with
   |(r,es)=>GStep.after (seen P fr.fn es) (match r with
    |.ok v w=>doReturn P true fr callers dy v w
    |.halt _ w=>.ended (.stuck "range over a function: no such loop" (fr.pos P)) w))):fh dy F w:=by
 cases hr:fr.roundOf with
 |none=>
  rcases h0 hr with hh|⟨o,hh⟩
  ·exact(fh.go (g:={frame:={fr with mode:=.returning},callers,status:=.running,dying:=dy}) (h.same rfl rfl) rfl rfl).congr hh
  ·exact eC.congr hh
 |some l=>
  refine fh.run (uc l jump) (λx=>match x with
   |(r,es)=>GStep.after (seen P fr.fn es) (match r with
    |.ok v w=>doReturn P true fr callers dy v w
    |.halt _ w=>.ended (.stuck "range over a function: no such loop" (fr.pos P)) w)) (h1 l hr) (λ_ _ _=>trivial) (λr es dO zo hb=>?_)
  cases r with
  |ok v w'=>exact .inr ⟨_,λu=>doReturn P true fr callers dy v u,sd,λx=>by rw[eZ _ _ zo];exact hb trivial x,λ_ _=>rfl,rfl,oC _ _ _ _ h⟩
  |halt hh w'=>exact .inl trivial
def Nk:Extern.next "runtime.print$piece" =some (Extern.PrintPieces.piece #[] #[]):=by kernel_rfl
def Yu {P} (hB : bG P) fr callers w (h : cm dy fr callers) : fh dy (stepG.oper P true fr callers dy) w := by
  cases ho : fr.oper? with
  | none => exact (eC (o := .stuck "no operation here" (fr.pos P))).congr (λu => by unfold stepG.oper; simp only [ho])
  | some o =>
    have h0 : (∀ u, stepG.oper P true fr callers dy u = stepG.apply P true fr callers dy (execOp fr.eval o) u) -> fh dy (stepG.oper P true fr callers dy) w := λe => (nE fr callers (SO hB _ _) w h).congr e
    cases hr : fr.roundOf with
    | none => exact h0 (λu => by unfold stepG.oper; simp only [ho, hr])
    | some l =>
      cases cI : o.op
      case defer c =>
        refine (nE (P := P) (s := do Instr.deferInRound l (<- resolve fr.eval c o.type); pure .skip) fr callers ?_ w h).congr (λu => by unfold stepG.oper; simp only [ho, hr, cI])
        exact dG (og _ _ _) λ_ => dG (oR _ _) λ_ => trivial
      all_goals exact h0 (λu => by unfold stepG.oper; simp only [ho, hr, cI])
def Yw{F w}(q:Question)(g:Nat->Goroutine)(hg:∀t,cm dy (g t).frame (g t).callers/\(g t).dying=dy/\(g t).status=.running)(h:∀u,F u=.go (g (q.cut (u.tape u.drawn q))) {u with drawn:=u.drawn+1} #[]):fh dy F w:=by refine .inl ⟨1,by rw[h];rfl,by rw[h];rfl,by rw[h];exact ν,by rw[h];simp[gE],by rw[h];exact λ_=>rfl,by rw[h];exact hg _,λτ n ha=>?_⟩;have e:τ n=w.tape w.drawn:=ha 0 (by omega);rw[h,h,show(w.re τ n).tape (w.re τ n).drawn=τ n from rfl,e];rfl
def Yv {P} (hB : bG P) fr callers w (h : cm dy fr callers) : fh dy (stepG.exec P true true fr callers dy) w := by
  have KT : ∀ fr' : Frame, bI fr'.todo -> fr'.kind = fr.kind -> (∀ u, stepG.exec P true true fr callers dy u = .go { frame := fr', callers, status := .running, dying := dy } u #[]) -> fh dy (stepG.exec P true true fr callers dy) w :=
    λfr' h1 h2 e => (fh.go (g := { frame := fr', callers, status := .running, dying := dy }) (h.with h1 h2) rfl rfl).congr e
  have hf := h.todo
  rcases pX : fr.todo with _ | ⟨it, k⟩
  · refine q8 fr callers none w h _ (λhr => .inl λu => by unfold stepG.exec; simp only [pX, hr]; rfl) (λl hr u => by unfold stepG.exec; simp only [pX, hr]; rfl)
  have fS := hf
  rw [pX] at hf
  have hk := hf.tail
  cases it
  case code c =>
    cases c
    case skip => exact KT { fr with todo := k } hk rfl (λu => by unfold stepG.exec; simp only [pX])
    case label l => exact KT { fr with todo := k } hk rfl (λu => by unfold stepG.exec; simp only [pX])
    case ret => exact q8 fr callers (some .ret) w h _ (λhr => .inl λu => by unfold stepG.exec; simp only [pX, hr]; rfl) (λl hr u => by unfold stepG.exec; simp only [pX, hr]; rfl)
    case seq a b => exact KT { fr with todo := .code a :: .code b :: k } (bI.cons trivial (bI.cons trivial hk)) rfl (λu => by unfold stepG.exec; simp only [pX])
    case cond c a b =>
      cases gr : fr.eval c
      case bool t => exact KT { fr with todo := .code (if t then a else b) :: k } (bI.cons trivial hk) rfl (λu => by unfold stepG.exec; simp only [pX, gr])
      all_goals exact (eC (o := .stuck "cond: bool expected" (fr.pos P))).congr (λu => by unfold stepG.exec; simp only [pX, gr])
    case block id b => exact KT { fr with todo := .code b :: .inBlock id :: k } (bI.cons trivial (bI.cons trivial hk)) rfl (λu => by unfold stepG.exec; simp only [pX])
    case loop b => exact KT { fr with todo := .code b :: .inLoop b :: k } (bI.cons trivial (bI.cons trivial hk)) rfl (λu => by unfold stepG.exec; simp only [pX])
    case scope b => exact KT { fr with todo := .code b :: .inScope b :: k } (bI.cons trivial (bI.cons trivial hk)) rfl (λu => by unfold stepG.exec; simp only [pX])
    case exit id =>
      cases he : exitTo id k with
      | some k' => exact KT { fr with todo := k' } (wO hk he) rfl (λu => by unfold stepG.exec; simp only [pX, he]; rfl)
      | none => exact q8 fr callers (some (.exit id)) w h _ (λhr => .inr ⟨_, λu => by unfold stepG.exec; simp only [pX, he, hr]; rfl⟩) (λl hr u => by unfold stepG.exec; simp only [pX, he, hr]; rfl)
    case goto id =>
      cases he : gotoIn id k with
      | some k' => exact KT { fr with todo := k' } (wN hk he) rfl (λu => by unfold stepG.exec; simp only [pX, he]; rfl)
      | none => exact q8 fr callers (some (.goto id)) w h _ (λhr => .inr ⟨_, λu => by unfold stepG.exec; simp only [pX, he, hr]; rfl⟩) (λl hr u => by unfold stepG.exec; simp only [pX, he, hr]; rfl)
    case refuse why => exact (eC (o := .unsupported (Unsupported.elab why) (fr.pos P))).congr (λu => by unfold stepG.exec; simp only [pX])
    case region id ops draw =>
      cases draw with
      | false => exact KT { fr with todo := .inRegion ops (List.range ops.size) :: k } (bI.cons trivial hk) rfl (λu => by unfold stepG.exec; simp only [pX, Bool.not_false, if_true])
      | true =>
        refine Yw (.order fr.fn id) (λt => { frame := { fr with todo := .inRegion ops (Region.schedule (P.follows .mixedOrders) ops t) :: k }, callers, status := .running, dying := dy }) (λt => ⟨h.with (bI.cons trivial hk) rfl, rfl, rfl⟩) (λu => ?_)
        unfold stepG.exec
        simp only [pX]
        rfl
    case rangeFunc f params a b =>
      refine fh.run (sM fr.fn fr.tmps params a b fr.roundOf) (λx => match x with
        | (r, es) => GStep.after (seen P fr.fn es) (match r with
          | .ok (l, mark) w => stepG.apply P true { fr with todo := .inRangeFunc l :: k, defers := mark ++ fr.defers } callers dy (do
              let d <- resolve ({ fr with todo := .inRangeFunc l :: k, defers := mark ++ fr.defers } : Frame).eval { callee := .value f, args := #[.const (.func (.yield l) #[] #[])], argTypes := #[] } 0
              invoke d.target d.args) w
          | .halt _ w => .ended (.stuck "range over a function: no such loop" (fr.pos P)) w)) (λu => by unfold stepG.exec; simp only [pX]; rfl) (λ_ _ _ => trivial) (λr es dO zo hb => ?_)
      cases r with
      | ok x w' =>
        obtain ⟨l, mark⟩ := x
        refine .inr ⟨_, λu => stepG.apply P true { fr with todo := .inRangeFunc l :: k, defers := mark ++ fr.defers } callers dy (do
              let d <- resolve ({ fr with todo := .inRangeFunc l :: k, defers := mark ++ fr.defers } : Frame).eval { callee := .value f, args := #[.const (.func (.yield l) #[] #[])], argTypes := #[] } 0
              invoke d.target d.args) u, sd, λx => by rw [eZ _ _ zo]; exact hb trivial x, λ_ _ => rfl, rfl, nE _ _ ?_ _ (h.with (bI.cons trivial hk) rfl)⟩
        exact dG (og _ _ _) λ_ => vU hB _ _
      | halt hh w' => exact .inl trivial
  case inBlock id => exact KT { fr with todo := k } hk rfl (λu => by unfold stepG.exec; simp only [pX])
  case inScope b => exact KT { fr with todo := k } hk rfl (λu => by unfold stepG.exec; simp only [pX])
  case inLoop b => exact KT { fr with todo := .code b :: .inLoop b :: k } (bI.cons trivial (bI.cons trivial hk)) rfl (λu => by unfold stepG.exec; simp only [pX])
  case inRegion ops l =>
    rcases l with _ | ⟨i, l⟩
    · exact KT { fr with todo := k } hk rfl (λu => by unfold stepG.exec; simp only [pX])
    · cases hw : ((ops[i]?).map (Region.wanted · (yielded ops fr.tmps))).getD false with
      | true => exact (Yu hB fr callers w h).congr (λu => by conv => lhs; unfold stepG.exec; simp only [pX, hw, if_true])
      | false => exact KT (fr.finish undef) (yb fS _) (ya _ _) (λu => by unfold stepG.exec; simp only [pX, hw, Bool.false_eq_true, if_false])
  case inRangeFunc l => exact (eC (o := .unsupported (.noEntry "a range function without a Go body that blocks") (fr.pos P))).congr (λu => by unfold stepG.exec; simp only [pX])
  case beginRound =>
    refine (nE (P := P) (s := do fr.roundOf.elim (stuck "beginRound: no round") Instr.beginRound; pure .skip) fr callers ?_ w h).congr (λu => by unfold stepG.exec; simp only [pX])
    refine dG ?_ λ_ => trivial
    cases fr.roundOf with
    | none => exact trivial
    | some l => exact rI _
  case endRangeFunc l =>
    refine fh.run (vL l) (λx => match x with
        | (r, es) => GStep.after (seen P fr.fn es) (match r with
          | .ok jump w => .go { frame := { fr with todo := (jump.map Item.code).toList ++ k }, callers, status := .running, dying := dy } w
          | .halt (.panic v) w => .go { frame := fr.raise [{ v, recovered := false }], callers, status := .running, dying := dy } w
          | .halt _ w => .ended (.stuck "range over a function: no such loop" (fr.pos P)) w)) (λu => by unfold stepG.exec; simp only [pX]; rfl) (λ_ _ _ => trivial) (λr es dO zo hb => ?_)
    cases r with
    | ok jump w' =>
      refine .inr ⟨_, λu => .go { frame := { fr with todo := (jump.map Item.code).toList ++ k }, callers, status := .running, dying := dy } u #[], sd, λx => by rw [eZ _ _ zo]; exact hb trivial x, λ_ _ => rfl, rfl, fh.go (h.with (fr' := { fr with todo := (jump.map Item.code).toList ++ k }) ?_ rfl) rfl rfl⟩
      cases jump with
      | none => exact hk
      | some c => exact bI.cons trivial hk
    | halt hh w' =>
      cases hh
      case panic v => exact .inr ⟨_, λu => .go { frame := fr.raise [{ v, recovered := false }], callers, status := .running, dying := dy } u #[], sd, λx => by rw [eZ _ _ zo]; exact hb trivial x, λ_ _ => rfl, rfl, fh.go (h.raise _) rfl rfl⟩
      all_goals exact .inl trivial
  case call d wr re sv => exact (hf _ List.mem_cons_self).elim
  case extern row args =>
    have bQ : row = "runtime.print$piece" := hf _ List.mem_cons_self
    subst bQ
    exact (nE fr callers (Ki #[] #[] args) w h).congr (λu => by unfold stepG.exec; simp only [pX, Nk]; rfl)
def wI{P}(hB:bG P) fr callers d w(h:cm dy fr callers):fh dy (λw=>callDeferred P fr callers dy d w) w:=by
 by_cases abw:d.target=.nil/\∃c,fr.mode=.panicking c;refine(eC (o:=.unsupported (.noEntry "machine/Return: a deferred call of a nil function value, made while the frame is unwinding") (fr.pos P))).congr (λu=>?_);obtain⟨h1,c,h2⟩:=abw;unfold callDeferred;rw[if_pos];simp[h1,h2];apply fh.run (vU hB d.target d.args);case hf=>intro u;unfold callDeferred;rw[if_neg];generalize(invoke d.target d.args).runT P u #[]=x;exact rfl;intro hh;rw[Bool.and_eq_true]at hh;obtain⟨h1,h2⟩:=hh;refine abw ⟨?_,?_⟩;revert h1;cases d.target<;>simp;revert h2;cases fr.mode<;>simp
 case hlost=>intro x w' es;exact trivial
 case hbody=>
 intro r es dO zo jI;have hE:∀e∈seen P fr.fn es,e∈es:=sd;have hB:acH r->∀x,deafBehind x (seen P fr.fn es)=x:=λlV x=>by rw[eZ _ _ zo];exact jI lV x
 cases r with
 |ok n w'=>
 have hn:=dO n w' rfl;replace hB:=hB trivial;cases n;case enter f args=>exact .inr ⟨_,λu=>.go _ u #[],hE,hB,λ_ _=>rfl,rfl,fh.go (h.push (iG _ _ _ _)) rfl rfl⟩
 case round l f t a b=>exact .inr ⟨_,λu=>.go _ u #[],hE,hB,λ_ _=>rfl,rfl,fh.go (h.push (Co _ _ _ _ _ _)) rfl rfl⟩
 case row row args=>exact .inr ⟨_,λu=>.go _ u #[],hE,hB,λ_ _=>rfl,rfl,fh.go (h.push (c:=Frame.ofRow P row args .deferred) (bI.cons hn .nil)) rfl rfl⟩
 case recover=>
  dsimp only[ZL,wR];generalize hx:tryRecover fr callers=x;generalize hm:fr.mode=m;cases m;case returning=>rcases x with _|⟨v,c⟩;exact .inr ⟨_,λu=>.go _ u #[],hE,hB,λ_ _=>rfl,rfl,fh.go h rfl rfl⟩;exact .inr ⟨_,λu=>.go _ u #[],hE,hB,λ_ _=>rfl,rfl,fh.go (h.recover hx) rfl rfl⟩
  all_goals rcases x with _|⟨v,c⟩<;>exact .inr ⟨_,λu=>.go _ u #[],hE,hB,λ_ _=>rfl,rfl,fh.go h rfl rfl⟩
 case coroswitch c b=>have hb:b=true:=hn;subst hb;exact .inr ⟨_,λu=>.coroswitch _ _ _ u #[],hE,hB,λ_ _=>rfl,rfl,fh.const rfl rfl ⟨h,rfl,rfl,rfl⟩ (λ_ _=>rfl)⟩
 case value v=>exact .inr ⟨_,λu=>.go _ u #[],hE,hB,λ_ _=>rfl,rfl,fh.go h rfl rfl⟩
 case skip=>exact .inr ⟨_,λu=>.go _ u #[],hE,hB,λ_ _=>rfl,rfl,fh.go h rfl rfl⟩
 case defer d=>exact .inr ⟨_,λu=>.go _ u #[],hE,hB,λ_ _=>rfl,rfl,fh.go h rfl rfl⟩
 case comm a b c=>exact .inr ⟨_,λu=>.go _ u #[],hE,hB,λ_ _=>rfl,rfl,fh.go h rfl rfl⟩
 case spawn d=>exact .inr ⟨_,λu=>.go _ u #[],hE,hB,λ_ _=>rfl,rfl,fh.go h rfl rfl⟩
 all_goals exact hn.elim
 |halt hh w'=>
 cases hh;case panic v=>exact .inr ⟨_,λu=>.go _ u #[],hE,hB trivial,λ_ _=>rfl,rfl,fh.go (h.raise _) rfl rfl⟩
 case goexit=>exact .inr ⟨_,λu=>.go _ u #[],hE,hB trivial,λ_ _=>rfl,rfl,fh.go (h.raise _) rfl rfl⟩
 case blocked=>exact .inl (dN (.inl (.inl rfl)))
 case waiting=>exact .inl (dN (.inl (.inr (.inl rfl))))
 case fatal m=>exact .inl (dN (qV _ _ _ _ _ _))
 case throw m=>exact .inl (dN (.inr ⟨rfl,_,rfl,λh=>by cases h⟩))
 all_goals exact .inl trivial
def AN{P} fn tmps:Pl P (Go.results fn tmps):=by unfold Go.results;refine aK (AT _ (λr=>?_) _) λvs=>trivial;cases r with|tmp t=>exact trivial|cell a t=>exact aK (kZ _) λ_=>ly _ _
def Cl{P}(hB:bG P) fr callers w(h:cm dy fr callers):fh dy (λw=>unwind P true fr callers dy w) w:=by
 have KT:∀g:Goroutine,cm dy g.frame g.callers->g.dying=dy->g.status=.running->(∀u,unwind P true fr callers dy u=.go g u #[])->fh dy (λw=>unwind P true fr callers dy w) w:=λg h1 h2 h3 e=>(fh.go h1 h2 h3).congr e;rcases hd:fr.defers with _|⟨d,ds⟩;cases hm:fr.mode with
 |run=>exact(eC (o:=.stuck "unwind: the frame is running" (fr.pos P))).congr (λu=>by unfold unwind;simp only[hd,hm])|panicking chain=>
  cases hca:fr.catches P with
  |true=>exact(eC (o:=.unsupported (.noEntry "a panic or Goexit out of a method that fmt calls behind a cut's door") (fr.pos P))).congr (λu=>by unfold unwind;simp only[hd,hm,hca,if_true])|false=>
  cases callers with
  |cons c cs=>exact KT {frame:=c.raise chain,callers:=cs,status:=.running,dying:=dy} (h.pop.raise _) rfl rfl (λu=>by unfold unwind;simp only[hd,hm,hca,Bool.false_eq_true,if_false])|nil=>
  refine .inr ?_;unfold unwind;cases dy with
  |none=>simp only[hd,hm,hca,Bool.false_eq_true,if_false];by_cases hg:chain.head?.any (·.goexit)=true;rw[if_pos hg];exact .inl (.inr (.inr rfl));rw[if_neg hg];generalize(reportChain chain false).run P w=r;cases r with|ok t w'=>exact .inr ⟨rfl,_,rfl,λh=>by cases h⟩|halt hh w'=>cases hh<;>exact trivial
  |some d=>simp only[hd,hm,hca,Bool.false_eq_true,if_false];split;unfold endPrinting;dsimp only;split;exact .inr ⟨rfl,_,rfl,λh=>by cases h⟩;exact trivial;exact trivial
 |returning=>
  cases hfn:P.funcs[fr.fn]? with
  |none=>exact(oC (P:=P) fr callers (fr.tmps.getD 0 undef) w h).congr (λu=>by unfold unwind;simp only[hd,hm,hfn])|some fn=>
  refine fh.run (AN fn fr.tmps) (λx=>match x with
   |(r,es)=>GStep.after (seen P fr.fn es) (match r with
    |.ok v w=>doReturn P true fr callers dy v w
    |.halt (.stuck s) w=>.ended (.stuck s (fr.pos P)) w
    |.halt _ w=>.ended (.stuck "return: the result variables cannot be read" (fr.pos P)) w)) (λu=>by unfold unwind;simp only[hd,hm,hfn];rfl) (λ_ _ _=>trivial) (λr es dO zo hb=>?_)
  cases r with|ok v w'=>exact .inr ⟨_,λu=>doReturn P true fr callers dy v u,sd,λx=>by rw[eZ _ _ zo];exact hb trivial x,λ_ _=>rfl,rfl,oC _ _ _ _ h⟩|halt hh w'=>cases hh<;>exact .inl trivial
 have h0:(∀u,unwind P true fr callers dy u=callDeferred P {fr with defers:=ds} callers dy d u)->fh dy (λw=>unwind P true fr callers dy w) w:=λe=>(wI hB {fr with defers:=ds} callers d w (h.same rfl rfl)).congr e;obtain⟨t,args⟩:=d;cases t;case collected b=>
  refine fh.run (oQ b) (λx=>match x with
    |(r,es)=>GStep.after (seen P fr.fn es) (match r with
     |.ok calls w=>.go {frame:={fr with defers:=calls++ds},callers,status:=.running,dying:=dy} w
     |.halt _ w=>.ended (.stuck "the deferred calls of a range-over-func loop have been taken" (fr.pos P)) w)) (λu=>by unfold unwind;simp only[hd];rfl) (λ_ _ _=>trivial) (λr es dO zo hb=>?_)
  cases r with
  |ok v w'=>exact .inr ⟨_,λu=>.go {frame:={fr with defers:=v++ds},callers,status:=.running,dying:=dy} u #[],sd,λx=>by rw[eZ _ _ zo];exact hb trivial x,λ_ _=>rfl,rfl,fh.go (h.same (fr':={fr with defers:=v++ds}) rfl rfl) rfl rfl⟩
  |halt hh w'=>exact .inl trivial
 all_goals exact h0 (λu=>by unfold unwind;simp only[hd])
def Yt{P}(hB:bG P) g w(hd:∀d,g.dying=some d->d.calling=true)(h:cm g.dying g.frame g.callers):fh g.dying (stepG P true g) w:=by
 obtain⟨fr,cs,st,dy,off⟩:=g;have hx:∀d:Dying,dy=some d->d.calling=true:=hd;cases hm:fr.mode with
 |run=>exact(Yv hB fr cs w h).congr (λu=>by cases dy with|none=>unfold stepG;simp only[hm]|some d=>obtain⟨a1,a2,a3,a4,a5,a6,a7⟩:=d;obtain rfl:a3=true:=hx _ rfl;unfold stepG;simp only[hm])
 |returning=>exact(Cl hB fr cs w h).congr (λu=>by cases dy with|none=>unfold stepG;simp only[hm]|some d=>obtain⟨a1,a2,a3,a4,a5,a6,a7⟩:=d;obtain rfl:a3=true:=hx _ rfl;unfold stepG;simp only[hm])
 |panicking c=>exact(Cl hB fr cs w h).congr (λu=>by cases dy with|none=>unfold stepG;simp only[hm]|some d=>obtain⟨a1,a2,a3,a4,a5,a6,a7⟩:=d;obtain rfl:a3=true:=hx _ rfl;unfold stepG;simp only[hm])
end Tp
namespace Rn
open Tp (sd gE gW)
section
variable{P:Program}{E:Env}{X:List Nat}
def QX(E:Env):Operand->Prop
 |.tmp _=>True|.const v=>Clean v|.func f=>E.F f|.global _=>False
def Zr(E:Env)(o:Oper):Prop:=match o.op with
 |.send ch x=>QX E ch/\QX E x
 |.recv _ ch _=>QX E ch
 |.call c=>c.callee=.builtin .close/\∃x,c.args=#[x]/\QX E x
 |.go c=>(∃x,c.callee=.value x/\QX E x)/\c.args=#[]
 |_=>False
def OpX(P:Program)(E:Env)(o:Oper):Prop:=o.guard=none/\(acC P E (QX E) o∨Zr E o)
def gB(P:Program)(E:Env):Code->Prop
 |.region _ ops _=>∀o∈ops,OpX P E o|.seq a b=>gB P E a/\gB P E b|.cond c a b=>QX E c/\gB P E a/\gB P E b|.block _ b|.loop b=>gB P E b|.exit _|.ret|.skip|.refuse _=>True|_=>False
def js(P:Program)(E:Env):Item->Prop
 |.code c=>gB P E c|.inBlock _=>True|.inLoop b=>gB P E b|.inRegion ops _=>∀o∈ops,OpX P E o|_=>False
def fA(P:Program)(E:Env)(l:List Item):Prop:=∀x∈l,js P E x
structure zC(P:Program)(E:Env)(X:List Nat)(fr fr':Frame):Prop where
 fn:fr'.fn=fr.fn
 todo:fr'.todo=fr.todo
 ok:fA P E fr.todo
 tmps:VA E X fr.tmps fr'.tmps
 defers:fr.defers=[]/\fr'.defers=[]
 mode:fr'.mode=fr.mode
 live:fr.mode=.run∨fr.mode=.returning
 kind:fr'.kind=fr.kind
 round:fr.roundOf=none/\fr'.roundOf=none
theorem zC.app{fr fr'}(h:zC P E X fr fr') Y:zC P E (X++Y) fr fr':=⟨h.fn,h.todo,h.ok,h.tmps.app Y,h.defers,h.mode,h.live,h.kind,h.round⟩
def zC.eval{fr fr'}(h:zC P E X fr fr'):∀x,QX E x->V E X (fr.eval x) (fr'.eval x):=by
 intro x hx;cases x with
 |tmp t=>show V E X (fr.tmps.getD t undef) (fr'.tmps.getD t undef);rw[Array.getD_eq_getD_getElem?,Array.getD_eq_getD_getElem?];rcases h.tmps.get t with⟨v,v',e1,e2,hv⟩|⟨e1,e2⟩;rw[e1,e2];exact hv;rw[e1,e2];exact V.eI (VA.empty X)
 |const v=>exact Clean.self hx X|func f=>exact .func f #[] #[] #[] #[] hx rfl (λi v v' h=>by simp at h) rfl (λi v v' h=>by simp at h)
 |global g=>exact hx.elim
def fA.tail{x k}(h:fA P E (x::k)):fA P E k:=λy hy=>h y (List.mem_cons_of_mem _ hy)
def fA.head{x k}(h:fA P E (x::k)):js P E x:=h x List.mem_cons_self
def fA.cons{x k}(h:js P E x)(hk:fA P E k):fA P E (x::k):=λy hy=>by rcases List.mem_cons.1 hy with rfl|hy;exact h;exact hk y hy
def zC.to{fr fr'}(h:zC P E X fr fr') k(hk:fA P E k):zC P E X {fr with todo:=k} {fr' with todo:=k}:=⟨h.fn,rfl,hk,h.tmps,h.defers,h.mode,h.live,h.kind,h.round⟩
def zC.finish{fr fr'}(h:zC P E X fr fr'){v v'}(hv:V E X v v'):zC P E X (fr.finish v) (fr'.finish v'):=by
 obtain⟨h1,h2,h3,h4,h5,h6,h7,h8,h9⟩:=h;obtain⟨fn,tmps,todo,defers,mode,kind,round⟩:=fr;obtain⟨fn',asK,aie,anf,asU,asV,ao0⟩:=fr';dsimp only at h1 h2 h3 h4 h5 h6 h7 h8 h9;subst h1 h2 h6 h8;obtain⟨rfl,rfl⟩:=h5;obtain⟨rfl,rfl⟩:=h9;unfold Frame.finish;dsimp only;cases aie with
 |nil=>exact⟨rfl,rfl,h3,h4,⟨rfl,rfl⟩,rfl,h7,rfl,⟨rfl,rfl⟩⟩|cons x k=>
 cases x with
 |inRegion ops l=>cases l with|nil=>exact⟨rfl,rfl,h3,h4,⟨rfl,rfl⟩,rfl,h7,rfl,⟨rfl,rfl⟩⟩|cons i l=>refine⟨rfl,rfl,fA.cons (show js P E (.inRegion ops l)from h3.head) h3.tail,?_,⟨rfl,rfl⟩,rfl,h7,rfl,⟨rfl,rfl⟩⟩;dsimp only;cases(ops[i]?).bind (·.dst)with|none=>exact h4|some d=>exact h4.set d hv
 |code c=>exact⟨rfl,rfl,h3,h4,⟨rfl,rfl⟩,rfl,h7,rfl,⟨rfl,rfl⟩⟩|inBlock c=>exact⟨rfl,rfl,h3,h4,⟨rfl,rfl⟩,rfl,h7,rfl,⟨rfl,rfl⟩⟩
 |inLoop c=>exact⟨rfl,rfl,h3,h4,⟨rfl,rfl⟩,rfl,h7,rfl,⟨rfl,rfl⟩⟩|_=>exact h3.head.elim
inductive LW(P:Program)(E:Env)(X:List Nat):List Frame->List Frame->Prop
 |nil:LW P E X [] []
 |cons {c c':Frame} {cs fy:List Frame} (h:zC P E X c c') (hs:LW P E X cs fy):LW P E X (c::cs) (c'::fy)
def LW.app{cs fy}(h:LW P E X cs fy) Y:LW P E (X++Y) cs fy:=by induction h with|nil=>exact .nil|cons h _ ih=>exact .cons (h.app Y) ih
def wall:Frame:={fn:=0,tmps:=#[],todo:=[.code (.refuse "")],defers:=[],mode:=.run,kind:=.normal}
structure yV(g:Goroutine):Prop where
 run:g.status=.running
 dy:g.dying=none
 defers:g.frame.defers=[]/\∀c∈g.callers,c.defers=[]
 bad:(∃ch,g.frame.mode=.panicking ch)∨(g.frame.mode=.run/\∃why k,g.frame.todo=.code (.refuse why)::k)
structure GR(P:Program)(E:Env)(X:List Nat)(R:List Frame)(g g':Goroutine):Prop where
 run:g.status=.running/\g'.status=.running
 dy:g.dying=none/\g'.dying=none
 frame:zC P E X g.frame g'.frame
 callers:∃cs fy,g.callers=cs++[wall]/\g'.callers=fy++R/\LW P E X cs fy
def LW.defers{cs fy}(h:LW P E X cs fy):∀c∈cs,c.defers=[]:=by
 induction h with
 |nil=>intro c hc;cases hc
 |cons h _ ih=>intro c hc;rcases List.mem_cons.1 hc with rfl|hc;exact h.defers.1;exact ih c hc
def Bad(g:Goroutine):Prop:=yV g∨g.status≠.running∨g.dying≠none
def Da(P:Program)(E:Env)(Sh:Nat->Prop)(X:List Nat)(R:List Frame)(w:World)(r r':GStep):Prop:=match r with
 |.go g1 v1 _=>Bad g1∨∃Y Yy w1 iI,r'=.go Yy w1 iI/\GR P E (X++Y) R g1 Yy/\Out E Sh X w Y v1 w1/\∀e∈iI,UG (X++Y) Sh e
 |.ended _ _ _=>True
 |_=>False
def QY.acX{Sh R w r r'}(h:Tp.QY r):Da P E Sh X R w r r':=by
 cases r with
 |go g v es=>rcases h with h|⟨h1,d,h2,_⟩;exact .inl (.inr (.inl (by rcases h with h|h|h<;>rw[h]<;>simp)));exact .inl (.inr (.inr (by rw[h2];simp)))
 |ended o v es=>exact trivial|_=>exact h.elim
def LW.clean{cs fy}(h:LW P E X cs fy):∀c∈cs++[wall],c.defers=[]:=by intro c hc;rcases List.mem_append.1 hc with h1|h1;exact h.defers c h1;rw[List.mem_singleton]at h1;subst h1;rfl
def n9(fr:Frame) l:(fr.raise l).defers=fr.defers:=by unfold Frame.raise;split<;>rfl
def raise_mode(fr:Frame) l:∃ch,(fr.raise l).mode=.panicking ch:=by unfold Frame.raise;split<;>exact⟨_,rfl⟩
def Bw{fr fr' cs fy}(fS:zC P E X fr fr')(ep:LW P E X cs fy) l:yV {frame:=fr.raise l,callers:=cs++[wall],status:=.running,dying:=none}:=⟨rfl,rfl,⟨by rw[n9];exact fS.defers.1,ep.clean⟩,.inl (raise_mode fr l)⟩
def VA.replicate n:VA E X (Array.replicate n undef) (Array.replicate n undef):=⟨rfl,λi v v' h1 h2=>by rw[h1]at h2;cases h2;rw[Array.getElem?_replicate]at h1;split at h1;cases h1;exact V.eI (VA.empty X);cases h1⟩
def zC.enter(hF:∀f fn b,E.F f->P.funcs[f]? =some fn->fn.body=some b->gB P E b) f(hf:E.F f){a a'}(ha:VA E X a a') k k'(hk:k'=k):zC P E X (Frame.enter P f a k) (Frame.enter P f a' k'):=by
 subst hk;refine⟨rfl,rfl,?_,?_,⟨rfl,rfl⟩,rfl,.inl rfl,rfl,⟨rfl,rfl⟩⟩;refine fA.cons ?_ (λ_ h=>by cases h);show gB P E _;cases h1:P.funcs[f]? with|none=>exact trivial|some fn=>cases h2:fn.body with|none=>simp only[Option.bind_some,h2];exact trivial|some b=>simp only[Option.bind_some,h2];exact hF f fn b hf h1 h2
 show VA E X (a++Array.replicate _ undef) (a'++Array.replicate _ undef);rw[<-ha.size];exact ha.append (VA.replicate _)
def aco{Sh}(hF:∀f fn b,E.F f->P.funcs[f]? =some fn->fn.body=some b->gB P E b)(hB:Z8 P E){R fr fr' cs fy s s'}(hs:RG P E (NX E) X s s')(fS:zC P E X fr fr')(ep:LW P E X cs fy){v w}(hw:WR E Sh X v w):Da P E Sh X R w (stepG.apply P true fr (cs++[wall]) none s v) (stepG.apply P true fr' (fy++R) none s' w):=by
 unfold stepG.apply;simp only[if_true];rcases hs.run #[] #[] hw with⟨h,v',es,pd,hr⟩|⟨a,v1,zw,Y,a',w1,uP,r1,r2,r3,r4,r5⟩;rw[hr];cases h with
 |panic x=>exact .inl (.inl (Bw fS ep _))|goexit=>exact .inl (.inl (Bw fS ep _))
 |blocked=>exact .inl (.inr (.inl (by simp)))|waiting=>exact .inl (.inr (.inl (by simp)))
 |exit c=>exact trivial|fatal m=>exact QY.acX (Tp.dN (Tp.qV _ _ _ _ _ _))
 |throw m=>exact QY.acX (Tp.dN (.inr ⟨rfl,_,rfl,λh=>by cases h⟩))|unsupported u=>cases u<;>first|exact trivial|exact pd.elim
 |stuck m=>exact trivial
 rw[r1,r2];have gr:∀(e:Event)(b:Bool),e∈seen P fr'.fn (if b=true then #[]else uP)->UG (X++Y) Sh e:=by intro e b he;have:=sd _ he;split at this;simp at this;rcases r5 e this with h|h;simp at h;exact h
 have abE:=fS.app Y;have af3:=ep.app Y;cases r3 with|value x x' hx=>exact .inr ⟨Y,_,w1,_,rfl,⟨⟨rfl,rfl⟩,⟨rfl,rfl⟩,abE.finish hx,cs,fy,rfl,rfl,af3⟩,r4,λe he=>gr e (fr'.kind==.early) (by rwa[Array.append_empty]at he)⟩|skip=>exact .inr ⟨Y,_,w1,_,rfl,⟨⟨rfl,rfl⟩,⟨rfl,rfl⟩,abE.finish (V.eI (VA.empty _)),cs,fy,rfl,rfl,af3⟩,r4,λe he=>gr e (fr'.kind==.early) (by rwa[Array.append_empty]at he)⟩|enter f a a' hf ha=>refine .inr ⟨Y,_,w1,_,rfl,⟨⟨rfl,rfl⟩,⟨rfl,rfl⟩,?_,fr::cs,fr'::fy,rfl,rfl,.cons abE af3⟩,r4,λe he=>gr e (fr'.kind==.early) (by rwa[Array.append_empty]at he)⟩;exact zC.enter hF f hf ha _ _ (by rw[abE.todo])
def fM{Sh R v w}(hw:WR E Sh X v w){fr fr' cs fy}(fS:zC P E X fr fr')(ep:LW P E X cs fy):Da P E Sh X R w (.go {frame:=fr,callers:=cs++[wall],status:=.running,dying:=none} v #[]) (.go {frame:=fr',callers:=fy++R,status:=.running,dying:=none} w #[]):=.inr ⟨[],_,w,_,rfl,by rw[List.append_nil];exact⟨⟨rfl,rfl⟩,⟨rfl,rfl⟩,fS,cs,fy,rfl,rfl,ep⟩,.refl hw,λe he=>by simp at he⟩
theorem Cu{id}:∀ {k k':List Item},exitTo id k=some k'->fA P E k->fA P E k'
 |[],_,h,_=>by cases h
 |it::k,k',h,hk=>by unfold exitTo at h;split at h;rename_i hh;cases hh;split at h;cases h;exact hk.tail;exact Cu h hk.tail;rename_i hh;cases hh;exact Cu h hk.tail;cases h
def run_choose{Sh} q{v w}(hw:WR E Sh X v w):∃t v1 w1,(choose q).run P v=.ok t v1/\(choose q).run P w=.ok t w1/\Out E Sh X w [] v1 w1:=by
 rcases(m8 (P:=P) (E:=E) (X:=X) q).run #[] #[] hw with⟨h,v',es,pd,hr⟩|⟨a,v1,zw,Y,a',w1,uP,r1,r2,r3,r4,r5⟩;rw[Sem.runT_eq]at hr;have:(choose q).run P v=.halt h v':=(Prod.mk.inj hr).1;unfold choose at this;rw[Sem.run]at this;split at this<;>cases this;rw[Sem.runT_eq]at r1 r2;obtain⟨rY,rfl⟩:=r3;have:Y=[]:=by simpa using rY
 subst this;exact⟨a,v1,w1,(Prod.mk.inj r1).1,(Prod.mk.inj r2).1,r4⟩
def agw{Sh}(hF:∀f fn b,E.F f->P.funcs[f]? =some fn->fn.body=some b->gB P E b)(hB:Z8 P E)(hG:P.globals.size<=E.G){R fr fr' cs fy}(fS:zC P E X fr fr')(ep:LW P E X cs fy)(hm:fr.mode=.run) (hT:∀ops i l k o,fr.todo=.inRegion ops (i::l)::k->ops[i]? =some o->¬Zr E o) {v w} (hw:WR E Sh X v w) b b':Da P E Sh X R w (stepG.exec P b true fr (cs++[wall]) none v) (stepG.exec P b' true fr' (fy++R) none w):=by
 have KA:=fS.todo;have dO:=fS.ok;unfold stepG.exec;simp only[KA];cases ht:fr.todo with
 |nil=>simp only[fS.round.1,fS.round.2];refine fM hw ⟨fS.fn,rfl,(λ_ h=>by cases h),fS.tmps,fS.defers,rfl,.inr rfl,fS.kind,⟨rfl,rfl⟩⟩ ep|cons x k=>
 rw[ht]at dO;have hk:=dO.tail;cases x with
 |code c=>
  have hc:gB P E c:=dO.head;cases c with
  |ret=>simp only[fS.round.1,fS.round.2];refine fM hw ⟨fS.fn,rfl,dO,fS.tmps,fS.defers,rfl,.inr rfl,fS.kind,⟨rfl,rfl⟩⟩ ep|skip=>exact fM hw (fS.to k hk) ep
  |seq a b=>exact fM hw (fS.to _ (.cons (show js P E (.code a)from hc.1) (.cons (show js P E (.code b)from hc.2) hk))) ep|cond x a b=>
   have hx:=fS.eval x hc.1;dsimp only;revert hx;generalize fr.eval x=y;generalize fr'.eval x=y';intro hx;cases hx with
   |bool t=>refine fM hw (fS.to _ (.cons ?_ hk)) ep;cases t;exact hc.2.2;exact hc.2.1
   |_=>exact trivial
  |block id b=>exact fM hw (fS.to _ (.cons (show js P E (.code b)from hc) (.cons (show js P E (.inBlock id)from trivial) hk))) ep|loop b=>exact fM hw (fS.to _ (.cons (show js P E (.code b)from hc) (.cons (show js P E (.inLoop b)from hc) hk))) ep
  |exit id=>cases he:exitTo id k with|none=>simp only[fS.round.1,fS.round.2,he,Option.elim_none,Bool.false_eq_true,if_false];exact trivial|some k'=>simp only[he,Option.elim_some];exact fM hw (fS.to _ (Cu he hk)) ep
  |refuse why=>exact trivial|region id ops draw=>dsimp only;cases draw with|false=>exact fM hw (fS.to _ (.cons (show js P E (.inRegion ops _)from hc) hk)) ep|true=>obtain⟨t,v1,w1,h1,h2,h3⟩:=run_choose (P:=P) (.order fr.fn id) hw;simp only[Bool.not_true,Bool.false_eq_true,if_false];rw[show Question.order fr'.fn id=.order fr.fn id by rw[fS.fn],h1,h2];dsimp only;refine .inr ⟨[],_,w1,_,rfl,?_,h3,λe he=>by simp at he⟩;rw[List.append_nil];exact⟨⟨rfl,rfl⟩,⟨rfl,rfl⟩,fS.to _ (.cons (show js P E (.inRegion ops _)from hc) hk),cs,fy,rfl,rfl,ep⟩
  |scope b=>exact hc.elim|label l=>exact hc.elim
  |goto l=>exact hc.elim|rangeFunc a b c d=>exact hc.elim
 |inBlock id=>exact fM hw (fS.to k hk) ep|inLoop b=>exact fM hw (fS.to _ (.cons (show js P E (.code b)from dO.head) (.cons (show js P E (.inLoop b)from dO.head) hk))) ep
 |inRegion ops l=>
  have apY:∀o∈ops,OpX P E o:=dO.head;cases l with
  |nil=>exact fM hw (fS.to k hk) ep|cons i l=>
  dsimp only;cases hi:ops[i]? with
  |none=>simp only[Option.map_none,Option.getD_none,Bool.false_eq_true,if_false];exact fM hw (fS.finish (V.eI (VA.empty _))) ep|some o=>
  have hox:=apY o (Array.mem_of_getElem? hi);have Xl:∀y,Region.wanted o y=true:=λy=>by unfold Region.wanted;rw[hox.1]
  simp only[Option.map_some,Option.getD_some,Xl,if_true];have hoo:acC P E (QX E) o:=by rcases hox.2 with h|h;exact h;exact absurd h (hT ops i l k o ht hi)
  have ZR:fr.oper? =some o:=by unfold Frame.oper?;rw[ht];exact hi
  have ho2:fr'.oper? =some o:=by unfold Frame.oper?;rw[KA,ht];exact hi
  unfold stepG.oper;simp only[ZR,ho2,fS.round.1,fS.round.2];exact aco hF hB (RM hB hG fS.eval o hoo) fS ep hw
 |_=>exact dO.head.elim
theorem PG{γ} f f'(hf:∀a,RE P E (V E X) X (f a) (f' a)):∀l:List γ,RE P E (λr r'=>VA E X r.toArray r'.toArray) X (l.mapM f) (l.mapM f')
 |[]=>by rw[List.mapM_nil,List.mapM_nil];exact az (VA.empty X)|a::l=>by rw[List.mapM_cons,List.mapM_cons];refine ay (hf a) λv v' hv=>ay (PG f f' hf l) λr r' hr=>az ?_;have:=(VA.one hv).append hr;simpa using this
def MO fn{a a'}(ha:VA E X a a'):RE P E (V E X) X (results fn a) (results fn a'):=by
 have mM:∀t,V E X (a.getD t undef) (a'.getD t undef):=λt=>by rw[Array.getD_eq_getD_getElem?,Array.getD_eq_getD_getElem?];rcases ha.get t with⟨v,v',e1,e2,hv⟩|⟨e1,e2⟩;rw[e1,e2];exact hv;rw[e1,e2];exact V.eI (VA.empty X)
 unfold results;rw[Array.mapM_eq_mapM_toList,Array.mapM_eq_mapM_toList];refine ay (R:=VA E X) (ay (PG _ _ (λr=>?_) _) λr r' hr=>az hr) λr r' hr=>?_;cases r with|tmp t=>exact az (mM t)|cell a t=>exact ay (EM (mM a)) λb b' hb=>Az hb t
 refine az ?_;by_cases h1:r.size=1;have h2:r'.size=1:=by rw[<-hr.size];exact h1
 rw[dif_pos h1,dif_pos h2];exact hr.el 0 _ _ (Array.getElem?_eq_getElem (by omega)) (Array.getElem?_eq_getElem (by omega));have h2:¬r'.size=1:=by rw[<-hr.size];exact h1
 rw[dif_neg h1,dif_neg h2];exact V.eI hr
def mV:yV {frame:=wall,callers:=[],status:=.running,dying:=none}:=⟨rfl,rfl,⟨rfl,λ_ h=>by cases h⟩,.inr ⟨rfl,_,_,rfl⟩⟩
def CA{Sh R fr fr' cs fy}(fS:zC P E X fr fr')(ep:LW P E X cs fy){v w}(hw:WR E Sh X v w){x x'}(hx:V E X x x') b b':Da P E Sh X R w (doReturn P b fr (cs++[wall]) none x v) (doReturn P b' fr' (fy++R) none x' w):=by
 unfold doReturn;rw[fS.kind];cases ep with
 |nil=>simp only[List.nil_append];cases fr.kind with|normal=>exact .inl (.inl mV)|wrapped=>exact .inl (.inl mV)|early=>exact .inl (.inl mV)|deferred=>exact .inl (.inl mV)|report=>exact .inl (.inl mV)
 |@cons c c' cs fy hc ep=>
 simp only[List.cons_append];cases fr.kind with
 |normal=>exact fM hw (hc.finish hx) ep|wrapped=>exact fM hw (hc.finish hx) ep
 |early=>exact fM hw hc ep|deferred=>rcases hc.live with h1|h1<;>(have h2:=hc.mode.trans h1;simp only[h1,h2];exact fM hw hc ep)
 |report=>rcases hc.live with h1|h1<;>(have h2:=hc.mode.trans h1;simp only[h1,h2];exact fM hw hc ep)
def Vi{Sh R fr fr' cs fy}(fS:zC P E X fr fr')(ep:LW P E X cs fy)(hm:fr.mode=.returning){v w}(hw:WR E Sh X v w) b b':Da P E Sh X R w (unwind P b fr (cs++[wall]) none v) (unwind P b' fr' (fy++R) none w):=by
 have hm':fr'.mode=.returning:=fS.mode.trans hm;unfold unwind;simp only[fS.defers.1,fS.defers.2,hm,hm',fS.fn];cases hf:P.funcs[fr.fn]? with
 |none=>refine CA fS ep hw ?_ b b';rw[Array.getD_eq_getD_getElem?,Array.getD_eq_getD_getElem?];rcases fS.tmps.get 0 with⟨v,v',e1,e2,hv⟩|⟨e1,e2⟩;rw[e1,e2];exact hv;rw[e1,e2];exact V.eI (VA.empty X)
 |some fn=>
 dsimp only;rcases(MO (P:=P) fn fS.tmps).run #[] #[] hw with⟨h,v',es,pd,hr⟩|⟨a,v1,zw,Y,a',w1,uP,r1,r2,r3,r4,r5⟩;rw[hr];cases h<;>exact trivial;obtain⟨hY,ha⟩:=r3;have:Y=[]:=by simpa using hY
 subst this;rw[r1,r2];rw[List.append_nil]at r5;have Xm:WR E Sh X v1 w1:=by have:=r4.rel;rwa[List.append_nil]at this
 have hr:=CA (R:=R) fS ep Xm ha b b';dsimp only;generalize doReturn P b fr (cs++[wall]) none a v1=q at hr;generalize doReturn P b' fr' (fy++R) none a' w1=q' at hr;cases q with
 |go g0 u0 e0=>rcases hr with hr|⟨Y2,Yy,w2,e2,rfl,h2,h3,h4⟩;exact .inl hr;refine .inr ⟨Y2,Yy,w2,_,rfl,h2,by simpa using r4.trans (by simpa using h3),λe he=>?_⟩;rcases Array.mem_append.1 he with h5|h5;rcases r5 e (sd _ h5)with h6|h6;simp at h6;exact h6.app Y2;exact h4 e h5
 |ended o u0 e0=>exact trivial|_=>exact hr.elim
def VJ{Sh}(hF:∀f fn b,E.F f->P.funcs[f]? =some fn->fn.body=some b->gB P E b)(hB:Z8 P E)(hG:P.globals.size<=E.G){R g g'}(h:GR P E X R g g') (hT:g.frame.mode=.run->∀ops i l k o,g.frame.todo=.inRegion ops (i::l)::k->ops[i]? =some o->¬Zr E o) {v w} (hw:WR E Sh X v w) b b':Da P E Sh X R w (stepG P b g v) (stepG P b' g' w):=by
 obtain⟨fr,cs,st,dy,off⟩:=g;obtain⟨fr',fy,st',dy',ae4⟩:=g';obtain⟨h1,⟨rfl,rfl⟩,h3,⟨ds,ds',rfl,rfl,h4⟩⟩:=h;rcases h3.live with hm|hm;replace hm:fr.mode=.run:=hm;have hm':fr'.mode=.run:=h3.mode.trans hm;have e1:stepG P b ⟨fr,ds++[wall],st,none,off⟩ v=stepG.exec P b true fr (ds++[wall]) none v:=by unfold stepG;simp only[hm]
 have e2:stepG P b' ⟨fr',ds'++R,st',none,ae4⟩ w=stepG.exec P b' true fr' (ds'++R) none w:=by unfold stepG;simp only[hm']
 rw[e1,e2];exact agw hF hB hG h3 h4 hm (hT hm) hw b b';replace hm:fr.mode=.returning:=hm;have hm':fr'.mode=.returning:=h3.mode.trans hm;have e1:stepG P b ⟨fr,ds++[wall],st,none,off⟩ v=unwind P b fr (ds++[wall]) none v:=by unfold stepG;simp only[hm]
 have e2:stepG P b' ⟨fr',ds'++R,st',none,ae4⟩ w=unwind P b' fr' (ds'++R) none w:=by unfold stepG;simp only[hm']
 rw[e1,e2];exact Vi h3 h4 hm hw b b'
end
end Rn
namespace Tp
open Go.Conc
def kn(gs:Array Goroutine):Prop:=∀r b,partners gs r b=[]
def pQ:kn #[ph]:=λr b=>by simp[partners,ph]
def Rb{gs gs'}(h:kn gs)(h':kn gs') w c:ways w gs c=ways w gs' c:=by unfold ways;simp only[h _ _,h' _ _]
def jH:Way->Prop
 |.partner _ _=>False|_=>True
def yn{gs}(h:kn gs) w c:∀x∈ways w gs c,jH x:=by
 unfold ways;simp only[h _ _];intro x hx;revert hx;repeat' split
 all_goals (intro hx;simp at hx;try(subst hx;exact trivial))
abbrev VX:Rest:={timers:=#[],alone:=none,slice:=none}
def yo sl mono cases:timerAhead {timers:=#[],alone:=none,slice:=sl} mono cases=false:=by unfold timerAhead;rw[Array.any_eq_false];intro k hk;split<;>simp
def lf sl cases w:waitingAt {timers:=#[],alone:=none,slice:=sl} cases w=some w:=by unfold waitingAt;rw[yo];rfl
def ZG(g g':Goroutine):Prop:=(g'.status=.blocked/\g'.frame=g.frame/\g'.callers=g.callers/\g'.dying=g.dying)∨(g'.status=.running/\g'.callers=g.callers/\g'.dying=g.dying/\((∃v,g'.frame=g.frame.finish v)∨∃l,g'.frame=g.frame.raise l))∨g'=g
def QZ(ops:Array MemOp):Prop:=∀op∈ops,op.g=0/\op.act.touch? =none/\∀m,op.act≠.mark m
structure ag9(P:Program)(g:Goroutine)(cases:Array CommCase)(uW:Bool)(shape:CommShape)(w:World)(g':Goroutine)(w':World)(ops:Array MemOp)(k:Nat):Prop where
 drawn:w'.drawn=w.drawn+k
 tape:w'.tape=w.tape
 size:w.heap.size<=w'.heap.size
 left:ZG g g'
 Zm:QZ ops
 same:∀τ n,Agree w τ n k->∀(gs:Array Goroutine)(sl:Option (Nat×Nat)),kn gs->communicate P {timers:=#[],alone:=none,slice:=sl} gs 0 g cases uW shape (w.re τ n)=(.next (crowd (gs.setIfInBounds 0 g') (w'.re τ (n+k)) sl),ops)
def Gg{P α Φ}{s:Sem α}(hs:Plain P Φ s) w:(∃k,(wR (s.run P w)).drawn=w.drawn+k/\(wR (s.run P w)).tape=w.tape/\w.heap.size<=(wR (s.run P w)).heap.size/\(∀a w',s.run P w=.ok a w'->Φ a)/\∀τ n,Agree w τ n k->s.run P (w.re τ n)=ZL τ (n+k) (s.run P w))∨∃x w',s.run P w=.halt (.unsupported (.noEntry x)) w':=by rcases hs.run w #[]with⟨k,i⟩|⟨u,w',iI,h⟩;refine .inl ⟨k,?_,?_,?_,?_,?_⟩;simpa only[Sem.runT_eq]using i.drawn;simpa only[Sem.runT_eq]using i.tape;simpa only[Sem.runT_eq]using i.size;intro a w' h;exact i.post a w' (by rw[Sem.runT_eq];exact h);intro τ n ha;have:=i.same τ n ha;simp only[Sem.runT_eq,Prod.mk.injEq]at this;exact this.1;refine .inr ⟨u,w',?_⟩;rw[Sem.runT_eq]at h;exact(Prod.mk.inj h).1
def aaN{P}(ready:List (Nat×CommCase×List Way))(h:∀x∈ready,∀y∈x.2.2,jH y) :
  Plain P (λx=>jH x.2.2) (do
   let a <-choose (.select ready.length);let(k,c,ws):=ready.getD a (0,default,[]);let b <-choose (.extern "which waiting goroutine is the partner" ws.length)
   pure (k,c,ws.getD b .closed):Sem (Nat×CommCase×Way)):=by
 intro a b;show jH ((ready.getD a (0,default,[])).2.2.getD b .closed);have hx:∀y∈(ready.getD a (0,default,[])).2.2,jH y:=by
  intro y hy;rw[List.getD_eq_getElem?_getD]at hy;cases hr:ready[a]? with
  |none=>rw[hr]at hy;cases hy
  |some x=>rw[hr]at hy;exact h x (List.mem_of_getElem? hr) y hy
 generalize ready.getD a (0,default,[])=x at hx|-;rw[List.getD_eq_getElem?_getD];cases hr:x.2.2[b]? with
 |none=>exact trivial
 |some y=>exact hx y (List.mem_of_getElem? hr)
def Ox P g cases uW shape w(hg:g.status=.running){m' ops} (h:communicate P VX #[ph] 0 g cases uW shape w=(.next m',ops)):∃g' w' k,m'=solo g' w'/\ag9 P g cases uW shape w g' w' ops k:=by
 have as7:∀(g':Goroutine)(gs:Array Goroutine)(u:World)(sl:Option (Nat×Nat)),({world:=u,gs:=gs.setIfInBounds 0 g',rest:={timers:=#[],alone:=none,slice:=sl}}:Machine)=crowd (gs.setIfInBounds 0 g') u sl:=λ_ _ _ _=>rfl;have NM:∀gs,kn gs->∀(u:World)(hu:u.heap=w.heap),(cases.zipIdx.toList.map λ(c,k)=>(k,c,ways u gs c)).filter (λ(_,_,ws)=> !ws.isEmpty)=(cases.zipIdx.toList.map λ(c,k)=>(k,c,ways w #[ph] c)).filter (λ(_,_,ws)=> !ws.isEmpty):=by
  intro gs zp u hu;congr 1;apply List.map_congr_left;rintro⟨c,k⟩_;have:ways u gs c=ways w #[ph] c:=by rw[Rb zp pQ];unfold ways;rw[hu]
  simp only[this]
 have hnp:∀x∈(cases.zipIdx.toList.map λ(c,k)=>(k,c,ways w #[ph] c)).filter (λ(_,_,ws)=> !ws.isEmpty),∀y∈x.2.2,jH y:=by intro x hx y hy;obtain⟨hx,_⟩:=List.mem_filter.1 hx;obtain⟨⟨c,k⟩,_,rfl⟩:=List.mem_map.1 hx;exact yn pQ w c y hy
 have XH:∀τ n,(w.re τ n).heap=w.heap:=λ_ _=>rfl;have hp:=Gg (aaN (P:=P) _ hnp) w;dsimp only at hp NM;unfold communicate at h;dsimp only at h;split at h;cases h;rename_i Tv;split at h;rename_i DR;split at h;rename_i jI;subst jI;rw[lf]at h;cases h;refine⟨_,w,0,rfl,rfl,rfl,ν,.inl ⟨rfl,rfl,rfl,rfl⟩,λop cI=>by simp at cI,λτ n _ gs sl zp=>?_⟩;unfold communicate;dsimp only;simp only[XH,NM gs zp (w.re τ n) rfl,lf];rw[if_neg Tv,if_pos DR];rfl;rename_i jI;cases h;refine⟨_,w,0,rfl,rfl,rfl,ν,.inr (.inl ⟨rfl,rfl,rfl,.inl ⟨_,rfl⟩⟩),λop cI=>by simp at cI,λτ n _ gs sl zp=>?_⟩;unfold communicate;dsimp only;simp only[XH,NM gs zp (w.re τ n) rfl,lf];rw[if_neg Tv,if_pos DR,if_neg jI];rfl;rename_i DR;split at h;cases h;rename_i kk c way w1 hpk;rw[hpk]at hp;rcases hp with⟨k,e1,e2,e3,e4,e5⟩|⟨x,w',hx⟩;case inr=>cases hx
 replace e1:w1.drawn=w.drawn+k:=e1;replace e2:w1.tape=w.tape:=e2;replace e3:w.heap.size<=w1.heap.size:=e3;have hnw:=e4 _ _ rfl;have ajg:∀τ n,(w1.re τ n).heap=w1.heap:=λ_ _=>rfl;have hpn:∀gs,kn gs->∀r b,partners gs r b=[]:=λ_ h=>h;have ajp:∀u:World,Sem.run P (runtimePanic (.plain "send on closed channel"):Sem Unit) u=.halt (.panic (.iface P.rt.plainError (strVal "send on closed channel"))) u:=λu=>rfl;split at h;rw[ajp]at h;cases h;refine⟨_,w1,k,rfl,e1,e2,e3,.inr (.inl ⟨hg,rfl,rfl,.inr ⟨_,rfl⟩⟩),λop cI=>by simp at cI,λτ n ha gs sl zp=>?_⟩;unfold communicate;dsimp only;simp only[XH,NM gs zp (w.re τ n) rfl];rw[if_neg Tv,if_neg DR,e5 τ n ha];dsimp only[ZL];rw[ajp];rfl;cases h;refine⟨_,w1,k,rfl,e1,e2,e3,.inr (.inl ⟨rfl,rfl,rfl,.inl ⟨_,rfl⟩⟩),λop cI=>?_,λτ n ha gs sl zp=>?_⟩;simp at cI;subst cI;exact⟨rfl,rfl,λm=>by simp⟩;unfold communicate;dsimp only;simp only[XH,NM gs zp (w.re τ n) rfl];rw[if_neg Tv,if_neg DR,e5 τ n ha];rfl;rename_i cap buf closed ag aA tm v Qp hsd;cases h;refine⟨_,_,k,rfl,e1,e2,(by show w.heap.size<=(w1.heap.setIfInBounds _ _).size;simpa using e3),.inr (.inl ⟨rfl,rfl,rfl,.inl ⟨_,rfl⟩⟩),λop cI=>?_,λτ n ha gs sl zp=>?_⟩;simp at cI;rcases cI with rfl|rfl<;>exact⟨rfl,rfl,λm=>by simp⟩;unfold communicate;dsimp only;simp only[XH,NM gs zp (w.re τ n) rfl];rw[if_neg Tv,if_neg DR,e5 τ n ha];dsimp only[ZL];simp only[ajg,Qp,hsd];rfl;rename_i cap buf closed ag aA tm Qp hsd;rw[pQ _ _]at h;cases h;refine⟨_,_,k,rfl,e1,e2,(by show w.heap.size<=(w1.heap.setIfInBounds _ _).size;simpa using e3),.inr (.inl ⟨rfl,rfl,rfl,.inl ⟨_,rfl⟩⟩),λop cI=>?_,λτ n ha gs sl zp=>?_⟩;simp at cI;rcases cI with rfl|rfl<;>exact⟨rfl,rfl,λm=>by simp⟩;unfold communicate;dsimp only;simp only[XH,NM gs zp (w.re τ n) rfl];rw[if_neg Tv,if_neg DR,e5 τ n ha];dsimp only[ZL];simp only[ajg,Qp,hsd,hpn gs zp];rfl;exact hnw.elim;exact hnw.elim;cases h
structure Ld(g:Goroutine):Prop where
 run:g.status=.running
 dy:∀d,g.dying=some d->d.calling=true
 TY:cm g.dying g.frame g.callers
def agY(g:Goroutine):Prop:=(g.status=.blocked∨g.status=.waiting∨g.status=.finished)∨(g.status=.running/\al0 g)
def Calm(gs:Array Goroutine):Prop:=∀j x,0<j->gs[j]? =some x->x.status=.running∨x.status=.finished
def Calm.no{gs}(h:Calm gs):kn (gs.setIfInBounds 0 ph):=λr b=>partners_nil λj g hj=>by rcases getElem?_stand gs 0 j g hj with⟨_,rfl⟩|⟨h0,hj⟩;exact offersAt_ph r b;exact offersAt_of_not_blocked (by rcases h j g (by omega) hj with e|e<;>rw[e]<;>simp) r b
def Calm.woken{P gs}(h:Calm gs) g g' w:(gs.map (woken P g g' w)).setIfInBounds 0 g'=gs.setIfInBounds 0 g':=by apply Array.ext_getElem?;intro j;by_cases hj:j=0;subst hj;by_cases hs:0<gs.size;rw[Array.getElem?_setIfInBounds_self_of_lt (by simpa using hs),Array.getElem?_setIfInBounds_self_of_lt hs];rw[Array.getElem?_eq_none (by simpa using hs),Array.getElem?_eq_none (by simpa using hs)];rw[Array.getElem?_setIfInBounds_ne (Ne.symm hj),Array.getElem?_setIfInBounds_ne (Ne.symm hj),Array.getElem?_map];cases hx:gs[j]? with|none=>rfl|some x=>rw[Option.map_some];unfold Go.Conc.woken;split;rw[again_running _ (h j x (by omega) hx)];rfl
structure cN(P:Program)(g:Goroutine)(w:World)(g':Goroutine)(w':World)(ops:Array MemOp)(k:Nat):Prop where
 drawn:w'.drawn=w.drawn+k
 tape:w'.tape=w.tape
 size:w.heap.size<=w'.heap.size
 own:∀op∈ops,op.g=0
 deaf:∀t:Trace,Deaf (t++ops) 0=Deaf t 0
 same:∀τ n,Agree w τ n k->∀(gs:Array Goroutine)(sl:Option (Nat×Nat)),Calm gs->gs[0]? =some g->runT P (crowd gs (w.re τ n) sl) 0=(.next (crowd (gs.setIfInBounds 0 g') (w'.re τ (n+k)) sl),ops)
def jZ{fn pos es}(h:∀x,deafBehind x es=x) t:Deaf (t++MemOp.ofEvents 0 fn pos es) 0=Deaf t 0:=by rw[Deaf_own,h]
def Ud{ops}(h:QZ ops) t:Deaf (t++ops) 0=Deaf t 0:=by
 obtain⟨l⟩:=ops;rw[Deaf_append];generalize Deaf t 0=d;induction l with
 |nil=>rfl|cons y l ih=>
 have e:deafStep 0 d y=d:=by have:=(h y (by simp)).2.2;unfold deafStep;split;rename_i hh;exact absurd hh (this _);rename_i hh;exact absurd hh (this _);rfl
 rw[List.foldl_cons,e];exact ih (λop cI=>h op (by simp at cI|-;exact .inr cI))
def Nu x n f:(#[x]:Array Goroutine).modify (n+1) f=#[x]:=by apply Array.ext_getElem?;intro j;rw[Array.getElem?_modify];by_cases hj:n+1=j;subst hj;simp;simp[hj]
def oI{P gs w w1 sl g g2 c es}(hi:gs[0]? =some g)(h:stepG P true g w=.coroswitch g2 c true w1 es):(∃hh,w1.heap[c]? =some (.coro (some hh))/\runT P (crowd gs w sl) 0=(.next (crowd ((gs.setIfInBounds 0 {g2 with status:=.finished}).modify hh (λo=>{o with status:=.running})) {w1 with heap:=w1.heap.setIfInBounds c (.coro none)} sl),MemOp.ofEvents 0 g.frame.fn g.frame.place es))∨(w1.heap[c]? =some (.coro none)/\∃d,d.calling=false/\runT P (crowd gs w sl) 0=(.next (crowd (gs.setIfInBounds 0 {frame:=g2.frame,callers:=[],status:=.running,dying:=some d}) w1 sl),MemOp.ofEvents 0 g.frame.fn g.frame.place es))∨((∀hh,w1.heap[c]?≠some (.coro (some hh)))/\∃o w',runT P (crowd gs w sl) 0=(.ended o w',MemOp.ofEvents 0 g.frame.fn g.frame.place es)):=by
 obtain⟨aM,rfl⟩:=Array.getElem?_eq_some_iff.1 hi;have hsw:=swapAt_of_lt aM {(default:Goroutine)with status:=.finished};have hr:runT P (crowd gs w sl) 0=runT P {world:=w,gs:=gs,rest:={timers:=#[],alone:=none,slice:=sl}} 0:=rfl;rw[hr];unfold runT;simp only[hsw,h,GStep.es,set_setIfInBounds aM,BEq.rfl];cases hh:w1.heap[c]? with
 |none=>exact .inr (.inr ⟨by simp,_,_,rfl⟩)|some o=>
 cases o with
 |coro x=>cases x with|none=>exact .inr (.inl ⟨rfl,_,rfl,rfl⟩)|some x=>exact .inl ⟨x,rfl,rfl⟩
 |_=>exact .inr (.inr ⟨by simp,_,_,rfl⟩)
inductive ZE(P:Program)(g:Goroutine)(w:World):Prop
 |over (h:∀m' ops,stepT P (solo g w)≠(.next m',ops))
 |many (m':Machine) (ops:Array MemOp) (h:stepT P (solo g w)=(.next m',ops)) (h2:2<=m'.gs.size)
 |off (g':Goroutine) (w':World) (ops:Array MemOp) (h:stepT P (solo g w)=(.next (solo g' w'),ops)) (h2:agY g')
 |move (g':Goroutine) (w':World) (ops:Array MemOp) (k:Nat) (h:stepT P (solo g w)=(.next (solo g' w'),ops)) (h2:Ld g') (h3:g'.dying=g.dying) (h4:cN P g w g' w' ops k)
def Ff{P}(hB:bG P) g w(h:Ld g):ZE P g w:=by
 have h0:stepT P (solo g w)=runT P (solo g w) 0:=stepT_solo h.run;have xX:∀u,solo g u=crowd #[g] u none:=λ_=>rfl;rcases Yt hB g w h.dy h.TY with⟨k,i⟩|kC
 ·have i1:=i.drawn;have i2:=i.tape;have i3:=i.size;have i5:=i.Zc;have i6:=i.kind;have i7:=i.same;cases hs:stepG P true g w with
  |go g' w' es=>rw[hs]at i1 i2 i3 i5 i6 i7;refine .move g' w' _ k (h0.trans (runT_solo_go hs)) ⟨i6.2.2,by rw[i6.2.1];exact h.dy,by rw[i6.2.1];exact i6.1⟩ i6.2.1 ⟨i1,i2,i3,λop cI=>?_,jZ i5,λτ n ha gs sl zp hg=>?_⟩;obtain⟨e,_,rfl⟩:=Go.Conc.mem_ofEvents cI;rfl;have:=runT_crowd_go (P:=P) (w:=w.re τ n) (sl:=sl) (i:=0) hg (i7 τ n ha);rw[zp.woken]at this;exact this
  |comm g2 cs bl sh w1 es=>
   rw[hs]at i1 i2 i3 i5 i6 i7;obtain⟨f1,f2,f3⟩:=i6;have hr:=runT_crowd_comm (P:=P) (gs:=#[g]) (sl:=none) (i:=0) (by rfl) hs;cases hcm:communicate P VX #[ph] 0 g2 cs bl sh w1 with|mk r Zm=>
   have mR:stepT P (solo g w)=(r,MemOp.ofEvents 0 g.frame.fn g.frame.place es++Zm):=by rw[h0,xX,hr,show(#[g].setIfInBounds 0 ph:Array Goroutine)=#[ph]from rfl,show(crowd #[g] w none).rest=VX from rfl,hcm]
   cases r with
   |ended o w'=>exact .over (λm' ops=>by rw[mR];simp)|next m'=>
   obtain⟨g',w',k2,rfl,c⟩:=Ox P g2 cs bl sh w1 f3 hcm;have ZS:∀(_:True),cN P g w g' w' (MemOp.ofEvents 0 g.frame.fn g.frame.place es++Zm) (k+k2):=λ_=>by refine⟨by rw[c.drawn];show(gW (GStep.comm g2 cs bl sh w1 es)).drawn+k2=_;rw[i1];omega,c.tape.trans i2,Nat.le_trans i3 c.size,λop cI=>?_,λt=>?_,λτ n ha gs sl zp hg=>?_⟩;rcases Array.mem_append.1 cI with cI|cI;obtain⟨e,_,rfl⟩:=Go.Conc.mem_ofEvents cI;rfl;exact(c.Zm op cI).1;rw[<-Array.append_assoc];exact(Ud c.Zm _).trans (jZ i5 t);have:=runT_crowd_comm (P:=P) (gs:=gs) (sl:=sl) (i:=0) hg (i7 τ n (ha.mono (by omega)));rw[this];have h2:=c.same τ (n+k) (λj hj=>by have:=ha (k+j) (by omega);rw[Nat.add_assoc,this];show w.tape _=w1.tape _;rw[show w1.tape=w.tape from i2,show w1.drawn=w.drawn+k from i1,Nat.add_assoc]) (gs.setIfInBounds 0 ph) sl zp.no;rw[show(crowd gs (w.re τ n) sl).rest={timers:=#[],alone:=none,slice:=sl}from rfl,h2,set_stand,Nat.add_assoc]
   rcases c.left with⟨l1,_,_,_⟩|⟨l1,l2,l3,l4⟩|rfl;exact .off g' w' _ mR (.inl (.inl l1));refine .move g' w' _ (k+k2) mR ⟨l1,by rw[l3,f2];exact h.dy,?_⟩ (l3.trans f2) (ZS trivial);rw[l3,l2,f2];rcases l4 with⟨v,e⟩|⟨l,e⟩;rw[e];exact f1.finish v;rw[e];exact f1.raise l;exact .move _ w' _ (k+k2) mR ⟨f3,by rw[f2];exact h.dy,by rw[f2];exact f1⟩ f2 (ZS trivial)
  |spawn g2 c w1 es=>exact .many _ _ (h0.trans (runT_solo_spawn hs)) (by simp[duo])|coroswitch g2 c b w1 es=>
   rw[hs]at i1 i2 i3 i5 i6 i7;obtain⟨f1,f2,f3,rfl⟩:=i6;rcases oI (P:=P) (gs:=#[g]) (sl:=none) (by rfl) hs with⟨hh,hr⟩|⟨hh,d,hd,hr⟩|⟨o,hr⟩;cases hh0:hh with
   |zero=>
   subst hh0;refine .move {g2 with status:=.running} {w1 with heap:=w1.heap.setIfInBounds c (.coro none)} (MemOp.ofEvents 0 g.frame.fn g.frame.place es) k (by rw[h0,xX,hr.2,modify_eq_set _ 0 _ {g2 with status:=.finished} rfl];rfl) ⟨rfl,by show∀d,g2.dying=_->_;rw[f2];exact h.dy,by show cm g2.dying _ _;rw[f2];exact f1⟩ f2 ⟨i1,i2,(by show w.heap.size<=(w1.heap.setIfInBounds _ _).size;rw[Array.size_setIfInBounds];exact i3),λop cI=>?_,jZ i5,λτ n ha gs sl zp hg=>?_⟩;obtain⟨e,_,rfl⟩:=Go.Conc.mem_ofEvents cI;rfl;rcases oI (P:=P) (w:=w.re τ n) (gs:=gs) (sl:=sl) hg (i7 τ n ha)with⟨h2,r1,r2⟩|⟨h2,d,hd,r2⟩|⟨uD,_⟩;rw[show(w1.re τ (n+k)).heap=w1.heap from rfl,hr.1]at r1;cases r1;rw[r2];have aM:0<gs.size:=(Array.getElem?_eq_some_iff.1 hg).1;have:(gs.setIfInBounds 0 {g2 with status:=.finished}).modify 0 (λo=>{o with status:=.running})=gs.setIfInBounds 0 {g2 with status:=.running}:=by apply Array.ext_getElem?;intro j;rw[Array.getElem?_modify];by_cases hj:0=j;subst hj;simp[aM];simp[hj]
   rw[this];rfl;rw[show(w1.re τ (n+k)).heap=w1.heap from rfl,hr.1]at h2;cases h2;exact absurd (show(w1.re τ (n+k)).heap[c]? =some (.coro (some 0))from hr.1) (uD 0)
   |succ n=>refine .off {g2 with status:=.finished} {w1 with heap:=w1.heap.setIfInBounds c (.coro none)} (MemOp.ofEvents 0 g.frame.fn g.frame.place es) (by rw[h0,xX,hr.2,hh0,show(#[g].setIfInBounds 0 {g2 with status:=.finished}:Array Goroutine)=#[{g2 with status:=.finished}]from rfl,Nu];rfl) (.inl (.inr (.inr rfl)))
   exact .off {frame:=g2.frame,callers:=[],status:=.running,dying:=some d} w1 (MemOp.ofEvents 0 g.frame.fn g.frame.place es) (by rw[h0,xX,hr];rfl) (.inr ⟨rfl,d,rfl,λh=>by rw[hd]at h;cases h⟩);refine .over (λm' ops=>?_);obtain⟨o,w',e⟩:=hr;rw[h0,xX,e];simp
  |ended o w' es=>refine .over (λm' ops=>?_);rw[h0,xX,runT_many_ended (i:=0) (by rfl) hs];simp|count _ _ _=>rw[hs]at i6;exact i6.elim
  |timer _ _ _ _=>rw[hs]at i6;exact i6.elim|alone _ _ _ _=>rw[hs]at i6;exact i6.elim
  |newcoro _ _ _ _ _=>rw[hs]at i6;exact i6.elim|collect _ _ _=>rw[hs]at i6;exact i6.elim
  |watch _ _ _=>rw[hs]at i6;exact i6.elim
 replace kC:QY (stepG P true g w):=kC;cases hs:stepG P true g w with|go g' w' es=>rw[hs]at kC;exact .off g' w' _ (h0.trans (runT_solo_go hs)) kC|ended o w' es=>refine .over (λm' ops=>?_);rw[h0,xX,runT_many_ended (i:=0) (by rfl) hs];simp|_=>rw[hs]at kC;exact kC.elim
end Tp
namespace Tp
open Go.Conc
def aaX p fr d w(hd:d.calling=false):QY (die p fr d w):=by have atT:∀(fr:Frame)(cs:List Frame)(d:Dying),d.calling=false->QY (.go {frame:=fr,callers:=cs,status:=.running,dying:=some d} w #[]):=λfr cs d h=>.inr ⟨rfl,d,rfl,λh2=>by rw[h]at h2;cases h2⟩;unfold die;split;rename_i f hf;unfold writeOn;dsimp only;split;exact trivial;split;exact .inr ⟨rfl,_,rfl,λh=>by rw[hd]at h;cases h⟩;exact .inl (.inl rfl);exact trivial;exact trivial;split;split;exact .inl (.inl rfl);unfold endWith;dsimp only;split;split<;>exact trivial;exact trivial;exact trivial;dsimp only;split;exact .inr ⟨rfl,_,rfl,λh=>by rw[hd]at h;cases h⟩;split;exact .inr ⟨rfl,_,rfl,λh=>by rw[hd]at h;cases h⟩;exact trivial;apply dN;split;exact .inr ⟨rfl,_,rfl,λ_=>⟨iG _ _ _ _,(λ_ h=>by cases h),λ_=>rfl⟩⟩;exact .inr ⟨rfl,_,rfl,λh=>by rw[hd]at h;cases h⟩;exact trivial;unfold endPrinting;dsimp only;split;exact .inr ⟨rfl,_,rfl,λh=>by cases h⟩;exact trivial;exact trivial;exact trivial
def acI(m:Machine):Prop:=2<=m.gs.size∨∃g w,m=solo g w/\agY g
def Th{P g w}(h:g.status=.blocked∨g.status=.waiting∨g.status=.finished){m' ops}(hs:stepT P (solo g w)=(.next m',ops)):m'=solo g w:=by
 have hm:move P (solo g w)=askOn P (solo g w):=by simp[move,ask,solo]
 have hr:runnable (solo g w).gs (solo g w).world.os.mono=[]:=by rcases h with h|h|h<;>simp[solo,runnable_eq,Goroutine.canRun,h,List.range_succ]
 have ha:∀b,ahead (solo g w) b=none:=λb=>by rcases h with h|h|h<;>simp[ahead,solo,h]
 have hd:due (solo g w).rest.timers (solo g w).world.os.mono=[]:=by simp[due,solo]
 unfold stepT at hs;rw[hm]at hs;unfold askOn at hs;simp only[hr,hd,ha,List.isEmpty_nil,if_true,pure,Sem.run]at hs;split at hs
 ·rename_i m2 i2 hx;revert hx;repeat' split
  all_goals (intro hx;cases hx)
 rename_i s SI hx;cases hs;revert hx;simp only[List.length_nil,Nat.not_lt_zero,if_false];split;intro hx;cases hx;rfl;split;intro hx;cases hx;intro hx;cases hx
def SK{P}(hB:bG P){g w}(h:agY g){m' ops}(hs:stepT P (solo g w)=(.next m',ops)):acI m':=by
 rcases h with h|⟨hr,d,hd,hf⟩;exact .inr ⟨g,w,Th h hs,.inl h⟩;cases hc:d.calling with
 |false=>
  have h0:stepT P (solo g w)=runT P (solo g w) 0:=stepT_solo hr;have hg:stepG P true g w=die P g.frame d w:=by obtain⟨fr,cs,st,dy,off⟩:=g;obtain rfl:dy=some d:=hd;obtain⟨a1,a2,a3,a4,a5,a6,a7⟩:=d;obtain rfl:a3=false:=hc;rfl
  have kC:=aaX P g.frame d w hc;rw[<-hg]at kC;cases aS:stepG P true g w with
  |go g' w' es=>rw[aS]at kC;rw[h0,runT_solo_go aS]at hs;cases hs;exact .inr ⟨g',w',rfl,kC⟩
  |ended o w' es=>rw[h0,show solo g w=crowd #[g] w none from rfl,runT_many_ended (i:=0) (by rfl) aS]at hs;cases hs
  |_=>rw[aS]at kC;exact kC.elim
 |true=>
 have hld:Ld g:=⟨hr,λd' UU=>by rw[hd]at UU;cases UU;exact hc,by rw[hd];exact hf hc⟩;cases Ff hB g w hld with
 |over hx=>exact absurd hs (hx _ _)|many m2 SI h1 h2=>rw[h1]at hs;cases hs;exact .inl h2
 |off g' w' SI h1 h2=>rw[h1]at hs;cases hs;exact .inr ⟨g',w',rfl,h2⟩
 |move g' w' SI k h1 h2 h3 h4=>rw[h1]at hs;cases hs;exact .inr ⟨g',w',rfl,.inr ⟨h2.run,d,h3.trans hd,λ_=>by have:=h2.TY;rw[h3,hd]at this;exact this⟩⟩
theorem CV{P}(hB:bG P):∀N {m m':Machine},acI m->runN P N m=.next m'->acI m'
 |0,m,m',h,hr=>by cases hr;exact h
 |N+1,m,m',h,hr=>by
  simp only[runN]at hr;cases hs:stepT P m with
  |mk r ops=>
  have aS:step P m=r:=by unfold step;rw[hs]
  rw[aS]at hr;cases r with
  |ended o w=>cases hr
  |next m2=>refine CV hB N ?_ hr;rcases h with h|⟨g,w,rfl,ho⟩;exact .inl (Nat.le_trans h (stepT_size P m m2 true (by rw[hs])));exact SK hB ho hs
def j3{g g' w w'}(h:solo g w=solo g' w'):g=g'/\w=w':=by unfold solo at h;injection h with h1 h2 h3;exact⟨by simpa using h2,h1⟩
def FM(g:Goroutine):Prop:=g.status=.running/\g.dying=none
def PT{g w}(h:FM g):¬acI (solo g w):=by rintro(h2|⟨g',w',e,ho⟩);simp[solo]at h2;obtain⟨rfl,rfl⟩:=j3 e;rcases ho with ho|⟨_,d,hd,_⟩;rcases ho with ho|ho|ho<;>rw[h.1]at ho<;>cases ho;rw[h.2]at hd;cases hd
def wJ{P}(hB:bG P){g gS w wS}(h:Ld g)(hd:g.dying=none){N}(hr:runN P (N+1) (solo g w)=.next (solo gS wS))(hg:FM gS):∃g' w' ops k,Ld g'/\g'.dying=none/\cN P g w g' w' ops k/\runN P N (solo g' w')=.next (solo gS wS):=by
 simp only[runN]at hr;have aS:step P (solo g w)=(stepT P (solo g w)).1:=rfl;rw[aS]at hr;cases Ff hB g w h with
 |over hx=>
  cases hs:stepT P (solo g w)with
  |mk r ops=>
  rw[hs]at hr;cases r with
  |ended o w'=>cases hr
  |next m=>exact absurd hs (hx _ _)
 |many m2 ops h1 h2=>rw[h1]at hr;exact absurd (CV hB N (.inl h2) hr) (PT hg)|off g' w' ops h1 h2=>rw[h1]at hr;exact absurd (CV hB N (.inr ⟨g',w',rfl,h2⟩) hr) (PT hg)
 |move g' w' ops k h1 h2 h3 h4=>rw[h1]at hr;exact⟨g',w',ops,k,h2,h3.trans hd,h4,hr⟩
def Lu g:Calm #[g]:=λj x hj hx=>by
 have:j<1:=by simpa using(Array.getElem?_eq_some_iff.1 hx).1
 omega
def cN.solo{P g g' w w' ops k}(h:cN P g w g' w' ops k)(hr:g.status=.running) τ n(ha:Agree w τ n k):stepT P (solo g (w.re τ n))=(.next (solo g' (w'.re τ (n+k))),ops):=by rw[stepT_solo hr];exact h.same τ n ha #[g] none (Lu g) rfl
def vr{P m m1 ops}(h:stepT P m=(.next m1,ops)) N:runN P (N+1) m=runN P N m1:=by simp only[runN];have aS:step P m=(stepT P m).1:=rfl;rw[aS,h]
theorem VQ{P}(hB:bG P):∀N {g gS:Goroutine}{w wS:World},Ld g->g.dying=none->runN P N (solo g w)=.next (solo gS wS)->FM gS->∀τ n,(∀i,τ (n+i)=w.tape (w.drawn+i))->∃j,runN P N (solo g (w.re τ n))=.next (solo gS (wS.re τ (n+j)))
 |0,g,gS,w,wS,_,_,hr,_,τ,n,_=>by simp only[runN]at hr;injection hr with hr;obtain⟨rfl,rfl⟩:=j3 hr;exact⟨0,rfl⟩
 |N+1,g,gS,w,wS,h,hd,hr,hg,τ,n,ht=>by obtain⟨g',w',ops,k,h1,h2,h3,h4⟩:=wJ hB h hd hr hg;have hm:=h3.solo h.run τ n (λj _=>ht j);obtain⟨j,hj⟩:=VQ hB N h1 h2 h4 hg τ (n+k) (λi=>by rw[h3.tape,h3.drawn,Nat.add_assoc,Nat.add_assoc];exact ht (k+i));exact⟨k+j,by rw[vr hm,hj,Nat.add_assoc]⟩
inductive Term(P:Program)(Stop:Goroutine->World->Prop):Goroutine->World->Prop
 |stop {g:Goroutine} {w:World} (h:Stop g w):Term P Stop g w
 |next {g:Goroutine} {w:World} (nx:(Nat->Question->Nat)->Nat->Goroutine×World) (h1:∀τ n,∃ops k,cN P g (w.re τ n) (nx τ n).1 (nx τ n).2 ops k) (h2:∀τ n,Ld (nx τ n).1/\(nx τ n).1.dying=none) (h3:∀τ n,Term P Stop (nx τ n).1 (nx τ n).2):Term P Stop g w
def Term.step{P Stop g w}(h:∀τ n,∃g' w' ops k,cN P g (w.re τ n) g' w' ops k/\Ld g'/\g'.dying=none/\Term P Stop g' w'):Term P Stop g w:=by
 have h':∀τ n,∃x:Goroutine×World,∃ops k,cN P g (w.re τ n) x.1 x.2 ops k/\Ld x.1/\x.1.dying=none/\Term P Stop x.1 x.2:=λτ n=>let⟨g',w',ops,k,h⟩:=h τ n;⟨(g',w'),ops,k,h⟩
 refine .next (λτ n=>Classical.choose (h' τ n)) (λτ n=>?_) (λτ n=>?_) (λτ n=>?_);obtain⟨ops,k,h1,_⟩:=Classical.choose_spec (h' τ n);exact⟨ops,k,h1⟩;obtain⟨ops,k,_,h2,h3,_⟩:=Classical.choose_spec (h' τ n);exact⟨h2,h3⟩;obtain⟨ops,k,_,_,_,h4⟩:=Classical.choose_spec (h' τ n);exact h4
def Ej(P:Program)(Stop:Goroutine->World->Prop)(g:Goroutine)(w:World):Prop:=∀τ n,∃N gS wS,runN P N (solo g (w.re τ n))=.next (solo gS wS)/\FM gS/\Stop gS wS
structure St(P:Program)(Stop:Goroutine->World->Prop) where
 g:Goroutine
 w:World
 ld:Ld g
 dy:g.dying=none
 bad:¬Term P Stop g w
 runs:Ej P Stop g w
section
variable{P:Program}{Stop:Goroutine->World->Prop}
def Ej.next(hB:bG P)(hS:∀g w τ n,Stop g w->Stop g (w.re τ n)){g g' w w' ops k}(h:Ej P Stop g w)(hl:Ld g)(hns:¬Stop g w)(hm:cN P g w g' w' ops k)(hl':Ld g')(UU:g'.dying=none):Ej P Stop g' w':=by
 intro τ n;let El:Nat->Question->Nat:=λi=>if i<k then w.tape (w.drawn+i)else τ (n+(i-k))
 obtain⟨N,gS,wS,h1,h2,h3⟩:=h El 0;cases N with
 |zero=>simp only[runN]at h1;injection h1 with h1;obtain⟨rfl,rfl⟩:=j3 h1;exact absurd (by have:=hS _ _ w.tape w.drawn h3;exact this) hns
 |succ N=>have hs:=hm.solo hl.run El 0 (λi hi=>by show El (0+i)=_;rw[Nat.zero_add];exact if_pos hi);rw[vr hs]at h1;obtain⟨j,hj⟩:=VQ hB N (w:=w'.re El (0+k)) hl' UU h1 h2 τ n (λi=>by show _=El (0+k+i);rw[show El (0+k+i)=τ (n+(0+k+i-k))from if_neg (by omega)];congr 1;omega);exact⟨N,gS,_,hj,h2,hS _ _ _ _ h3⟩
def St.next(hB:bG P)(hS:∀g w τ n,Stop g w->Stop g (w.re τ n))(s:St P Stop):∃(s':St P Stop)(τ:Nat->Question->Nat)(n:Nat)(ops:Array MemOp)(k:Nat),cN P s.g (s.w.re τ n) s'.g s'.w ops k:=by
 obtain⟨g,w,ld,dy,bad,runs⟩:=s;have hns:¬Stop g w:=λh=>bad (.stop h);have:¬∀τ n,∃g' w' ops k,cN P g (w.re τ n) g' w' ops k/\Ld g'/\g'.dying=none/\Term P Stop g' w':=λh=>bad (.step h);obtain⟨τ,h2⟩:=Classical.not_forall.1 this;obtain⟨n,h3⟩:=Classical.not_forall.1 h2;obtain⟨N,gS,wS,h1,hg,aS⟩:=runs τ n;cases N with
 |zero=>simp only[runN]at h1;injection h1 with h1;obtain⟨rfl,rfl⟩:=j3 h1;exact absurd (by have:=hS _ _ w.tape w.drawn aS;exact this) hns
 |succ N=>obtain⟨g',w',ops,k,a1,a2,a3,a4⟩:=wJ hB ld dy h1 hg;have aio:Ej P Stop g (w.re τ n):=λIJ n2=>runs IJ n2;refine⟨⟨g',w',a1,a2,λht=>h3 ⟨g',w',ops,k,a3,a1,a2,ht⟩,aio.next hB hS ld (λh=>hns (by have:=hS _ _ w.tape w.drawn h;exact this)) a3 a1 a2⟩,τ,n,ops,k,a3⟩
def Lr(hB:bG P)(hS:∀g w τ n,Stop g w->Stop g (w.re τ n))(s0:St P Stop):False:=by
 classical
 have hn:∀s:St P Stop,∃x:St P Stop× (Nat->Question->Nat)×Nat×Array MemOp×Nat,cN P s.g (s.w.re x.2.1 x.2.2.1) x.1.g x.1.w x.2.2.2.1 x.2.2.2.2:=λs=>let⟨s',τ,n,ops,k,h⟩:=s.next hB hS;⟨⟨s',τ,n,ops,k⟩,h⟩
 let nx:St P Stop->St P Stop× (Nat->Question->Nat)×Nat×Array MemOp×Nat:=λs=>Classical.choose (hn s)
 have Qq:∀s:St P Stop,cN P s.g (s.w.re (nx s).2.1 (nx s).2.2.1) (nx s).1.g (nx s).1.w (nx s).2.2.2.1 (nx s).2.2.2.2:=λs=>Classical.choose_spec (hn s);let f:Nat->St P Stop:=λi=>Nat.rec s0 (λ_ s=>(nx s).1) i
 have hf:∀i,f (i+1)=(nx (f i)).1:=λ_=>rfl;let kk:Nat->Nat:=λi=>(nx (f i)).2.2.2.2
 let c:Nat->Nat:=λi=>Nat.rec 0 (λj x=>x+kk j) i
 have hc:∀i,c (i+1)=c i+kk i:=λ_=>rfl;have adq:∀i j,i<=j->c i<=c j:=by intro i j h;induction h with|refl=>exact ν|step _ ih=>rw[hc];omega
 let σ:Nat->Question->Nat:=λx=>if h:∃i,c i<=x/\x<c (i+1)then(nx (f (Classical.choose h))).2.1 ((nx (f (Classical.choose h))).2.2.1+(x-c (Classical.choose h)))else λ_=>0
 have hσ:∀i j,j<kk i->σ (c i+j)=(nx (f i)).2.1 ((nx (f i)).2.2.1+j):=by
  intro i j hj;have hex:∃i',c i'<=c i+j/\c i+j<c (i'+1):=⟨i,by omega,by rw[hc];omega⟩;have hi:Classical.choose hex=i:=by have h12:c (Classical.choose hex)<=c i+j/\c i+j<c (Classical.choose hex+1):=Classical.choose_spec hex;generalize Classical.choose hex=i0 at h12|-;obtain⟨h1,h2⟩:=h12;have e1:=hc i;have e2:=hc i0;rcases Nat.lt_trichotomy i0 i with h|h|h;have:c (i0+1)<=c i:=adq _ _ h;omega;exact h;have:c (i+1)<=c i0:=adq _ _ h;omega
  show(if h:∃i',c i'<=c i+j/\c i+j<c (i'+1)then _ else _)=_;rw[dif_pos hex];have hi2:c hex.choose=c i:=congrArg c hi;have US:f hex.choose=f i:=congrArg f hi;show(nx (f hex.choose)).2.1 ((nx (f hex.choose)).2.2.1+(c i+j-c hex.choose))=_;rw[hi2,US,show c i+j-c i=j by omega]
 have cD:∀i,runN P i (solo s0.g (s0.w.re σ 0))=.next (solo (f i).g ((f i).w.re σ (c i))):=by intro i;induction i with|zero=>rfl|succ i ih=>rw[runN_add P i 1,ih];have hm:=(Qq (f i)).solo (f i).ld.run σ (c i) (λj hj=>hσ i j hj);have:=vr hm 0;dsimp only;rw[show(f i).w.re σ (c i)=((f i).w.re (nx (f i)).2.1 (nx (f i)).2.2.1).re σ (c i)from rfl,this];rfl
 obtain⟨N,gS,wS,h1,h2,h3⟩:=s0.runs σ 0;rw[cD N]at h1;injection h1 with h1;obtain⟨rfl,rfl⟩:=j3 h1;have:=hS _ _ (f N).w.tape (f N).w.drawn h3;exact(f N).bad (.stop this)
def tB(hB:bG P)(hS:∀g w τ n,Stop g w->Stop g (w.re τ n)){g w}(hl:Ld g)(hd:g.dying=none)(h:Ej P Stop g w):Term P Stop g w:=Classical.byContradiction λhn=>Lr hB hS ⟨g,w,hl,hd,hn,h⟩
end
end Tp
namespace Tp
open Go.Conc
open Go.ConcN (sumTo upd sumTo_upd upd_ne upd_same)
structure iw(t:Trace):Prop where
 clean:∀said,¬Race said t
 known:∀i a,touchAt t i=some a->a.loc.isMemory=true->Knows t 0 i
 over:t.HandedOver
 hears:Deaf t 0=0
def Sy:iw #[]:=⟨λsaid=>by rintro⟨i,j,_,⟨a,b,ha,_⟩,_⟩;simp[Trace.act?]at ha,λi a ha=>by simp[touchAt,Trace.act?]at ha,λi g hg=>by simp[Trace.g?]at hg,rfl⟩
section
variable{t u:Trace}
def iw.app0(h:iw t)(hu:∀op∈u,op.g=0)(hd:Deaf (t++u) 0=Deaf t 0):iw (t++u):=by refine⟨λsaid=>noRace_append (h.clean said) hu λi a ha op cI b hb hc=>h.known i a ha hc.2.1,λi a ha hm=>?_,handedOver_app h.over λop cI=>.inl (hu op cI),hd.trans h.hears⟩;obtain⟨x,hx,ve⟩:=touch_of ha;rcases getElem?_append_cases hx with⟨_,xN⟩|⟨_,UL⟩;exact(h.known i a (by rw[touchAt_of xN];exact ve) hm).app u;have:=knows_own hx;rw[hu x UL]at this;exact this
def iw.appMute{g}(h:iw t)(hg:g≠0)(hu:∀op∈u,op.g=g)(hn:∀op∈u,op.act.touch? =none):iw (t++u):=by refine⟨λsaid=>noRace_append (h.clean said) hu λi a _ op cI b hb _=>(by rw[hn op cI]at hb;cases hb),λi a ha hm=>?_,handedOver_app h.over λop cI=>.inr (hn op cI),(Deaf_other t hg u hu).trans h.hears⟩;obtain⟨x,hx,ve⟩:=touch_of ha;rcases getElem?_append_cases hx with⟨_,xN⟩|⟨_,UL⟩;exact(h.known i a (by rw[touchAt_of xN];exact ve) hm).app u;rw[hn x UL]at ve;cases ve
theorem iw.mute(h:iw t){g}(hg:g≠0){fn pos es}(hm:∀e∈es,e.mute=true):iw (t++MemOp.ofEvents g fn pos es):=h.appMute hg (λop cI=>by obtain⟨e,_,rfl⟩:=Go.Conc.mem_ofEvents cI;rfl) (λop cI=>by obtain⟨e,he,rfl⟩:=Go.Conc.mem_ofEvents cI;exact touch_mute (hm e he))
end
def uk{P t gs q}(h:Leavers P t gs q):Calm gs:=λj x hj hx=>(h.old j x hj hx).status
def xK{P t u gs q}(h:Leavers P t gs q) g'(h0:0<gs.size)(hu:∀op∈u,op.g=0):Leavers P (t++u) (gs.setIfInBounds 0 g') q:=⟨λj x hj hx=>by
 rw[Array.getElem?_setIfInBounds_ne (by omega)]at hx;rw[Deaf_other t (g:=j) (g':=0) (by omega) _ hu];exact h.old j x hj hx,λj hj=>by
 rw[Array.size_setIfInBounds]at hj;rw[Deaf_other t (g:=j) (g':=0) (by omega) _ hu];exact h.above j hj⟩
def slip{P t gs q w sl i a g}(hL:Leavers P t gs q)(hP:iw t)(h0:gs[0]? =some a)(ha:a.status=.running)(hi:gs[i]? =some g)(dX:0<i)(hg:g.status=.running):∃gs' ops q',runT P (crowd gs w sl) i=(.next (crowd gs' w sl),ops)/\gs'[0]? =some a/\gs'.size=gs.size/\Leavers P (t++ops) gs' q'/\iw (t++ops)/\sumTo gs'.size q'<sumTo gs.size q:=by
 have hq:=hL.old i g dX hi;have fP:(i==0)=false:=by simp;omega
 have aM:i<gs.size:=(Array.getElem?_eq_some_iff.1 hi).1;cases hqi:q i with
 |zero=>rw[hqi]at hq;rw[hq.1]at hg;cases hg
 |succ k=>
 rw[hqi]at hq;rcases hq with⟨hf,_⟩|⟨_,g',es,hm,afv,hq'⟩;rw[hf]at hg;cases hg;have XA:=runT_crowd_go (P:=P) (w:=w) (sl:=sl) (i:=i) hi (by rw[fP];exact afv w);have lU:((gs.map (woken P g g' w)).setIfInBounds i g').size=gs.size:=by simp
 have ai2:sumTo gs.size (upd q i k)+(k+1)=sumTo gs.size q+k:=by have:=sumTo_upd q k id aM;simpa[hqi]using this
 refine⟨_,_,upd q i k,XA,?_,lU,⟨λj x hj hx=>?_,λj hj=>?_⟩,hP.mute (by omega) hm,by rw[lU];omega⟩;have bZ:i≠0:=by omega
 rw[Array.getElem?_setIfInBounds_ne bZ,Array.getElem?_map,h0];simp[woken_run ha];by_cases aR:i=j;subst aR;rw[Array.getElem?_setIfInBounds_self_of_lt (by simpa using aM)]at hx;obtain rfl:=Option.some.inj hx;rw[upd_same,Deaf_own];exact hq';rw[Array.getElem?_setIfInBounds_ne aR,Array.getElem?_map]at hx;obtain⟨y,hy,rfl⟩:=Option.map_eq_some_iff.1 hx;have hqj:=hL.old j y hj hy;rw[woken_quitsD hqj,upd_ne q k (Ne.symm aR),Deaf_other t aR _ (λop cI=>by obtain⟨e,_,rfl⟩:=Go.Conc.mem_ofEvents cI;rfl)];exact hqj;rw[Deaf_other t (g':=i) (by simp at hj;omega) _ (λop cI=>by obtain⟨e,_,rfl⟩:=Go.Conc.mem_ofEvents cI;rfl)];exact hL.above j (by simpa using hj)
def ru{P t gs q a}(hL:Leavers P t gs q)(h0:gs[0]? =some a)(ha:a.status=.running):∀g∈gs,awake g:=by
 intro g hg;obtain⟨i,hi,rfl⟩:=Array.mem_iff_getElem.1 hg;rcases Nat.eq_zero_or_pos i with rfl|dX;have:gs[0]=a:=by simpa[Array.getElem?_eq_getElem hi]using h0
 rw[this];exact awake_of (.inl ha);exact awake_of ((hL.old i _ dX (Array.getElem?_eq_getElem hi)).status.elim .inl λx=>.inr (.inr x))
def Dp(P:Program)(Stop:Goroutine->World->Prop)(a:Goroutine)(w:World):Prop:=∀(gs:Array Goroutine)(sl:Option (Nat×Nat))(t:Trace)(q:Nat->Nat),gs[0]? =some a->Leavers P t gs q->iw t->∃(N:Nat)(gs':Array Goroutine)(a':Goroutine)(w':World)(pB:Option (Nat×Nat))(t':Trace)(q':Nat->Nat),runNT P N (crowd gs w sl) t=(.next (crowd gs' w' pB),t')/\gs'[0]? =some a'/\Leavers P t' gs' q'/\iw t'/\Stop a' w'
section
variable{P:Program}{Stop C7:Goroutine->World->Prop}{a:Goroutine}{w:World}
def Dp.stop(h:Stop a w):Dp P Stop a w:=λgs sl t q h0 hL hP=>⟨0,gs,a,w,sl,t,q,rfl,h0,hL,hP,h⟩
def Dp.trans(h:Dp P Stop a w)(h':∀a' w',Stop a' w'->Dp P C7 a' w'):Dp P C7 a w:=by intro gs sl t q h0 hL hP;obtain⟨N,gs1,a1,w1,sl1,t1,q1,r1,h1,L1,P1,s1⟩:=h gs sl t q h0 hL hP;obtain⟨N2,gs2,a2,w2,sl2,t2,q2,r2,h2,L2,P2,s2⟩:=h' a1 w1 s1 gs1 sl1 t1 q1 h1 L1 P1;exact⟨N+N2,gs2,a2,w2,sl2,t2,q2,by rw[runNT_add,r1];exact r2,h2,L2,P2,s2⟩
def Dp.mono(h:Dp P Stop a w)(h':∀a' w',Stop a' w'->C7 a' w'):Dp P C7 a w:=h.trans λa' w' s=>.stop (h' a' w' s)
def Dp.step(hr:a.status=.running)(h:∀d,∃a' w' ops,(∀op∈ops,op.g=0)/\(∀t,Deaf (t++ops) 0=Deaf t 0)/\(∀gs sl,Calm gs->gs[0]? =some a->runT P (crowd gs (w.at d) sl) 0=(.next (crowd (gs.setIfInBounds 0 a') w' sl),ops))/\Dp P Stop a' w'):Dp P Stop a w:=by
 have key:∀(M:Nat)(gs:Array Goroutine)(sl:Option (Nat×Nat))(t:Trace)(q:Nat->Nat)(e:Nat),sumTo gs.size q<=M->gs[0]? =some a->Leavers P t gs q->iw t->∃(N:Nat)(gs':Array Goroutine)(a':Goroutine)(w':World)(pB:Option (Nat×Nat))(t':Trace)(q':Nat->Nat),runNT P N (crowd gs (w.at e) sl) t=(.next (crowd gs' w' pB),t')/\gs'[0]? =some a'/\Leavers P t' gs' q'/\iw t'/\Stop a' w':=by
  intro M;induction M with
  |zero=>
  intro gs sl t q e hM h0 hL hP;obtain⟨i,g,d,pB,hi,hg,aS⟩:=crowd_pick (P:=P) (w:=w.at e) (sl:=sl) (ru hL h0 hr) ⟨0,a,h0,hr⟩;rcases Nat.eq_zero_or_pos i with rfl|dX;obtain rfl:g=a:=by rw[h0]at hi;exact(Option.some.inj hi).symm
  obtain⟨a',w',ops,b1,b2,b3,b4⟩:=h d;have XI:=aS.trans (b3 gs pB (uk hL) h0);have aM:0<gs.size:=(Array.getElem?_eq_some_iff.1 h0).1;obtain⟨N,gs2,a2,w2,sl2,t2,q2,r2,h2,L2,P2,s2⟩:=b4 (gs.setIfInBounds 0 a') pB (t++ops) q (by simp[aM]) (xK hL a' aM b1) (hP.app0 b1 (b2 t));exact⟨N+1,gs2,a2,w2,sl2,t2,q2,by simp only[runNT,XI];exact r2,h2,L2,P2,s2⟩;obtain⟨gs',ops,q',c1,c2,c3,c4,c5,c6⟩:=slip (w:=(w.at e).at d) (sl:=pB) hL hP h0 hr hi dX hg;omega
  |succ M ih=>
  intro gs sl t q e hM h0 hL hP;obtain⟨i,g,d,pB,hi,hg,aS⟩:=crowd_pick (P:=P) (w:=w.at e) (sl:=sl) (ru hL h0 hr) ⟨0,a,h0,hr⟩;rcases Nat.eq_zero_or_pos i with rfl|dX;obtain rfl:g=a:=by rw[h0]at hi;exact(Option.some.inj hi).symm
  obtain⟨a',w',ops,b1,b2,b3,b4⟩:=h d;have XI:=aS.trans (b3 gs pB (uk hL) h0);have aM:0<gs.size:=(Array.getElem?_eq_some_iff.1 h0).1;obtain⟨N,gs2,a2,w2,sl2,t2,q2,r2,h2,L2,P2,s2⟩:=b4 (gs.setIfInBounds 0 a') pB (t++ops) q (by simp[aM]) (xK hL a' aM b1) (hP.app0 b1 (b2 t));exact⟨N+1,gs2,a2,w2,sl2,t2,q2,by simp only[runNT,XI];exact r2,h2,L2,P2,s2⟩;obtain⟨gs',ops,q',c1,c2,c3,c4,c5,c6⟩:=slip (w:=(w.at e).at d) (sl:=pB) hL hP h0 hr hi dX hg;obtain⟨N,gs2,a2,w2,sl2,t2,q2,r2,h2,L2,P2,s2⟩:=ih gs' pB (t++ops) q' d (by omega) c2 c4 c5;exact⟨N+1,gs2,a2,w2,sl2,t2,q2,by simp only[runNT,aS.trans c1];exact r2,h2,L2,P2,s2⟩
 intro gs sl t q h0 hL hP;exact key _ gs sl t q w.drawn ν h0 hL hP
def LH(hS:∀g w τ n,Stop g w->Stop g (w.re τ n))(h:Term P Stop a w):Ld a->∀τ n,Dp P Stop a (w.re τ n):=by induction h with|stop h=>exact λ_ τ n=>.stop (hS _ _ _ _ h)|next nx h1 h2 h3 ih=>intro hl τ n;refine Dp.step hl.run λd=>?_;obtain⟨ops,k,hm⟩:=h1 τ d;refine⟨_,_,ops,hm.own,hm.deaf,λgs sl hc h0=>hm.same τ d (λ_ _=>rfl) gs sl hc h0,?_⟩;exact ih τ d (h2 τ d).1 τ (d+k)
def LI(hB:bG P)(hS:∀g w τ n,Stop g w->Stop g (w.re τ n))(hl:Ld a)(hd:a.dying=none)(h:Ej P Stop a w):Dp P Stop a w:=LH hS (tB hB hS hl hd h) hl w.tape w.drawn
end
end Tp
