import Derived.Test.YtlpcjiollnnmgaaGreatDoorM05
import Derived.Conc.Beside
import Derived.Conc.CrowdComm
set_option maxRecDepth 100000
set_option maxHeartbeats 8000000
set_option linter.all false
def Go.Item.SR:Go.Item->Prop
 |.call ..=>False|.extern row _=>row= "runtime.print$piece"|_=>True
namespace Go.Proofs.YtlpcjiollnnmgaaGreatDoor
namespace Rn
section
variable{P:Program}{E:Env}{X:List Nat}{α β:Type}
def FH t (hz : ∀ e, P.underlying t = some (.slice e) -> jE P e) {l l' c c'} (hl : V E X l l') (hc : V E X c c') : RG P E (λX' v v' => V E X' v v') X (Instr.makeSlice t l c) (Instr.makeSlice t l' c') := by
  unfold Instr.makeSlice
  refine az (bF t) ?_
  rintro d _ ⟨rfl, hu⟩
  split
  · rename_i elem
    refine az (R := Eq) (Ab hl) λlen _ e => ?_
    subst e
    refine az (R := Eq) (Ab hc) λcap _ e => ?_
    subst e
    refine cJ (gz elem) λinfo => ?_
    dsimp only
    have iY : ∀ (z : Array Value) (n a b : Nat), (∀ (i : Nat) v, z[i]? = some v -> Clean v) -> RG P E (λX' v v' => V E X' v v') X
        (do let x <- newRow elem ((Array.range n).map (z[· % z.size]!)); pure (.slice (some x) a b))
        (do let x <- newRow elem ((Array.range n).map (z[· % z.size]!)); pure (.slice (some x) a b)) := by
      intro z n a b pO
      refine jI (qu elem (VA.lR pO n)) ?_
      rintro Y x x' ⟨_, ha⟩
      rw [ha.eq]
      exact ⟨_, rfl, .slice _ _ _ _ _ _ ha.1⟩
    have hgo : RG P E (λX' v v' => V E X' v v') X
        (do askRoom ((IntKind.i64.wrap cap).toNat * info.bytes)
            let n := (IntKind.i64.wrap cap).toNat * (<- sizeOf elem)
            let zero <- if n = 0 then pure #[] else do pure (<- zeroValue elem).cells
            let a <- newRow elem ((Array.range n).map (zero[· % zero.size]!))
            pure (.slice (some a) (IntKind.i64.wrap len).toNat (IntKind.i64.wrap cap).toNat))
        (do askRoom ((IntKind.i64.wrap cap).toNat * info.bytes)
            let n := (IntKind.i64.wrap cap).toNat * (<- sizeOf elem)
            let zero <- if n = 0 then pure #[] else do pure (<- zeroValue elem).cells
            let a <- newRow elem ((Array.range n).map (zero[· % zero.size]!))
            pure (.slice (some a) (IntKind.i64.wrap len).toNat (IntKind.i64.wrap cap).toNat)) := by
      refine az (Aa _) λ_ _ _ => ?_
      refine cJ (dP _) λn => ?_
      dsimp only
      refine dV ?_ ?_
      · exact az (R := λa b => a = #[] /\ b = #[]) (aA ⟨rfl, rfl⟩) (λa b ⟨e1, e2⟩ => by subst e1; subst e2; exact iY _ _ _ _ (λi v h => by simp at h))
      · refine az (gy _ (hz _ hu)) ?_
        rintro z z' ⟨e, hc⟩
        subst e
        exact az (R := λa b => a = z.cells /\ b = z.cells) (aA ⟨rfl, rfl⟩) (λa b ⟨e1, e2⟩ => by subst e1; subst e2; exact iY _ _ _ _ hc.cells)
    refine dV ?_ hgo
    refine dV ?_ (dV ?_ ?_)
    all_goals first
      | (refine dY.bind (Φ := λ_ _ _ => False) (λ_ _ _ h => h.elim) (fX ?_); exact trivial)
      | skip
    refine cJ (mW _) λn => ?_
    refine dY.bind (Φ := λ_ _ _ => False) (λ_ _ _ h => h.elim) (fX ?_)
    exact trivial
  · exact trivial
def Lz t:RG P E (λX' v v'=>V E X' v v') X (Instr.makeMap t none) (Instr.makeMap t none):=by unfold Instr.makeMap;refine jI (qw (.map #[] #[] 0 ⟨rfl,λi v v' h=>by simp at h⟩)) ?_;rintro Y r b⟨_,hr⟩;exact⟨_,rfl,.map _ _ hr⟩
def ag8 t(ht:∀d,P.underlying t=some d->(∀k e,d≠.map k e)/\∀a b,d≠.chan a b) ty{v v'}(hv:V E X v v'):RE P E (V E X) X (Builtin.len_ #[t] ty #[v]) (Builtin.len_ #[t] ty #[v']):=by
 unfold Builtin.len_;show RE P E (V E X) X (underlying t >>= λd=>_) (underlying t >>= λd=>_);refine az (bF t) ?_;rintro d _⟨rfl,hu⟩;have cE:=ht d hu;cases d with
 |array n e=>exact aA (.int _ _)|string=>cases hv with|string s=>exact aA (.int _ _)|_=>exact trivial
 |slice e=>cases hv with|fj n c=>exact aA (.int _ _)|slice=>exact aA (.int _ _)|_=>exact trivial
 |pointer arr=>refine cJ (bN arr) λd2=>?_;split;exact aA (.int _ _);exact trivial|map k e=>exact absurd rfl (cE.1 k e)
 |chan a b=>exact absurd rfl (cE.2 a b)|_=>exact trivial
def cH{s}{f:α->Sem β}{a}(h:norm P s=.pure a):norm P (s >>= f)=norm P (f a):=by show norm P (s.bind f)=_;rw[eh P f s,h];rfl
theorem EA:∀s:Sem α,norm P (norm P s)=norm P s
 |.program k=>EA (k P)|.pure _|.load _ _ _|.store _ _ _ _|.new _ _|.shape _ _|.freeze _ _ _|.frozen _ _|.getObj _ _|.setObj _ _ _|.choose _ _|.sys _ _|.mark _ _|.halt _=>rfl
def lu{s}{f:α->Sem β}{a}(h:norm P s=.halt a):norm P (s >>= f)=.halt a:=by show norm P (s.bind f)=_;rw[eh P f s,h];rfl
def wY{t}(hs:P.underlying t=some .string) em em' n m v v':RE P E (λ_ _=>True) X (Instr.checkKey em (n+1) t v) (Instr.checkKey em' (m+1) t v'):=by unfold Instr.checkKey;refine az (bF t) ?_;rintro d _⟨rfl,hu⟩;rw[hs]at hu;cases hu;exact aA trivial
def Md{t}(hs:P.underlying t=some .string) x y:(∃a b,x=.string a/\y=.string b/\norm P (Op.equal t x y)=.pure (a==b))∨∃h,eo h/\norm P (Op.equal t x y)=.halt h:=by
 have:norm P (Op.equal t x y)=norm P (Op.equalIn Op.maxDepth t x y):=rfl;rw[this,show Op.maxDepth=(Op.maxDepth-1)+1 from rfl];unfold Op.equalIn;rw[cH (fF hs)];cases x with
 |string a=>cases y with|string b=>exact .inl ⟨a,b,rfl,rfl,rfl⟩|_=>(refine .inr ⟨_,?_,rfl⟩;exact trivial)
 |_=>(refine .inr ⟨_,?_,rfl⟩;exact trivial)
def FR(E:Env)(X:List Nat)(l l':List MapEntry)(i:Nat)(r r':Option (Nat×Value)):Prop:=r=none/\r'=none∨∃j v v' s,r=some (i+j,v)/\r'=some (i+j,v')/\V E X v v'/\(∃e e',l[j]? =some e/\l'[j]? =some e'/\e.key=.string s/\e'.key=.string s)
structure ML(E:Env)(X:List Nat)(l l':List MapEntry):Prop where
 size:l.length=l'.length
 el:∀(i:Nat)(v v':MapEntry),l[i]? =some v->l'[i]? =some v'->ME E X v v'
def MA.list{a a'}(h:MA E X a a'):ML E X a.toList a'.toList:=⟨by simpa using h.size,λi v v' h1 h2=>h.el i v v' (by simpa using h1) (by simpa using h2)⟩
theorem xH{k k'}(hk:V E X k k'):∀l l' i,ML E X l l'->Instr.findNow .string k l i=none∨∃r r' s,Instr.findNow .string k l i=some r/\Instr.findNow .string k' l' i=some r'/\FR E X l l' i r r'/\(r≠none->k=.string s/\k'=.string s/\∀j v,r=some (i+j,v)->∃e e',l[j]? =some e/\l'[j]? =some e'/\e.key=.string s/\e'.key=.string s)
 |[],l',i,h=>by have:l'=[]:=List.eq_nil_of_length_eq_zero (by have:=h.size;simpa using this.symm);subst this;exact .inr ⟨none,none,ByteArray.empty,rfl,rfl,.inl ⟨rfl,rfl⟩,λh=>absurd rfl h⟩|e::l,[],i,h=>by have:=h.size;simp at this|e::l,e'::l',i,h=>by
  have he:=h.el 0 e e' rfl rfl;unfold Instr.findNow;cases hk with
  |string s=>
   cases e with|mk key val born=>
   cases e' with|mk aAD aqW ayi=>
   cases he.key with
   |string s2=>
    have h1:Instr.sameNow .string (.string s) (.string s2)=some (s==s2):=rfl;dsimp only;rw[h1];cases TR:(s==s2)with
    |true=>
    obtain rfl:s=s2:=(Go.MapKept.bytes_beq s s2).1 TR;exact .inr ⟨_,_,s,rfl,rfl,.inr ⟨0,val,aqW,s,rfl,rfl,he.val,_,_,rfl,rfl,rfl,rfl⟩,λ_=>⟨rfl,rfl,λj v hj=>by
    have:j=0:=by injection hj with hj;injection hj with hj _;omega
    subst this;exact⟨_,_,rfl,rfl,rfl,rfl⟩⟩⟩
    |false=>
    dsimp only;rcases xH (.string s:V E X _ _) l l' (i+1) ⟨by have:=h.size;simpa using this,λj v v' a b=>h.el (j+1) v v' (by simpa using a) (by simpa using b)⟩with hn|⟨r,r',s3,h2,h3,h4,h5⟩;exact .inl hn;refine .inr ⟨r,r',s3,h2,h3,?_,λhr=>?_⟩;rcases h4 with⟨rfl,rfl⟩|⟨j,v,v',s4,rfl,rfl,hv,e1,e2,a1,a2,a3⟩;exact .inl ⟨rfl,rfl⟩;exact .inr ⟨j+1,v,v',s4,by rw[show i+1+j=i+(j+1)by omega],by rw[show i+1+j=i+(j+1)by omega],hv,e1,e2,by simpa using a1,by simpa using a2,a3⟩;obtain⟨b1,b2,b3⟩:=h5 hr;refine⟨b1,b2,λj v hj=>?_⟩;cases j with
    |zero=>rcases h4 with⟨rfl,rfl⟩|⟨j',v2,v2',s4,rfl,rfl,_⟩;exact absurd rfl hr;injection hj with hj;injection hj with hj _;omega
    |succ j=>obtain⟨x,x',c1,c2,c3⟩:=b3 j v (by rw[hj,show i+1+j=i+(j+1)by omega]);exact⟨x,x',by simpa using c1,by simpa using c2,c3⟩
   |_=>exact .inl rfl
  |_=>exact .inl rfl
theorem np{t}(hs:P.underlying t=some .string) k:∀l i,Instr.findNow .string k l i=none->∃h,eo h/\norm P (Instr.findAsking t k l i)=.halt h
 |[],i,h=>by cases h
 |e::l,i,h=>by
  unfold Instr.findAsking;unfold Instr.findNow at h;rcases Md (P:=P) hs k e.key with⟨a,b,rfl,hb,he⟩|⟨x,oP,he⟩;rw[cH he];rw[hb]at h;have h1:Instr.sameNow .string (.string a) (.string b)=some (a==b):=rfl;rw[h1]at h;cases yQ:(a==b)with
  |true=>rw[yQ]at h;cases h
  |false=>rw[yQ]at h;exact np hs _ l (i+1) h
  exact⟨x,oP,lu he⟩
def z6{t}(hs:P.underlying t=some .string){k k'}(hk:V E X k k'){l l'}(hl:ML E X l l'):RE P E (λr r'=>FR E X l l' 0 r r'/\(r≠none->∃s,k=.string s/\k'=.string s/\∀j v,r=some (j,v)->∃e e',l[j]? =some e/\l'[j]? =some e'/\e.key=.string s/\e'.key=.string s)) X (Instr.findKey t k l) (Instr.findKey t k' l'):=by unfold Instr.findKey;refine az (bF t) ?_;rintro d _⟨rfl,hu⟩;rw[hs]at hu;cases hu;rcases xH hk l l' 0 hl with hn|⟨r,r',s,h1,h2,h3,h4⟩;rw[hn];obtain⟨x,oP,hx⟩:=np hs k l 0 hn;exact nd (s:=.halt x) (by rw[hx];rfl) oP;rw[h1,h2];refine aA ⟨h3,λhr=>?_⟩;obtain⟨a,b,c⟩:=h4 hr;exact⟨s,a,b,λj v hj=>c j v (by simpa using hj)⟩
def KV(P:Program)(t:TypeId):Prop:=∃k e,P.underlying t=some (.map k e)/\P.underlying k=some .string/\jE P e
def QR {t} (ht : KV P t) {x x' i i'} (hx : V E X x x') (hi : V E X i i') ok : RE P E (V E X) X (Instr.lookup t x i ok) (Instr.lookup t x' i' ok) := by
  obtain ⟨k, e, h1, h2, h3⟩ := ht
  unfold Instr.lookup
  refine az (bF t) ?_
  rintro d _ ⟨rfl, hu⟩
  rw [h1] at hu
  cases hu
  dsimp only
  have fin : ∀ a a', MA E X a a' -> RE P E (V E X) X
      (do Instr.checkKey a.isEmpty 10000 k i
          let (v, ok') <- match <- Instr.findKey k i a.toList with
            | some (_, v) => pure (v, true)
            | none => do pure (<- zeroValue e, false)
          pure (if ok then .tuple #[v, .bool ok'] else v))
      (do Instr.checkKey a'.isEmpty 10000 k i'
          let (v, ok') <- match <- Instr.findKey k i' a'.toList with
            | some (_, v) => pure (v, true)
            | none => do pure (<- zeroValue e, false)
          pure (if ok then .tuple #[v, .bool ok'] else v)) := by
    intro a a' ha
    refine az (wY h2 _ _ 9999 9999 _ _) λ_ _ _ => ?_
    refine az (z6 h2 hi ha.list) ?_
    rintro r r' ⟨hr, _⟩
    have fin : ∀ v v' b, V E X v v' -> RE P E (V E X) X (pure (if ok = true then Value.tuple #[v, .bool b] else v)) (pure (if ok = true then Value.tuple #[v', .bool b] else v')) := by
      intro v v' b hv
      cases ok with
      | true => exact aA (V.eH ((VA.one hv).push (.bool b)))
      | false => exact aA hv
    rcases hr with ⟨rfl, rfl⟩ | ⟨j, v, v', s, rfl, rfl, hv, _⟩
    · refine az (gy e h3) ?_
      rintro z z' ⟨rfl, hz⟩
      exact fin _ _ false (hz.self X)
    · exact fin _ _ true hv
  cases hx with
  | AU => exact fin #[] #[] ⟨rfl, λi v v' h => by simp at h⟩
  | map r b h =>
    refine az (gA h) λo o' ho => ?_
    cases ho with
    | map a a' n ha => exact fin a a' ha
    | _ => exact trivial
  | undef _ hf => exact trivial
  | _ => exact trivial
def MA.modify{a a'}(h:MA E X a a') i{f f'}(hf:∀e e',ME E X e e'->ME E X (f e) (f' e')):MA E X (a.modify i f) (a'.modify i f'):=by refine⟨by simp[h.size],λj x x' h1 h2=>?_⟩;rw[Array.getElem?_modify]at h1 h2;split at h1;rename_i hj;rw[if_pos hj]at h2;obtain⟨y,hy,rfl⟩:=Option.map_eq_some_iff.1 h1;obtain⟨y',hy',rfl⟩:=Option.map_eq_some_iff.1 h2;exact hf _ _ (h.el j y y' hy hy');rename_i hj;rw[if_neg hj]at h2;exact h.el j x x' h1 h2
def MA.push{a a'}(h:MA E X a a'){e e'}(he:ME E X e e'):MA E X (a.push e) (a'.push e'):=by refine⟨by simp[h.size],λi x x' h1 h2=>?_⟩;rw[Array.getElem?_push]at h1 h2;rw[<-h.size]at h2;split at h1;rename_i hi;rw[if_pos hi]at h2;cases h1;cases h2;exact he;rename_i hi;rw[if_neg hi]at h2;exact h.el i x x' h1 h2
def xP s:Instr.sameBits 10000 (.string s) (.string s)=true:=by unfold Instr.sameBits;exact(Go.MapKept.bytes_beq s s).2 rfl
def FZ{t}(ht:KV P t){m m' k k' x x'}(hm:V E X m m')(hk:V E X k k')(hx:V E X x x'):RE P E (λ_ _=>True) X (Instr.mapUpdate t m k x) (Instr.mapUpdate t m' k' x'):=by
 obtain⟨kt,e,h1,h2,h3⟩:=ht;unfold Instr.mapUpdate;refine az (bF t) ?_;rintro d _⟨rfl,hu⟩;rw[h1]at hu;cases hu;dsimp only;cases hm with
 |map r b h=>
  refine az (gA h) λo o' ho=>?_;cases ho with
  |map a a' n ha=>
  dsimp only;refine az (wY h2 _ _ 9999 9999 _ _) λ_ _ _=>?_;refine az (z6 h2 hk ha.list) ?_;rintro r1 r1'⟨hr,hs⟩;rcases hr with⟨rfl,rfl⟩|⟨j,v,v',s,rfl,rfl,hv,_⟩;exact vk h (.map _ _ _ (ha.push ⟨hk,hx,rfl⟩));obtain⟨s,rfl,rfl,oO⟩:=hs (by simp);obtain⟨e1,e1',a1,a2,a3,a4⟩:=oO _ v rfl;have b1:(((a[0+j]?).map (·.key)).getD (.string s):Value)=.string s:=by rw[show a[0+j]? =some e1 by simpa using a1];exact a3
  have b2:(((a'[0+j]?).map (·.key)).getD (.string s):Value)=.string s:=by rw[show a'[0+j]? =some e1' by simpa using a2];exact a4
  dsimp only;rw[b1,b2];have aT:(Instr.keyThatStays (.string s) (.string s):Sem Value)=pure (.string s):=by unfold Instr.keyThatStays;rw[xP];rfl
  rw[aT];exact vk h (.map _ _ _ (ha.modify _ λe e' he=>⟨.string s,hx,he.born⟩))
  |_=>exact trivial
 |undef _ hf=>exact trivial|_=>exact trivial
def Vd {t} (ht : ∀ d, P.underlying t = some d -> ∃ k e, d = .map k e) {x x'} (hx : V E X x x') : RG P E (λX' v v' => V E X' v v') X (Instr.range t x) (Instr.range t x') := by
  unfold Instr.range
  refine az (bF t) ?_
  rintro d _ ⟨rfl, hu⟩
  obtain ⟨k, e, rfl⟩ := ht d hu
  have fin : ∀ o o', mH E X o o' -> RG P E (λX' v v' => V E X' v v') X (do pure (.pointer (some ⟨<- newObj o, 0, none⟩)) : Sem Value) (do pure (.pointer (some ⟨<- newObj o', 0, none⟩)) : Sem Value) := by
    intro o o' ho
    refine jI (qw ho) ?_
    rintro Y r b ⟨_, hr⟩
    exact ⟨_, rfl, .ptr _ _ _ _ hr⟩
  cases hx with
  | AU => exact fin _ _ (.EI 0 #[] 0)
  | map r b h =>
    refine az (gA h) λo o' ho => ?_
    cases ho with
    | map a a' n ha => exact fin _ _ (.iter r b n #[] n h)
    | _ => exact trivial
  | _ => exact trivial
def MA.get{a a'}(h:MA E X a a')(i:Nat):(∃v v',a[i]? =some v/\a'[i]? =some v'/\ME E X v v')∨(a[i]? =none/\a'[i]? =none):=by
 by_cases hi:i<a.size;have JS:i<a'.size:=by rw[<-h.size];exact hi
 exact .inl ⟨a[i],a'[i],Array.getElem?_eq_getElem hi,Array.getElem?_eq_getElem JS,h.el i _ _ (Array.getElem?_eq_getElem hi) (Array.getElem?_eq_getElem JS)⟩;exact .inr ⟨Array.getElem?_eq_none (by omega),Array.getElem?_eq_none (by rw[<-h.size];omega)⟩
def ML.cons{e e' l l'}(h:ML E X (e::l) (e'::l')):ME E X e e'/\ML E X l l':=⟨h.el 0 e e' rfl rfl,by have:=h.size;simpa using this,λi v v' h1 h2=>h.el (i+1) v v' (by simpa using h1) (by simpa using h2)⟩
def ML.push{e e' l l'}(he:ME E X e e')(h:ML E X l l'):ML E X (e::l) (e'::l'):=⟨by simp[h.size],λi v v' h1 h2=>by
 cases i with
 |zero=>cases h1;cases h2;exact he
 |succ i=>exact h.el i v v' (by simpa using h1) (by simpa using h2)⟩
def ML.ahA{l'}(h:ML E X [] l'):l'=[]:=List.eq_nil_of_length_eq_zero (by have:=h.size;simpa using this.symm)
theorem ML.filter(p:Nat->Bool):∀ {l l':List MapEntry},ML E X l l'->ML E X (l.filter λe=>p e.born) (l'.filter λe=>p e.born)
 |[],l',h=>by rw[h.ahA];exact⟨rfl,λi v v' h1=>by simp at h1⟩|e::l,[],h=>by have:=h.size;simp at this|e::l,e'::l',h=>by obtain⟨h1,h2⟩:=h.cons;rw[List.filter_cons,List.filter_cons,<-h1.born];split;exact(ML.filter p h2).push h1;exact ML.filter p h2
theorem ML.all(p:Nat->Bool):∀ {l l':List MapEntry},ML E X l l'->(l.all λe=>p e.born)=(l'.all λe=>p e.born)
 |[],l',h=>by rw[h.ahA]|e::l,[],h=>by have:=h.size;simp at this|e::l,e'::l',h=>by obtain⟨h1,h2⟩:=h.cons;rw[List.all_cons,List.all_cons,h1.born,ML.all p h2]
theorem ML.find(p:Nat->Bool):∀ {l l':List MapEntry},ML E X l l'->(∃e e',l.find? (λe=>p e.born)=some e/\l'.find? (λe=>p e.born)=some e'/\ME E X e e')∨(l.find? (λe=>p e.born)=none/\l'.find? (λe=>p e.born)=none)
 |[],l',h=>by rw[h.ahA];exact .inr ⟨rfl,rfl⟩|e::l,[],h=>by have:=h.size;simp at this|e::l,e'::l',h=>by obtain⟨h1,h2⟩:=h.cons;rw[List.find?_cons,List.find?_cons,<-h1.born];cases p e.born with|true=>exact .inl ⟨e,e',rfl,rfl,h1⟩|false=>exact ML.find p h2
def ML.ma{l l'}(h:ML E X l l'):MA E X l.toArray l'.toArray:=⟨by simpa using h.size,λi v v' h1 h2=>h.el i v v' (by simpa using h1) (by simpa using h2)⟩
def MA.filter(p:Nat->Bool){a a'}(h:MA E X a a'):MA E X (a.filter λe=>p e.born) (a'.filter λe=>p e.born):=by have:=(ML.filter p h.list).ma;rwa[<-Array.toList_filter,<-Array.toList_filter,Array.toArray_toList,Array.toArray_toList]at this
def MA.append{a a' b b'}(h:MA E X a a')(h':MA E X b b'):MA E X (a++b) (a'++b'):=by refine⟨by simp[h.size,h'.size],λi x x' h1 h2=>?_⟩;rw[Array.getElem?_append]at h1 h2;rw[<-h.size]at h2;split at h1;rename_i hi;rw[if_pos hi]at h2;exact h.el i x x' h1 h2;rename_i hi;rw[if_neg hi]at h2;exact h'.el _ x x' h1 h2
def ZP{i i'}(hi:V E X i i') ty:RE P E (V E X) X (Instr.next i false ty) (Instr.next i' false ty):=by
 unfold Instr.next;have over:RE P E (V E X) X (pure (.tuple #[.bool false])) (pure (.tuple #[.bool false])):=aA (V.eH (VA.one (.bool false)));cases hi with
 |ptr r b off sp h=>
  cases off with|succ n=>exact trivial|zero=>
  refine az (gA h) λo o' ho=>?_;cases ho with
  |EI s x n=>exact over|iter m m' s x n hm=>
   refine az (gA hm) λo o' ho=>?_;cases ho with
   |map a a' c ha=>
   dsimp only;have lC:=ha.size;have Dx:a.isEmpty=a'.isEmpty:=by simp[Array.isEmpty,lC]
   have gQ:a.all (λe=>decide (e.born≥n))=a'.all (λe=>decide (e.born≥n)):=by rw[<-Array.all_toList,<-Array.all_toList];exact ML.all (λx=>decide (x≥n)) ha.list
   rw[Dx,gQ];refine dV trivial ?_;have acV:=ha.filter λy=> !x.contains y;have hold:=acV.filter λy=>decide (y<s);have aaN:=acV.filter λy=>decide (y≥s);have PC:=hold.append aaN;have hoe:((a.filter λe=> !x.contains e.born).filter λe=>decide (e.born<s)).isEmpty=((a'.filter λe=> !x.contains e.born).filter λe=>decide (e.born<s)).isEmpty:=by have:=hold.size;unfold Array.isEmpty;rw[this]
   rw[<-hoe];have ata:∀pre:Array (Option MapEntry),(pre++(((a.filter λe=> !x.contains e.born).filter λe=>decide (e.born<s))++((a.filter λe=> !x.contains e.born).filter λe=>decide (e.born≥s))).map some).size=(pre++(((a'.filter λe=> !x.contains e.born).filter λe=>decide (e.born<s))++((a'.filter λe=> !x.contains e.born).filter λe=>decide (e.born≥s))).map some).size:=by intro pre;have:=PC.size;simp only[Array.size_append,Array.size_map]at this|-;omega
   rw[<-ata];refine cJ (mW _) λpick=>?_;have kM:∀pre:Array (Option MapEntry),(∀y∈pre,y=none)->((∃e e',(pre++(((a.filter λe=> !x.contains e.born).filter λe=>decide (e.born<s))++((a.filter λe=> !x.contains e.born).filter λe=>decide (e.born≥s))).map some)[pick]? =some (some e)/\(pre++(((a'.filter λe=> !x.contains e.born).filter λe=>decide (e.born<s))++((a'.filter λe=> !x.contains e.born).filter λe=>decide (e.born≥s))).map some)[pick]? =some (some e')/\ME E X e e')∨((pre++(((a.filter λe=> !x.contains e.born).filter λe=>decide (e.born<s))++((a.filter λe=> !x.contains e.born).filter λe=>decide (e.born≥s))).map some)[pick]? =some none/\(pre++(((a'.filter λe=> !x.contains e.born).filter λe=>decide (e.born<s))++((a'.filter λe=> !x.contains e.born).filter λe=>decide (e.born≥s))).map some)[pick]? =some none)∨(pre++(((a.filter λe=> !x.contains e.born).filter λe=>decide (e.born<s))++((a.filter λe=> !x.contains e.born).filter λe=>decide (e.born≥s))).map some)[pick]? =none):=by intro pre Si;generalize((a.filter λe=> !x.contains e.born).filter λe=>decide (e.born<s))++((a.filter λe=> !x.contains e.born).filter λe=>decide (e.born≥s))=u at PC|-;generalize((a'.filter λe=> !x.contains e.born).filter λe=>decide (e.born<s))++((a'.filter λe=> !x.contains e.born).filter λe=>decide (e.born≥s))=u' at PC|-;rw[Array.getElem?_append,Array.getElem?_append];by_cases hp:pick<pre.size;rw[if_pos hp,if_pos hp,Array.getElem?_eq_getElem hp,Si _ (Array.getElem_mem hp)];exact .inr (.inl ⟨rfl,rfl⟩);rw[if_neg hp,if_neg hp,Array.getElem?_map,Array.getElem?_map];rcases PC.get (pick-pre.size)with⟨e,e',h1,h2,h3⟩|⟨h1,h2⟩;rw[h1,h2];exact .inl ⟨e,e',rfl,rfl,h3⟩;rw[h1];exact .inr (.inr rfl)
   have Si:∀y∈(if((a.filter λe=> !x.contains e.born).filter λe=>decide (e.born<s)).isEmpty=true then #[none]else #[]:Array (Option MapEntry)),y=none:=by intro y hy;split at hy;simpa using hy;simp at hy
   rcases kM _ Si with⟨e,e',h1,h2,h3⟩|⟨h1,h2⟩|h1;rw[h1,h2];dsimp only;rw[<-h3.born];exact az (vk h (.iter _ _ _ _ _ hm)) λ_ _ _=>aA (V.eH (((VA.one (.bool true)).push h3.key).push h3.val));rw[h1,h2];exact over;rw[h1];exact trivial
   |_=>exact trivial
  |_=>exact trivial
 |_=>exact trivial
def Vr{i i'}(hi:V E X i i'):RE P E (V E X) X (Instr.entry i) (Instr.entry i'):=by
 unfold Instr.entry;cases hi with
 |ptr r b off sp h=>
  cases off with|succ n=>exact trivial|zero=>
  refine az (gA h) λo o' ho=>?_;cases ho with
  |iter m m' s x n hm=>
   dsimp only;cases x.back? with|none=>exact trivial|some st=>
   refine az (gA hm) λo o' ho=>?_;cases ho with
   |map a a' c ha=>dsimp only;refine dV trivial ?_;have:=ML.find (λy=>y==st) ha.list;rw[Array.find?_toList,Array.find?_toList]at this;rcases this with⟨e,e',h1,h2,h3⟩|⟨h1,h2⟩;rw[h1,h2];exact aA (V.eH ((VA.one h3.key).push h3.val));rw[h1];exact trivial
   |_=>exact trivial
  |_=>exact trivial
 |_=>exact trivial
def Vo{x x'}(hx:V E X x x'):RE P E Eq X (Builtin.lenOf x) (Builtin.lenOf x'):=by cases hx<;>first|exact trivial|exact aA rfl
def VA.clean{a}(h:∀(i:Nat) v,a[i]? =some v->Clean v):VA E X a a:=⟨rfl,λi v v' h1 h2=>by rw[h1]at h2;cases h2;exact(h i v h1).self X⟩
def mq size n{x x'}(hx:V E X x x'):RE P E (VA E X) X (Builtin.firstCells size n x) (Builtin.firstCells size n x'):=by
 cases hx with
 |string s=>refine aA (VA.clean λi v h=>?_);rw[Array.getElem?_map]at h;obtain⟨b,_,rfl⟩:=Option.map_eq_some_iff.1 h;exact .int _ _
 |fj n c=>exact aA (VA.empty X)|slice r b off sp n c h=>exact nN (a:=⟨r,off,sp⟩) (a':=⟨b,off,sp⟩) ⟨h,rfl,rfl⟩ _
 |_=>exact trivial
def VA.zeroCells{z}(hz:∀(i:Nat) v,z[i]? =some v->Clean v) n:VA E X (Builtin.zeroCells z n) (Builtin.zeroCells z n):=by unfold Builtin.zeroCells;refine VA.clean λi v h=>?_;rw[Array.getElem?_map]at h;obtain⟨b,hb,rfl⟩:=Option.map_eq_some_iff.1 h;by_cases h0:z.size=0;rw[h0,Nat.mul_zero]at hb;simp at hb;have aM:b % z.size<z.size:=Nat.mod_lt _ (by omega);refine hz (b % z.size) _ ?_;rw[getElem!_pos z _ aM,Array.getElem?_eq_getElem aM]
theorem de.rg:∀ {s s':Sem α}{Ψ:List Nat->α->α->Prop},de P s->RG P E Ψ X s s'
 |.program k,s',Ψ,h=>de.rg (s:=k P) h|.shape r k,s',Ψ,h=>.inr h|.frozen r k,s',Ψ,h=>h|.mark m k,s',Ψ,h=>.inr h|.halt x,_,_,h=>h|.pure _,_,_,h|.load _ _ _,_,_,h|.store _ _ _ _,_,_,h|.new _ _,_,_,h|.getObj _ _,_,_,h|.setObj _ _ _,_,_,h|.choose _ _,_,_,h|.sys _ _,_,_,h|.freeze _ _ _,_,_,h=>h.elim
inductive Looks(P:Program):∀ {α:Type},Sem α->Prop
 |pure {α:Type} (a:α):Looks P (.pure a)
 |shape {α:Type} (r:Nat) (k:Option (TypeId×Nat)->Sem α) (h:∀z,Looks P (k z)):Looks P (.shape r k)
 |frozen {α:Type} (r:Addr) (k:Bool->Sem α) (h:∀z,Looks P (k z)):Looks P (.frozen r k)
def Looks.Xu{s}(h:Looks P s){f:α->Sem β}(hf:∀a,de P (f a)):de P (s >>= f):=by induction h with|pure a=>exact hf a|shape r k _ ih=>exact λz=>ih z|frozen r k _ ih=>exact λz=>ih z
def Looks.bind{s}(h:Looks P s){f:α->Sem β}(hf:∀a,Looks P (f a)):Looks P (s >>= f):=by induction h with|pure a=>exact hf a|shape r k _ ih=>exact .shape _ _ λz=>ih z|frozen r k _ ih=>exact .frozen _ _ λz=>ih z
def xm a n:Looks P (Builtin.holdsCells a n):=by unfold Builtin.holdsCells;refine .shape _ _ λz=>?_;cases z<;>exact .pure _
def AX size xQ n base x : Looks P (Builtin.mayShare size xQ n base x) := by
  unfold Builtin.mayShare
  have h2 : Looks P (match x with | .slice (some b) _ _ => do pure (!(<- Builtin.holdsCells b (n * size)) || base.any (·.block == b.block)) | _ => pure false : Sem Bool) := by
    split
    · exact (xm _ _).bind λ_ => .pure _
    · exact .pure _
  dsimp only
  cases base with
  | none => exact h2
  | some a =>
    refine (xm _ _).bind λb => (Looks.frozen _ _ λ_ => .pure _ : Looks P (frozen _)).bind λb2 => ?_
    show Looks P (if (!(b && !b2)) = true then _ else _)
    split
    · exact .pure _
    · exact h2
structure Qf(P:Program)(t u:TypeId):Prop where
 zero:∀e,P.underlying t=some (.slice e)->jE P e
 what:∃d,P.underlying u=some d/\∀k,d≠.int k
def wT{t u}(dR:Qf P t u) ty{base Yt}(hb:AO E X base Yt) xQ ZG{x x'}(hx:V E X x x'):RG P E (λX' v v'=>V E X' v v') X (Builtin.append_ #[t,u] ty #[.slice base xQ ZG,x]) (Builtin.append_ #[t,u] ty #[.slice Yt xQ ZG,x']):=by
 obtain⟨hz,d2,rn,hd2⟩:=dR;unfold Builtin.append_;simp only[List.getElem?_toArray,List.getElem?_cons_zero,List.getElem?_cons_succ];refine az (bF t) ?_;rintro d _⟨rfl,hu⟩;have hsv:V E X (.slice base xQ ZG) (.slice Yt xQ ZG):=by rcases hb with⟨rfl,rfl⟩|⟨b,b',rfl,rfl,hb⟩;exact .fj _ _;rw[hb.eq];exact .slice _ _ _ _ _ _ hb.1
 cases d with
 |slice elem=>
 dsimp only;have hz:=hz elem hu;refine cJ (dP elem) λsize=>?_;refine az (bF u) ?_;rintro d _⟨rfl,hu3⟩;rw[rn]at hu3;cases hu3;have hf:∀d:TypeDesc,(∀k,d≠.int k)->(match d with|.int _=>true|_=>false)=false:=by intro d hd;cases d<;>first|rfl|exact absurd rfl (hd _)
 refine az (R:=λa b=>a=false/\b=false) (aA ⟨hf _ hd2,hf _ hd2⟩) ?_;rintro _ _⟨rfl,rfl⟩;simp only[Bool.false_eq_true,if_false,Bool.not_false,if_true];refine az (R:=Eq) (Vo hx) ?_;rintro n _ rfl;refine dV ?_ ?_;refine az (mq size n hx) λc c' hc=>?_;rcases hb with⟨rfl,rfl⟩|⟨b,b',rfl,rfl,hb⟩;exact tE (aA (.fj _ _)) λ_ _ h=>h;refine az (mn (hb.add _) _ _ 0 (by simpa using hc)) λ_ _ _=>?_;rw[hb.eq];exact tE (aA (.slice _ _ _ _ _ _ hb.1)) λ_ _ h=>h;refine cJ (gz elem) λinfo=>?_;refine dV ?_ ?_;refine dY.bind (Φ:=λ_ _ _=>False) (λ_ _ _ h=>h.elim) (fX ?_);exact trivial;refine cJ (gz elem) λinfo=>?_;refine dV ?_ ?_;refine de.rg (de.bind ((AX _ _ _ _ _).Xu λb=>?_));split<;>exact trivial;refine cJ (mW _) λasD=>?_;refine cJ (gz elem) λinfo=>?_;refine az (Aa _) λ_ _ _=>?_;refine az (mq size xQ hsv) λc c' hc=>?_;refine az (mq size n hx) λe e' he=>?_;refine az (gy elem hz) ?_;rintro z z'⟨rfl,pO⟩;refine jI (qu elem ((hc.append he).append (VA.zeroCells pO.cells _))) ?_;rintro Y r r'⟨_,hr⟩;rw[hr.eq];exact⟨_,rfl,.slice _ _ _ _ _ _ hr.1⟩
 |_=>exact trivial
def QG{t u}(dR:Qf P t u) ty{s s' x x'}(hs:V E X s s')(hx:V E X x x'):RG P E (λX' v v'=>V E X' v v') X (Builtin.append_ #[t,u] ty #[s,x]) (Builtin.append_ #[t,u] ty #[s',x']):=by
 have Xu:(∀b n c,s≠.slice b n c)->∀s',RG P E (λX' v v'=>V E X' v v') X (Builtin.append_ #[t,u] ty #[s,x]) s':=by
  intro hn s';refine nd (s:=norm P (Builtin.append_ #[t,u] ty #[s,x])) (EA _) ?_;unfold Builtin.append_;simp only[List.getElem?_toArray,List.getElem?_cons_zero,List.getElem?_cons_succ];cases hu:P.underlying t with
  |none=>
  have:∃h,eo h/\norm P (underlying t)=.halt h:=by
   unfold underlying;rw[cH (a:=P) rfl,hu]
   (refine⟨_,?_,rfl⟩;exact trivial)
  obtain⟨h,oP,this⟩:=this;rw[lu this];exact oP
  |some d=>
  rw[cH (fF hu)];cases d with
  |slice elem=>cases s<;>first|exact trivial|exact absurd rfl (hn _ _ _)
  |_=>exact trivial
 cases hs with|fj n c=>exact wT dR ty (.inl ⟨rfl,rfl⟩) n c hx|slice r b off sp n c h=>exact wT dR ty (ao h) n c hx|_=>exact Xu (by intros;simp) _
inductive NX(E:Env)(X:List Nat):Next->Next->Prop
 |value (v v':Value) (h:V E X v v'):NX E X (.value v) (.value v')
 |skip:NX E X .skip .skip
 |enter (f:FuncId) (a a':Array Value) (hF:E.F f) (h:VA E X a a'):NX E X (.enter f a) (.enter f a')
def jW {s s'} (h : RG P E (λX' v v' => V E X' v v') X s s') : RG P E (NX E) X (do pure (.value (<- s))) (do pure (.value (<- s'))) := jI h λY v v' hv => gu (.value _ _ hv)
def fC {s s'} (h : RE P E (V E X) X s s') : RG P E (NX E) X (do pure (.value (<- s))) (do pure (.value (<- s'))) := az h λv v' hv => gu (.value _ _ hv)
def OA {s s'} (h : RE P E (λ_ _ => True) X s s') : RG P E (NX E) X (do s; pure .skip) (do s'; pure .skip) := az h λ_ _ _ => gu .skip
def Zh(P:Program)(E:Env):Prop:=∀(f:Nat)(fn:Func),E.F f->P.funcs[f]? =some fn->fn.body.isNone=false/\(fn.name== "runtime.NumGoroutine")=false
def IJ(hB:Zh P E) f(hF:E.F f){a a'}(ha:VA E X a a'):RG P E (NX E) X (callFunc f a) (callFunc f a'):=by unfold callFunc;refine qx ?_;cases hf:P.funcs[f]? with|none=>exact trivial|some fn=>obtain⟨h1,h2⟩:=hB f fn hF hf;dsimp only;rw[h1,h2];simp only[Bool.false_eq_true,if_false];exact gu (.enter _ _ _ hF ha)
def VA.Mv{ev yW}{Q:Operand->Prop}(gm:∀x,Q x->V E X (ev x) (yW x))(l:Array Operand)(h:∀x∈l,Q x):VA E X (l.map ev) (l.map yW):=VA.map ev yW l λx hx=>gm x (h x hx)
def Jd args : ∃ h, eo h /\ norm P (do let d <- Deferred.ofValue (.func (.method "") #[.nilIface] #[]) args; invoke d.target d.args : Sem Next) = .halt h := by
  have h1 : (#[Value.nilIface] ++ args)[0]? = some .nilIface := by rw [Array.getElem?_append_left (by simp)]; rfl
  rw [cH (a := { target := .fn (.method "") #[], args := #[.nilIface] ++ args }) rfl]
  unfold invoke
  dsimp only
  rw [h1]
  (refine ⟨_, ?_, rfl⟩; exact trivial)
def NT(P:Program)(Q:Operand->Prop)(c:Call):Prop:=(∀x∈c.args,Q x)/\match c.callee with
 |.value f=>Q f
 |.builtin .len=>∃t x,c.argTypes=#[t]/\c.args=#[x]/\∀d,P.underlying t=some d->(∀k e,d≠.map k e)/\∀a b,d≠.chan a b
 |.builtin .append=>∃t u x y,c.argTypes=#[t,u]/\c.args=#[x,y]/\Qf P t u
 |_=>False
def ZL (hB : Zh P E) {Q ev yW} (gm : ∀ x, Q x -> V E X (ev x) (yW x)) c (hc : NT P Q c) ty : RG P E (NX E) X (do let d <- resolve ev c ty; invoke d.target d.args) (do let d <- resolve yW c ty; invoke d.target d.args) := by
  obtain ⟨callee, args, argTypes⟩ := c
  obtain ⟨h1, h2⟩ := hc
  have Xt := VA.Mv gm args h1
  unfold resolve
  cases callee with
  | value f =>
    dsimp only
    have hf := gm f h2
    revert hf
    generalize ev f = v
    generalize yW f = v'
    intro hf
    cases hf with
    | func g a a' c c' hF e1 e2 e3 e4 =>
      show RG P E (NX E) X (callFunc g _) (callFunc g _)
      exact IJ hB g hF (((VA.mk e1 e2 : VA E X a a').append Xt).append ⟨e3, e4⟩)
    | nilFunc => exact fX (e := .nilDeref) (e' := .nilDeref) trivial
    | undef _ h =>
      obtain ⟨h0, oP, hh⟩ := Jd (P := P) (args.map ev)
      exact nd (s := .halt h0) hh.symm oP
    | _ => exact trivial
  | builtin b =>
    cases b with
    | len =>
      obtain ⟨t, x, e1, e2, h3⟩ := h2
      dsimp only at e1 e2
      subst e1; subst e2
      have hx := gm x (h1 x (by simp))
      show RG P E (NX E) X (do pure (.value (<- Builtin.len_ #[t] ty (#[x].map ev)))) (do pure (.value (<- Builtin.len_ #[t] ty (#[x].map yW))))
      rw [show (#[x].map ev : Array Value) = #[ev x] by simp, show (#[x].map yW : Array Value) = #[yW x] by simp]
      exact fC (ag8 t h3 ty hx)
    | append =>
      obtain ⟨t, u, x, y, e1, e2, h3⟩ := h2
      dsimp only at e1 e2
      subst e1; subst e2
      have hx := gm x (h1 x (by simp))
      have hy := gm y (h1 y (by simp))
      show RG P E (NX E) X (do pure (.value (<- Builtin.append_ #[t, u] ty (#[x, y].map ev)))) (do pure (.value (<- Builtin.append_ #[t, u] ty (#[x, y].map yW))))
      rw [show (#[x, y].map ev : Array Value) = #[ev x, ev y] by simp, show (#[x, y].map yW : Array Value) = #[yW x, yW y] by simp]
      exact jW (QG h3 ty hx hy)
    | _ => exact h2.elim
  | invoke r n => exact h2.elim
def QO(Q:Operand->Prop):Option Operand->Prop
 |none=>True|some x=>Q x
def abU(P:Program)(E:Env)(Q:Operand->Prop)(o:Oper):Prop:=match o.op with
 |.move x|.assign x|.nilCheck x|.load _ x|.box _ x|.extract x _|.entry x=>Q x
 |.pick c a b=>Q c/\Q a/\Q b
 |.alloc e=>jE P e
 |.build t l=>jE P t/\∀x∈l,Q x.2
 |.buildSlice t _ l=>(∀e,P.underlying t=some (.slice e)->jE P e)/\∀x∈l,Q x.2
 |.store _ a x=>Q a/\Q x
 |.binOp op _ x y _=>uP op/\Q x/\Q y
 |.convert s d x=>NS P s d/\Q x
 |.makeFunc (.func f) a c=>E.F f/\(∀x∈a,Q x)/\∀x∈c,Q x
 |.makeMap _ none=>True
 |.makeSlice t l c=>(∀e,P.underlying t=some (.slice e)->jE P e)/\Q l/\Q c
 |.slice _ x a b c=>Q x/\QO Q a/\QO Q b/\QO Q c
 |.fieldAddr t x _=>Hj P t/\Q x
 |.indexAddr _ x i|.index _ x i=>Q x/\Q i
 |.lookup t x i _=>KV P t/\Q x/\Q i
 |.mapUpdate t m k x=>KV P t/\Q m/\Q k/\Q x
 |.range t x=>(∀d,P.underlying t=some d->∃k e,d=.map k e)/\Q x
 |.next x s=>s=false/\Q x
 |.call c=>NT P Q c
 |_=>False
def PR.of{ev yW:Operand->Value}{Q:Operand->Prop}(gm:∀x,Q x->V E X (ev x) (yW x))(l:Array (Nat×Operand))(h:∀x∈l,Q x.2):PR E X (l.map λ(i,x)=>(i,ev x)) (l.map λ(i,x)=>(i,yW x)):=by
 refine⟨by simp,λi p p' h1 h2=>?_⟩;rw[Array.getElem?_map]at h1 h2;cases hl:l[i]? with
 |none=>rw[hl]at h1;cases h1
 |some y=>rw[hl]at h1 h2;cases h1;cases h2;exact⟨rfl,gm _ (h _ (Array.mem_of_getElem? hl))⟩
theorem VO.of{ev yW Q}(gm:∀x,Q x->V E X (ev x) (yW x)):∀x,QO Q x->VO E X (x.map ev) (x.map yW)
 |Option.none,_=>.none|Option.some x,h=>.some (gm x h)
def QF(hB:Zh P E)(hG:P.globals.size<=E.G){Q ev yW}(gm:∀x,Q x->V E X (ev x) (yW x)) o(ho:abU P E Q o):RG P E (NX E) X (execOp ev o) (execOp yW o):=by
 obtain⟨dst,op,type,pos⟩:=o;cases op with
 |move x=>exact gu (.value _ _ (gm x ho))|assign x=>exact gu (.value _ _ (gm x ho))
 |pick c a b=>obtain⟨h1,h2,h3⟩:=ho;refine az (R:=Eq) (QW (gm c h1)) ?_;rintro b' _ rfl;cases b' with|true=>exact gu (.value _ _ (gm a h2))|false=>exact gu (.value _ _ (gm b h3))
 |alloc e=>exact jW (Vg e ho)|box e x=>exact jW (ag6 e (gm x ho))
 |build t l=>exact fC (Vs t ho.1 (PR.of gm l ho.2))|buildSlice t n l=>exact jW (Dh t ho.1 n (PR.of gm l ho.2))
 |load t a=>exact fC (QS t (gm a ho))|store t a x=>exact OA (LJ t (gm a ho.1) (gm x ho.2))
 |nilCheck x=>have hx:=gm x ho;unfold execOp;dsimp only;revert hx;generalize ev x=v;generalize yW x=v';intro hx;cases hx with|ptrN=>exact fX (e:=.nilDeref) (e':=.nilDeref) trivial|nilIface=>exact fX (e:=.nilDeref) (e':=.nilDeref) trivial|nilFunc=>exact fX (e:=.nilDeref) (e':=.nilDeref) trivial|undef _ h=>exact trivial|ptr r b o s h=>exact gu (.value _ _ (.ptr r b o s h))|func f a a' c c' hF h1 h2 h3 h4=>exact gu (.value _ _ (.func f a a' c c' hF h1 h2 h3 h4))|_=>exact gu (.value _ _ (by constructor<;>assumption))
 |binOp op t x y t2=>
 have hg:∀a b,(eqGuard op t x y a b:Sem Unit)=pure ():=by intro a b;have:=ho.1;cases op<;>first|exact ho.1.elim|rfl
 unfold execOp;dsimp only;rw[hg,hg];exact jW (Ve op ho.1 t hG (gm x ho.2.1) (gm y ho.2.2))
 |convert s d x=>exact fC (LV s d ho.1 (gm x ho.2))|makeFunc fn a c=>cases fn with|func f=>have h1:=VA.Mv gm a ho.2.1;have h2:=VA.Mv gm c ho.2.2;exact gu (.value _ _ (.func f _ _ _ _ ho.1 h1.size h1.el h2.size h2.el))|_=>exact ho.elim
 |makeMap t r=>cases r with|none=>exact jW (Lz t)|some r=>exact ho.elim
 |makeSlice t l c=>exact jW (FH t ho.1 (gm l ho.2.1) (gm c ho.2.2))|slice t x a b c=>exact fC (LK t (gm x ho.1) (VO.of gm a ho.2.1) (VO.of gm b ho.2.2.1) (VO.of gm c ho.2.2.2))
 |fieldAddr t x i=>exact fC (LR t ho.1 (gm x ho.2) i)|indexAddr t x i=>exact fC (LQ t (gm x ho.1) (gm i ho.2))
 |index t x i=>exact fC (Vq t (gm x ho.1) (gm i ho.2))|lookup t x i ok=>exact fC (QR ho.1 (gm x ho.2.1) (gm i ho.2.2) ok)
 |mapUpdate t m k x=>exact OA (FZ ho.1 (gm m ho.2.1) (gm k ho.2.2.1) (gm x ho.2.2.2))|range t x=>exact jW (Vd ho.1 (gm x ho.2))
 |next x s=>obtain⟨rfl,h2⟩:=ho;exact fC (ZP (gm x h2) type)
 |entry x=>exact fC (Vr (gm x ho))|extract x i=>exact fC (LU i (gm x ho))
 |call c=>exact ZL hB gm c ho type|_=>exact ho.elim
end
end Rn
namespace Tp
def gW:GStep->World
 |.go _ w _|.comm _ _ _ _ w _|.spawn _ _ w _|.count _ w _|.timer _ _ w _|.alone _ _ w _|.newcoro _ _ _ w _|.coroswitch _ _ _ w _|.collect _ w _|.watch _ w _|.ended _ w _=>w
def gE:GStep->Array Event
 |.go _ _ es|.comm _ _ _ _ _ es|.spawn _ _ _ es|.count _ _ es|.timer _ _ _ es|.alone _ _ _ es|.newcoro _ _ _ _ es|.coroswitch _ _ _ _ es|.collect _ _ es|.watch _ _ es|.ended _ _ es=>es
def reG(τ:Nat->Question->Nat)(n:Nat):GStep->GStep
 |.go g w es=>.go g (w.re τ n) es|.comm g a b c w es=>.comm g a b c (w.re τ n) es|.spawn g c w es=>.spawn g c (w.re τ n) es|.count g w es=>.count g (w.re τ n) es|.timer g o w es=>.timer g o (w.re τ n) es|.alone g o w es=>.alone g o (w.re τ n) es|.newcoro g c d w es=>.newcoro g c d (w.re τ n) es|.coroswitch g c b w es=>.coroswitch g c b (w.re τ n) es|.collect g w es=>.collect g (w.re τ n) es|.watch g w es=>.watch g (w.re τ n) es|.ended o w es=>.ended o (w.re τ n) es
def bH(l:List Item):Prop:=∀it∈l,it.SR
def gH(cs:List Frame):Prop:=∀c∈cs,bH c.todo
def bot:Frame->List Frame->CallKind
 |fr,[]=>fr.kind|_,c::cs=>bot c cs
theorem KF{fr fr'}(h:fr'.kind=fr.kind):∀cs,bot fr' cs=bot fr cs
 |[]=>h|_::_=>rfl
structure cm(dy:Option Dying)(fr:Frame)(cs:List Frame):Prop where
 todo:bH fr.todo
 rest:gH cs
 low:dy.isSome=true->bot fr cs=.report
def bH.tail{x k}(h:bH (x::k)):bH k:=λit hi=>h it (List.mem_cons_of_mem _ hi)
def bH.cons{x k}(h:x.SR)(hk:bH k):bH (x::k):=λit hi=>by rcases List.mem_cons.1 hi with rfl|hi;exact h;exact hk it hi
def bH.nil:bH []:=λ_ h=>by cases h
def gH.cons{c cs}(h:bH c.todo)(hc:gH cs):gH (c::cs):=λx hx=>by rcases List.mem_cons.1 hx with rfl|hx;exact h;exact hc x hx
def gH.tail{c cs}(h:gH (c::cs)):gH cs:=λx hx=>h x (List.mem_cons_of_mem _ hx)
def gH.head{c cs}(h:gH (c::cs)):bH c.todo:=h c List.mem_cons_self
def xG{fr:Frame}(h:bH fr.todo) v:bH (fr.finish v).todo:=by unfold Frame.finish;split;rename_i hh;rw[hh]at h;exact bH.cons trivial h.tail;rename_i hh;rw[hh]at h;exact bH.cons trivial h.tail;rename_i hh;rw[hh]at h;exact h.tail;rename_i hh;rw[hh]at h;exact(h _ List.mem_cons_self).elim;rename_i hh;rw[hh]at h;exact h.tail;exact h
def Nk{fr:Frame}(h:bH fr.todo) l:bH (fr.raise l).todo:=by unfold Frame.raise;split<;>exact h
def iw P f args k:bH (Frame.enter P f args k).todo:=bH.cons trivial .nil
def Ca l f t a b k:bH (Frame.round l f t a b k).todo:=bH.cons trivial (bH.cons trivial (bH.cons trivial .nil))
def uC{fr}:∀ {cs:List Frame}{v:Value}{fu:List Frame},gH cs->tryRecover fr cs=some (v,fu)->gH fu:=by
 intro cs;induction cs generalizing fr with
 |nil=>intro v fu _ h;unfold tryRecover at h;cases hk:fr.kind<;>simp[hk]at h
 |cons c cs ih=>
 intro v fu hc h;unfold tryRecover at h;cases hk:fr.kind<;>simp only[hk]at h<;>try cases h
 split at h;cases h;exact gH.cons (show bH c.todo from hc.head) hc.tail;cases h;obtain⟨⟨v1,r1⟩,h1,h2⟩:=Option.map_eq_some_iff.1 h;cases h2;exact gH.cons hc.head (ih hc.tail h1)
def v7:∀ {cs:List Frame}{l:Nat}{v:Value}{fu:List Frame},gH cs->tryRecoverLoop l cs=some (v,fu)->gH fu:=by
 intro cs;induction cs with
 |nil=>intro l v fu _ h;cases h
 |cons c cs ih=>intro l v fu hc h;unfold tryRecoverLoop at h;obtain⟨⟨v1,r1⟩,h1,h2⟩:=Option.map_eq_some_iff.1 h;cases h2;refine gH.cons hc.head ?_;split at h1;exact ih hc.tail h1;split at h1;exact uC hc.tail h1;exact ih hc.tail h1;exact ih hc.tail h1
theorem wu{id}:∀ {k k':List Item},bH k->exitTo id k=some k'->bH k'
 |[],_,_,h=>by cases h
 |it::k,k',hf,h=>by unfold exitTo at h;split at h;rename_i hh;cases hh;split at h;cases h;exact hf.tail;exact wu hf.tail h;rename_i hh;cases hh;exact wu hf.tail h;cases h
theorem wm{l}:∀ {k k':List Item},bH k->gotoIn l k=some k'->bH k'
 |[],_,_,h=>by cases h
 |it::k,k',hf,h=>by unfold gotoIn at h;split at h;rename_i hh;cases hh;split at h;cases h;exact bH.cons trivial (bH.cons trivial hf.tail);exact wm hf.tail h;rename_i hh;cases hh;exact wm hf.tail h;cases h
def xE(fr:Frame) v:(fr.finish v).kind=fr.kind:=by unfold Frame.finish;split<;>rfl
def LY(fr:Frame) l:(fr.raise l).kind=fr.kind:=by unfold Frame.raise;split<;>rfl
def xJ{fr}:∀ {cs:List Frame}{v:Value}{fu:List Frame}(f:Frame),tryRecover fr cs=some (v,fu)->bot f fu=bot f cs:=by
 intro cs;induction cs generalizing fr with
 |nil=>intro v fu f h;unfold tryRecover at h;cases hk:fr.kind<;>simp[hk]at h
 |cons c cs ih=>
 intro v fu f h;unfold tryRecover at h;cases hk:fr.kind<;>simp only[hk]at h<;>try cases h
 split at h;cases h;show bot {c with mode:=_} cs=bot c cs;cases cs<;>rfl;cases h;obtain⟨⟨v1,r1⟩,h1,h2⟩:=Option.map_eq_some_iff.1 h;cases h2;exact ih c h1
def yv:∀ {cs:List Frame}{l:Nat}{v:Value}{fu:List Frame}(f:Frame),tryRecoverLoop l cs=some (v,fu)->bot f fu=bot f cs:=by
 intro cs;induction cs with
 |nil=>intro l v fu f h;cases h
 |cons c cs ih=>intro l v fu f h;unfold tryRecoverLoop at h;obtain⟨⟨v1,r1⟩,h1,h2⟩:=Option.map_eq_some_iff.1 h;cases h2;show bot c r1=bot c cs;split at h1;exact ih c h1;split at h1;exact xJ c h1;exact ih c h1;exact ih c h1
section
variable{dy:Option Dying}{fr:Frame}{cs:List Frame}
def cm.same(h:cm dy fr cs){fr'}(ht:fr'.todo=fr.todo)(hk:fr'.kind=fr.kind):cm dy fr' cs:=⟨by rw[ht];exact h.todo,h.rest,λhd=>(KF hk cs).trans (h.low hd)⟩
def cm.with(h:cm dy fr cs){fr'}(ht:bH fr'.todo)(hk:fr'.kind=fr.kind):cm dy fr' cs:=⟨ht,h.rest,λhd=>(KF hk cs).trans (h.low hd)⟩
def cm.finish(h:cm dy fr cs) v:cm dy (fr.finish v) cs:=h.with (xG h.todo v) (xE fr v)
def cm.raise(h:cm dy fr cs) l:cm dy (fr.raise l) cs:=h.with (Nk h.todo l) (LY fr l)
def cm.push(h:cm dy fr cs){c}(hc:bH c.todo):cm dy c (fr::cs):=⟨hc,gH.cons h.todo h.rest,h.low⟩
def cm.pop{c}(h:cm dy fr (c::cs)):cm dy c cs:=⟨h.rest.head,h.rest.tail,h.low⟩
def cm.recover(h:cm dy fr cs){v fu}(hx:tryRecover fr cs=some (v,fu)):cm dy fr fu:=⟨h.todo,uC h.rest hx,λhd=>(xJ fr hx).trans (h.low hd)⟩
def cm.IY(h:cm dy fr cs){l v fu}(hx:tryRecoverLoop l cs=some (v,fu)):cm dy fr fu:=⟨h.todo,v7 h.rest hx,λhd=>(yv fr hx).trans (h.low hd)⟩
def cm.ag9(h:cm dy fr cs){c}(hc:bH c.todo) l(hl:gH l):cm dy c (l++fr::cs):=by
 refine⟨hc,λx hx=>?_,λhd=>?_⟩;rcases List.mem_append.1 hx with hx|hx;exact hl x hx;exact gH.cons h.todo h.rest x hx;have:∀(l:List Frame)(c:Frame),bot c (l++fr::cs)=bot fr cs:=by intro l;induction l with|nil=>intro c;rfl|cons a l ih=>intro c;exact ih a
 rw[this];exact h.low hd
end
def aoe(g:Goroutine):Prop:=∃d,g.dying=some d/\(d.calling=true->cm (some d) g.frame g.callers)
def Qc:GStep->Prop
 |.ended _ _ _=>True|.go g _ _=>(g.status=.blocked∨g.status=.waiting∨g.status=.finished)∨(g.status=.running/\aoe g)|_=>False
def Kind(dy:Option Dying):GStep->Prop
 |.go g _ _=>cm dy g.frame g.callers/\g.dying=dy/\g.status=.running|.comm g _ _ _ _ _=>cm dy g.frame g.callers/\g.dying=dy/\g.status=.running|.coroswitch g _ b _ _=>cm dy g.frame g.callers/\g.dying=dy/\g.status=.running/\b=true|.spawn _ _ _ _|.ended _ _ _=>True|_=>False
structure GRe(dy:Option Dying)(f:World->GStep)(w:World)(k:Nat):Prop where
 drawn:(gW (f w)).drawn=w.drawn+k
 tape:(gW (f w)).tape=w.tape
 size:w.heap.size<=(gW (f w)).heap.size
 low:∀e∈gE (f w),ou (gW (f w)).heap.size e
 Yu:∀x,deafBehind x (gE (f w))=x
 kind:Kind dy (f w)
 same:∀τ n,Agree w τ n k->f (w.re τ n)=reG τ (n+k) (f w)
def fe(dy:Option Dying)(f:World->GStep)(w:World):Prop:=(∃k,GRe dy f w k)∨Qc (f w)
variable{dy:Option Dying}
def uz es r:gW (r.after es)=gW r:=by cases r<;>rfl
def Kc es r:gE (r.after es)=es++gE r:=by cases r<;>rfl
def QY es r τ n:reG τ n (r.after es)=(reG τ n r).after es:=by cases r<;>rfl
def dQ{es r}(h:Qc r):Qc (r.after es):=by cases r<;>first|exact h|exact h.elim
def MG{es r}(h:Kind dy r):Kind dy (r.after es):=by cases r<;>exact h
def fe.congr{F F' w}(h:fe dy F' w)(e:∀u,F u=F' u):fe dy F w:=by have:F=F':=funext e;rw[this];exact h
def fe.pW{F F' w}(h:fe dy F' w)(e0:F w=F' w)(e1:∀τ n,F (w.re τ n)=F' (w.re τ n)):fe dy F w:=by rcases h with⟨k,g⟩|h;exact .inl ⟨k,by rw[e0];exact g.drawn,by rw[e0];exact g.tape,by rw[e0];exact g.size,by rw[e0];exact g.low,by rw[e0];exact g.Yu,by rw[e0];exact g.kind,λτ n ha=>by rw[e0,e1];exact g.same τ n ha⟩;exact .inr (by rw[e0];exact h)
def zB p fn es:∀e∈seen p fn es,e∈es:=by
 unfold seen;dsimp only;rw[<-Array.foldl_toList];have h:∀(l:List Event)(q:Bool)(kept:Array Event),(∀e∈(l.foldl (λ(x:Bool×Array Event) e=>match x with
  |(q,kept)=>match e.loc with
   |.mark (.extern f)=>((p.funcs[f]?).any (·.norace),kept)
   |_=>(q,if q&& !e.sync then kept else kept.push e)) (q,kept)).2,e∈kept∨e∈l):=by
  intro l;induction l with
  |nil=>intro q kept e he;exact .inl he
  |cons a l ih=>
   intro q kept e he;rw[List.foldl_cons]at he;dsimp only at he;split at he
   ·rcases ih _ _ e he with h1|h1
    ·exact .inl h1
    ·exact .inr (List.mem_cons_of_mem _ h1)
   ·rcases ih _ _ e he with h1|h1
    ·split at h1
     ·exact .inl h1
     ·rcases Array.mem_push.1 h1 with h2|h2
      ·exact .inl h2
      ·exact .inr (by rw[h2];exact List.mem_cons_self)
    ·exact .inr (List.mem_cons_of_mem _ h1)
 intro e he;rcases h es.toList _ #[] e he with h1|h1;simp at h1;simpa using h1
def Ho(es:Array Event):Prop:=∀e∈es,∀m,e.loc=.mark m->Gf m/\e.sync=true
def eY p fn{es}(hm:Ho es) x:deafBehind x (seen p fn es)=deafBehind x es:=by
 unfold seen;dsimp only;rw[<-Array.foldl_toList];have h:∀(l:List Event)(_:∀e∈l,∀m,e.loc=.mark m->Gf m/\e.sync=true)(q:Bool)(kept:Array Event),deafBehind x ((l.foldl (λ(x:Bool×Array Event) e=>match x with
  |(q,kept)=>match e.loc with
   |.mark (.extern f)=>((p.funcs[f]?).any (·.norace),kept)
   |_=>(q,if q&& !e.sync then kept else kept.push e)) (q,kept)).2)=deafBehind (deafBehind x kept) ⟨l⟩:=by
  intro l;induction l with
  |nil=>intro _ q kept;rfl
  |cons a l ih=>
   intro hl q kept;have e0:(⟨a::l⟩:Array Event)=#[a]++⟨l⟩:=by simp
   rw[List.foldl_cons];dsimp only;split
   ·rename_i f hf;rw[ih (λe he=>hl e (List.mem_cons_of_mem _ he)),e0,iE,uG _ _ (by rw[hf];simp) (by rw[hf];simp)]
   ·rw[ih (λe he=>hl e (List.mem_cons_of_mem _ he)),e0,iE]
    congr 1;split
    ·rename_i hq;have hs:a.sync=false:=by
      cases h1:a.sync
      ·rfl
      ·rw[h1]at hq;simp at hq
     have h2:∀m,a.loc≠.mark m:=λm hm'=>by
      have:=(hl a List.mem_cons_self m hm').2;rw[hs]at this;cases this
     rw[uG _ _ (h2 _) (h2 _)]
    ·rw[deaf_push]
 exact h es.toList (λe he=>hm e (by simpa using he)) _ #[]
def fe.const{F w}(h1:gW (F w)=w)(h2:gE (F w)=#[])(h3:Kind dy (F w))(h4:∀τ n,F (w.re τ n)=reG τ n (F w)):fe dy F w:=.inl ⟨0,by rw[h1];rfl,by rw[h1],by rw[h1];exact ν,by rw[h2];simp,by rw[h2];exact λ_=>rfl,h3,λτ n _=>h4 τ n⟩
def fe.go{w g}(h:cm dy g.frame g.callers)(hd:g.dying=dy)(hr:g.status=.running):fe dy (λw=>.go g w #[]) w:=.const rfl rfl ⟨h,hd,hr⟩ (λ_ _=>rfl)
theorem fe.run{P α Φ s}(hs:Plain P Φ s){w f}(body:Result α×Array Event->GStep)(hf:∀u,f u=body (s.runT P u #[])) (hlost:∀x w' es,Qc (body (.halt (.unsupported (.noEntry x)) w',es))) (hbody:∀r es,(∀a w',r=.ok a w'->Φ a)->Ho es->(ab0 r->∀x,deafBehind x es=x)->Qc (body (r,es))∨∃E F,(∀e∈E,e∈es)/\(∀x,deafBehind x E=x)/\(∀τ n,body (Y1 τ n r,es)=GStep.after E (F ((wR r).re τ n)))/\body (r,es)=GStep.after E (F (wR r))/\fe dy F (wR r)):fe dy f w:=by
 rcases hs.run w #[]with⟨k,i⟩|⟨x,w',iy,hx⟩;have e1:=i.drawn;have e2:=i.tape;have e3:=i.size;have e4:=i.post;have e5:=i.low;have e6:=i.same;have e7:=hf w;have e8:=i.Yu;generalize s.runT P w #[]=x at e1 e2 e3 e4 e5 e6 e7 e8;obtain⟨r,es⟩:=x;dsimp only at e1 e2 e3 e4 e5 e6 e8;have yN:Ho es:=λe he m hm=>by rcases e5 e he with h|h;simp at h;unfold ou at h;rw[hm]at h;exact h
 rcases hbody r es e4 yN (λhc x=>e8 hc x rfl)with kp|⟨E,F,hE,aul,h1,h2,h3⟩;exact .inr (by rw[e7];exact kp);rcases h3 with⟨k2,g⟩|kp;refine .inl ⟨k+k2,?_,?_,?_,?_,?_,?_,?_⟩;rw[e7,h2,uz,g.drawn,e1];omega;rw[e7,h2,uz,g.tape,e2];rw[e7,h2,uz];exact Nat.le_trans e3 g.size;rw[e7,h2,uz,Kc];intro e he;rcases Array.mem_append.1 he with he|he;rcases e5 e (hE e he)with h|h;simp at h;exact h.mono g.size;exact g.low e he;intro x;rw[e7,h2,Kc,iE,aul,g.Yu];rw[e7,h2];exact MG g.kind;intro τ n ha;rw[hf,e6 τ n (ha.mono (by omega)),h1,e7,h2,QY,<-Nat.add_assoc];rw[g.same τ (n+k) (λj hj=>by rw[e1,e2,Nat.add_assoc,Nat.add_assoc];exact ha (k+j) (by omega))];exact .inr (by rw[e7,h2];exact dQ kp);exact .inr (by rw[hf,hx];exact hlost x w' iy)
def XL(p:Program) w τ n:∀fuel f,p.found (w.re τ n) fuel f=p.found w fuel f:=by intro fuel;induction fuel with|zero=>intro f;rfl|succ k ih=>intro f;unfold Program.found;simp only[ih];rfl
def Nz(p:Program) w τ n:∀fuel l s,p.brought (w.re τ n) fuel l s=p.brought w fuel l s:=by
 intro fuel;induction fuel with
 |zero=>intro l s;cases l<;>rfl
 |succ k ih=>intro l s;cases l with|nil=>rfl|cons f l=>unfold Program.brought;simp only[ih];rfl
theorem Ng{P fr callers}{g:Nat}{w}(h:cm dy fr callers):fe dy (λw=>match w.heap[g]? with
  |some (.pending c elem)=>.go {frame:=fr,callers,status:=.running,dying:=dy} {w with heap:=w.heap.setIfInBounds g (.cells c elem)}
  |_=>.ended (.stuck "early: the variable does not wait" (fr.pos P)) w) w:=by
 cases hh:w.heap[g]? with
 |none=>exact .inr (by simp only[hh];exact trivial)
 |some o=>
  cases o with
  |pending c e=>
   refine .inl ⟨0,by simp only[hh];rfl,by simp only[hh];rfl,by simp only[hh];simp[gW],by simp only[hh];simp[gE],by simp only[hh];exact λ_=>rfl,by simp only[hh];exact⟨h,rfl,rfl⟩,λτ n _=>?_⟩
   simp only[show(w.re τ n).heap=w.heap from rfl,hh];rfl
  |_=>exact .inr (by simp only[hh];exact trivial)
def eA{o w}:fe dy (λw=>.ended o w) w:=.inr trivial
def XM P(l:List FuncId):gH (l.map (Frame.enter P · #[] .early)):=λc hm=>by obtain⟨f,_,rfl⟩:=List.mem_map.1 hm;exact iw _ _ _ _
def SD{P} fr callers g w(h:cm dy fr callers):fe dy (early P fr callers dy g) w:=by
 have MO:∀(f:FuncId)(w:World),fe dy (λw=>.go {frame:=Frame.enter P f #[] .early,callers:=(if(P.code? f).any P.plainData then(P.brought w (2*P.funcs.size+1) [f] []).drop 1 else []).map (Frame.enter P · #[] .early)++fr::callers,status:=.running,dying:=dy} w #[]) w:=by intro f w;refine .const rfl rfl ⟨h.ag9 (iw _ _ _ _) _ (XM _ _),rfl,rfl⟩ (λτ n=>?_);simp only[Nz];rfl
 have Sk:∀w,fe dy (λw=>match w.heap[g]? with
  |some (.pending c elem)=>.go {frame:=fr,callers,status:=.running,dying:=dy} {w with heap:=w.heap.setIfInBounds g (.cells c elem)}
  |_=>.ended (.stuck "early: the variable does not wait" (fr.pos P)) w) w:=λw=>Ng h
 have aaJ:∀w,fe dy (λw=>.ended (.unsupported (.initOrder g) (fr.pos P)) w) w:=λw=>eA;cases hp:P.follows .staticDataAhead with|false=>exact(Sk w).congr (λu=>by unfold early;simp only[hp,Bool.not_false,if_true]<;>rfl)|true=>
 cases hs:P.stepOf g with|none=>exact(aaJ w).congr (λu=>by unfold early;simp only[hp,hs,Bool.not_true,Bool.false_eq_true,if_false]<;>rfl)|some f=>
 cases h1:(P.code? f).any P.atRunTime with|true=>exact(Sk w).congr (λu=>by unfold early;simp only[hp,hs,h1,Bool.not_true,Bool.false_eq_true,if_false,if_true]<;>rfl)|false=>
 have nh:∀τ n,(((P.code? f).bind λc=>(readies c).getLast?).bind (w.re τ n).shape?).isSome=(((P.code? f).bind λc=>(readies c).getLast?).bind w.shape?).isSome:=λτ n=>rfl;cases h2:(((P.code? f).bind λc=>(readies c).getLast?).bind w.shape?).isSome with|true=>rw[h2]at nh;exact(Sk w).pW (by unfold early;simp only[hp,hs,h1,h2,Bool.not_true,Bool.false_eq_true,if_false,if_true]<;>rfl) (λτ n=>by unfold early;simp only[hp,hs,h1,nh,Bool.not_true,Bool.false_eq_true,if_false,if_true]<;>rfl)|false=>
 rw[h2]at nh;have Xk:=XL P w;cases hk:fr.kind==.early with
 |true=>cases h3:P.found w P.funcs.size f with|unknown=>exact(aaJ w).pW (by unfold early;simp only[hp,hs,h1,h2,h3,hk,Bool.not_true,Bool.false_eq_true,if_false]<;>rfl) (λτ n=>by unfold early;simp only[hp,hs,h1,nh,Xk,h3,hk,Bool.not_true,Bool.false_eq_true,if_false]<;>rfl)|notYet=>exact(aaJ w).pW (by unfold early;simp only[hp,hs,h1,h2,h3,hk,Bool.not_true,Bool.false_eq_true,if_false]<;>rfl) (λτ n=>by unfold early;simp only[hp,hs,h1,nh,Xk,h3,hk,Bool.not_true,Bool.false_eq_true,if_false]<;>rfl)|either=>exact(MO f w).pW (by unfold early;simp only[hp,hs,h1,h2,h3,hk,Bool.not_true,Bool.false_eq_true,if_false]<;>rfl) (λτ n=>by unfold early;simp only[hp,hs,h1,nh,Xk,h3,hk,Bool.not_true,Bool.false_eq_true,if_false]<;>rfl)
 |false=>
 cases h3:P.found w P.funcs.size f with
 |unknown=>exact(aaJ w).pW (by unfold early;simp only[hp,hs,h1,h2,h3,hk,Bool.not_true,Bool.false_eq_true,if_false]<;>rfl) (λτ n=>by unfold early;simp only[hp,hs,h1,nh,Xk,h3,hk,Bool.not_true,Bool.false_eq_true,if_false]<;>rfl)|notYet=>exact(Sk w).pW (by unfold early;simp only[hp,hs,h1,h2,h3,hk,Bool.not_true,Bool.false_eq_true,if_false]<;>rfl) (λτ n=>by unfold early;simp only[hp,hs,h1,nh,Xk,h3,hk,Bool.not_true,Bool.false_eq_true,if_false]<;>rfl)
 |either=>
 cases h4:(P.code? f).any P.plainData with|true=>exact(MO f w).pW (by unfold early;simp only[hp,hs,h1,h2,h3,hk,h4,Bool.not_true,Bool.false_eq_true,if_false,if_true]<;>rfl) (λτ n=>by unfold early;simp only[hp,hs,h1,nh,Xk,h3,hk,h4,Bool.not_true,Bool.false_eq_true,if_false,if_true]<;>rfl)|false=>
 cases h5:(P.code? f).any P.bareCopy with
 |false=>exact(Sk w).pW (by unfold early;simp only[hp,hs,h1,h2,h3,hk,h4,h5,Bool.not_false,Bool.not_true,Bool.false_eq_true,if_false,if_true]<;>rfl) (λτ n=>by unfold early;simp only[hp,hs,h1,nh,Xk,h3,hk,h4,h5,Bool.not_false,Bool.not_true,Bool.false_eq_true,if_false,if_true]<;>rfl)|true=>
 have cF:∀u:World,(choose (.early g)).run P u=.ok ((Question.early g).cut (u.tape u.drawn (.early g))) {u with drawn:=u.drawn+1}:=λu=>rfl;have hw2:=Sk {w with drawn:=w.drawn+1};have ht2:=MO f {w with drawn:=w.drawn+1};have key:∀u:World,(((P.code? f).bind λc=>(readies c).getLast?).bind u.shape?).isSome=false->P.found u P.funcs.size f=.either->early P fr callers dy g u=match(Question.early g).cut (u.tape u.drawn (.early g))with
   |0=>(λw:World=>match w.heap[g]? with
     |some (.pending c elem)=>.go {frame:=fr,callers,status:=.running,dying:=dy} {w with heap:=w.heap.setIfInBounds g (.cells c elem)}
     |_=>.ended (.stuck "early: the variable does not wait" (fr.pos P)) w) {u with drawn:=u.drawn+1}
   |_+1=>(λw:World=>.go {frame:=Frame.enter P f #[] .early,callers:=(if(P.code? f).any P.plainData then(P.brought w (2*P.funcs.size+1) [f] []).drop 1 else []).map (Frame.enter P · #[] .early)++fr::callers,status:=.running,dying:=dy} w #[]) {u with drawn:=u.drawn+1}:=by
  intro u q2 q3;unfold early;simp only[hp,hs,h1,q2,q3,hk,h4,h5,cF,Bool.not_true,Bool.false_eq_true,if_false];cases(Question.early g).cut (u.tape u.drawn (.early g))<;>rfl
 have k0:=key w h2 h3;have k1:=λτ n=>key (w.re τ n) (nh τ n) (by rw[Xk];exact h3);cases hcut:(Question.early g).cut (w.tape w.drawn (.early g))with
 |zero=>rw[hcut]at k0;dsimp only at k0;rcases hw2 with⟨k,i⟩|kp;refine .inl ⟨k+1,by rw[k0,i.drawn];show w.drawn+1+k=_;omega,by rw[k0,i.tape],by rw[k0];exact i.size,by rw[k0];exact i.low,by rw[k0];exact i.Yu,by rw[k0];exact i.kind,λτ n ha=>?_⟩;have e:τ n=w.tape w.drawn:=ha 0 (by omega);rw[k1 τ n,show(w.re τ n).tape (w.re τ n).drawn=τ n from rfl,e,hcut,k0];have:=i.same τ (n+1) (λj hj=>by have:=ha (j+1) (by omega);rw[show n+1+j=n+(j+1)by omega,this];show w.tape _=w.tape _;congr 1;show w.drawn+(j+1)=w.drawn+1+j;omega);rw[show n+(k+1)=n+1+k by omega];exact this;exact .inr (by rw[k0];exact kp)
 |succ c=>rw[hcut]at k0;dsimp only at k0;rcases ht2 with⟨k,i⟩|kp;refine .inl ⟨k+1,by rw[k0,i.drawn];show w.drawn+1+k=_;omega,by rw[k0,i.tape],by rw[k0];exact i.size,by rw[k0];exact i.low,by rw[k0];exact i.Yu,by rw[k0];exact i.kind,λτ n ha=>?_⟩;have e:τ n=w.tape w.drawn:=ha 0 (by omega);rw[k1 τ n,show(w.re τ n).tape (w.re τ n).drawn=τ n from rfl,e,hcut,k0];have:=i.same τ (n+1) (λj hj=>by have:=ha (j+1) (by omega);rw[show n+1+j=n+(j+1)by omega,this];show w.tape _=w.tape _;congr 1;show w.drawn+(j+1)=w.drawn+1+j;omega);rw[show n+(k+1)=n+1+k by omega];exact this;exact .inr (by rw[k0];exact kp)
def qH p fr callers dying m w:Qc (endFatal p fr callers dying m w):=by unfold endFatal;dsimp only;generalize Sem.run p _ w=r;cases r with|ok a w'=>exact .inr ⟨rfl,_,rfl,λh=>by cases h⟩|halt h w'=>cases h<;>exact trivial
def nk{P} fr callers{s}(hs:Nx P s) w(h:cm dy fr callers):fe dy (stepG.apply P true fr callers dy s) w:=by
 have hf:=h.todo;apply fe.run hs;case hf=>intro u;unfold stepG.apply;simp only[if_true];generalize s.runT P u #[]=x;exact rfl
 case hlost=>intro x w' es;exact trivial
 case hbody=>
 intro r es dR yN hbl;have hE:∀e∈seen P fr.fn (if(fr.kind==CallKind.early)=true then #[]else es),e∈es:=λe he=>by have:=zB _ _ _ e he;split at this;simp at this;exact this
 have hE0:∀e∈seen P fr.fn (if(fr.kind==CallKind.early)=true then #[]else(#[]:Array Event)),e∈es:=λe he=>by have:=zB _ _ _ e he;split at this<;>simp at this
 have hB:ab0 r->∀x,deafBehind x (seen P fr.fn (if(fr.kind==CallKind.early)=true then #[]else es))=x:=λlO x=>by by_cases hk:(fr.kind==CallKind.early)=true;rw[if_pos hk,eY _ _ (λe he=>by simp at he)];rfl;rw[if_neg hk,eY _ _ yN];exact hbl lO x
 have hB0:∀x,deafBehind x (seen P fr.fn (if(fr.kind==CallKind.early)=true then #[]else(#[]:Array Event)))=x:=λx=>by rw[ite_self,eY _ _ (λe he=>by simp at he)];rfl
 cases r with
 |ok n w'=>
 have hn:=dR n w' rfl;replace hB:=hB trivial;cases n;case value v=>exact .inr ⟨_,λu=>.go _ u #[],hE,hB,λ_ _=>rfl,rfl,fe.go (h.finish _) rfl rfl⟩
 case skip=>exact .inr ⟨_,λu=>.go _ u #[],hE,hB,λ_ _=>rfl,rfl,fe.go (h.finish _) rfl rfl⟩
 case enter f args=>exact .inr ⟨_,λu=>.go _ u #[],hE,hB,λ_ _=>rfl,rfl,fe.go (h.push (iw _ _ _ _)) rfl rfl⟩
 case round l f t a b=>exact .inr ⟨_,λu=>.go _ u #[],hE,hB,λ_ _=>rfl,rfl,fe.go (h.push (Ca _ _ _ _ _ _)) rfl rfl⟩
 case defer d=>exact .inr ⟨_,λu=>.go _ u #[],hE,hB,λ_ _=>rfl,rfl,fe.go ((h.same (fr':={fr with defers:=d::fr.defers}) rfl rfl).finish _) rfl rfl⟩
 case row row args=>
  dsimp only[Y1,wR];generalize pH:fr.todo=td;have hft:bH td:=pH▸hf;have b8:∀k,cm dy (Frame.ofRow P row args k) (fr::callers):=λk=>h.push (bH.cons hn .nil);rcases td with _|⟨i,k⟩;exact .inr ⟨_,λu=>.go _ u #[],hE,hB,λ_ _=>rfl,rfl,fe.go (b8 _) rfl rfl⟩;cases i;case extern r2 a2=>exact .inr ⟨_,λu=>.go _ u #[],hE,hB,λ_ _=>rfl,rfl,fe.go (h.with (fr':={fr with todo:=.extern row args::k}) (bH.cons hn hft.tail) rfl) rfl rfl⟩
  all_goals exact .inr ⟨_,λu=>.go _ u #[],hE,hB,λ_ _=>rfl,rfl,fe.go (b8 _) rfl rfl⟩
 case recover=>
  dsimp only[Y1,wR];generalize hx:tryRecover fr callers=x;generalize kK:fr.roundOf=ro;rcases ro with _|l;rcases x with _|⟨v,c⟩;exact .inr ⟨_,λu=>.go _ u #[],hE,hB,λ_ _=>rfl,rfl,fe.go (h.finish _) rfl rfl⟩;exact .inr ⟨_,λu=>.go _ u #[],hE,hB,λ_ _=>rfl,rfl,fe.go ((h.recover hx).finish _) rfl rfl⟩;dsimp only;have hy:∀v c,(if P.follows Departure.rangeFuncRecover=true then x else tryRecoverLoop l callers)=some (v,c)->cm dy fr c:=λv c h2=>by split at h2;exact h.recover (hx.trans h2);exact h.IY h2
  generalize(if P.follows Departure.rangeFuncRecover=true then x else tryRecoverLoop l callers)=y at hy|-;rcases y with _|⟨v,c⟩;exact .inr ⟨_,λu=>.go _ u #[],hE,hB,λ_ _=>rfl,rfl,fe.go (h.finish _) rfl rfl⟩;exact .inr ⟨_,λu=>.go _ u #[],hE,hB,λ_ _=>rfl,rfl,fe.go ((hy v c rfl).finish _) rfl rfl⟩
 case comm a b c=>exact .inr ⟨_,λu=>.comm _ _ _ _ u #[],hE,hB,λ_ _=>rfl,rfl,fe.const rfl rfl ⟨h,rfl,rfl⟩ (λ_ _=>rfl)⟩
 case coroswitch c b=>exact .inr ⟨_,λu=>.coroswitch _ _ _ u #[],hE,hB,λ_ _=>rfl,rfl,fe.const rfl rfl ⟨h,rfl,rfl,hn⟩ (λ_ _=>rfl)⟩
 case spawn d=>dsimp only[Y1,wR];generalize(P.follows Departure.goNilFatal&&_&&_&&_)=b;cases b;exact .inr ⟨_,λu=>.spawn _ _ u #[],hE,hB,λ_ _=>rfl,rfl,fe.const rfl rfl trivial (λ_ _=>rfl)⟩;exact .inl (dQ (.inr ⟨rfl,_,rfl,λh=>by cases h⟩))
 all_goals exact hn.elim
 |halt hh w'=>
 cases hh;case panic v=>exact .inr ⟨_,λu=>.go _ u #[],hE,hB trivial,λ_ _=>rfl,rfl,fe.go (h.raise _) rfl rfl⟩
 case goexit=>exact .inr ⟨_,λu=>.go _ u #[],hE,hB trivial,λ_ _=>rfl,rfl,fe.go (h.raise _) rfl rfl⟩
 case blocked=>exact .inl (dQ (.inl (.inl rfl)))
 case waiting=>exact .inl (dQ (.inl (.inr (.inl rfl))))
 case fatal m=>exact .inl (dQ (qH _ _ _ _ _ _))
 case throw m=>exact .inl (dQ (.inr ⟨rfl,_,rfl,λh=>by cases h⟩))
 case unsupported u=>
  cases u;case initOrder g=>exact .inr ⟨_,early P fr callers dy g,hE0,hB0,λ_ _=>rfl,rfl,SD _ _ _ _ h⟩
  all_goals exact .inl trivial
 all_goals exact .inl trivial
def Kf(c:Frame):Frame:=match c.mode with
 |.panicking ({recovered:=true,..}::ak6)=>
  match ak6.dropWhile (!·.goexit)with
  |[]=>{c with mode:=.returning}
  |rest=>{c with mode:=.panicking rest}
 |_=>c
def Ni c:(Kf c).todo=c.todo:=by unfold Kf;split;split<;>rfl;rfl
def Nj c:(Kf c).kind=c.kind:=by unfold Kf;split;split<;>rfl;rfl
def n9{P} fr callers v w(h:cm dy fr callers):fe dy (λw=>doReturn P true fr callers dy v w) w:=by
 cases callers with
 |cons c cs=>
 have hp:=h.pop;have h1:∀k,fr.kind=k->(k=.normal∨k=.wrapped)->fe dy (λw=>doReturn P true fr (c::cs) dy v w) w:=λk hk hh=>(fe.go (g:={frame:=c.finish v,callers:=cs,status:=.running,dying:=dy}) (hp.finish v) rfl rfl).congr (λu=>by unfold doReturn;rcases hh with rfl|rfl<;>simp only[hk]);cases hk:fr.kind;case normal=>exact h1 _ hk (.inl rfl)
 case wrapped=>exact h1 _ hk (.inr rfl)
 case early=>exact(fe.go (g:={frame:=c,callers:=cs,status:=.running,dying:=dy}) hp rfl rfl).congr (λu=>by unfold doReturn;simp only[hk])
 all_goals
  refine fe.congr (F':=λu=>.go {frame:=Kf c,callers:=cs,status:=.running,dying:=dy} u #[]) (fe.go (hp.same (Ni c) (Nj c)) rfl rfl) (λu=>by unfold doReturn;simp only[hk];rfl)
 |nil=>
 cases hk:fr.kind;case report=>
  cases dy with
  |none=>exact(eA (o:=.stuck "report: Error or String returned no string" "")).congr (λu=>by unfold doReturn;simp only[hk])|some d=>
  cases v;case string s=>refine .inr ?_;unfold doReturn;simp only[hk];exact .inr ⟨rfl,_,rfl,λh=>by cases h⟩
  all_goals exact(eA (o:=.stuck "report: Error or String returned no string" "")).congr (λu=>by unfold doReturn;simp only[hk])
 all_goals
  cases dy with
  |some d=>exact absurd (h.low rfl) (by show fr.kind≠_;rw[hk];simp)
  |none=>
   cases hi:P.inits.idxOf? fr.fn with
   |none=>exact(eA (o:=.done v)).congr (λu=>by unfold doReturn;simp only[hk,hi,Bool.not_true,Bool.false_eq_true,if_false])
   |some k=>exact(fe.go (g:={frame:=Frame.enter P (P.initFrom (k+1)) #[] .normal,callers:=[],status:=.running,dying:=none}) ⟨iw _ _ _ _,(λ_ h=>by cases h),λhd=>by cases hd⟩ rfl rfl).congr (λu=>by unfold doReturn;simp only[hk,hi,Bool.not_true,Bool.false_eq_true,if_false])
def rI{P fn es}:∀e∈seen P fn es,e∈es:=zB P fn es
def qL{P} fr callers jump w(h:cm dy fr callers) F (h0:fr.roundOf=none->(∀u,F u=.go {frame:={fr with mode:=.returning},callers,status:=.running,dying:=dy} u #[])∨∃o,∀u,F u=.ended o u) (h1:∀l,fr.roundOf=some l->∀u,F u=(match(Instr.endRound l jump).runT P u #[]with
   |(r,es)=>GStep.after (seen P fr.fn es) (match r with
    |.ok v w=>doReturn P true fr callers dy v w
    |.halt _ w=>.ended (.stuck "range over a function: no such loop" (fr.pos P)) w))):fe dy F w:=by
 cases hr:fr.roundOf with
 |none=>
  rcases h0 hr with hh|⟨o,hh⟩
  ·exact(fe.go (g:={frame:={fr with mode:=.returning},callers,status:=.running,dying:=dy}) (h.same rfl rfl) rfl rfl).congr hh
  ·exact eA.congr hh
 |some l=>
  refine fe.run (tO l jump) (λx=>match x with
   |(r,es)=>GStep.after (seen P fr.fn es) (match r with
    |.ok v w=>doReturn P true fr callers dy v w
    |.halt _ w=>.ended (.stuck "range over a function: no such loop" (fr.pos P)) w)) (h1 l hr) (λ_ _ _=>trivial) (λr es dR yN hb=>?_)
  cases r with
  |ok v w'=>exact .inr ⟨_,λu=>doReturn P true fr callers dy v u,rI,λx=>by rw[eY _ _ yN];exact hb trivial x,λ_ _=>rfl,rfl,n9 _ _ _ _ h⟩
  |halt hh w'=>exact .inl trivial
def Mg:Extern.next "runtime.print$piece" =some (Extern.PrintPieces.piece #[] #[]):=by kernel_rfl
def XG {P} (hB : bu P) fr callers w (h : cm dy fr callers) : fe dy (stepG.oper P true fr callers dy) w := by
  cases ho : fr.oper? with
  | none => exact (eA (o := .stuck "no operation here" (fr.pos P))).congr (λu => by unfold stepG.oper; simp only [ho])
  | some o =>
    have h0 : (∀ u, stepG.oper P true fr callers dy u = stepG.apply P true fr callers dy (execOp fr.eval o) u) -> fe dy (stepG.oper P true fr callers dy) w := λe => (nk fr callers (Ru hB _ _) w h).congr e
    cases hr : fr.roundOf with
    | none => exact h0 (λu => by unfold stepG.oper; simp only [ho, hr])
    | some l =>
      cases cI : o.op
      case defer c =>
        refine (nk (P := P) (s := do Instr.deferInRound l (<- resolve fr.eval c o.type); pure .skip) fr callers ?_ w h).congr (λu => by unfold stepG.oper; simp only [ho, hr, cI])
        exact dJ (nT _ _ _) λ_ => dJ (oE _ _) λ_ => trivial
      all_goals exact h0 (λu => by unfold stepG.oper; simp only [ho, hr, cI])
def XI{F w}(q:Question)(g:Nat->Goroutine)(hg:∀t,cm dy (g t).frame (g t).callers/\(g t).dying=dy/\(g t).status=.running)(h:∀u,F u=.go (g (q.cut (u.tape u.drawn q))) {u with drawn:=u.drawn+1} #[]):fe dy F w:=by refine .inl ⟨1,by rw[h];rfl,by rw[h];rfl,by rw[h];exact ν,by rw[h];simp[gE],by rw[h];exact λ_=>rfl,by rw[h];exact hg _,λτ n ha=>?_⟩;have e:τ n=w.tape w.drawn:=ha 0 (by omega);rw[h,h,show(w.re τ n).tape (w.re τ n).drawn=τ n from rfl,e];rfl
def XH {P} (hB : bu P) fr callers w (h : cm dy fr callers) : fe dy (stepG.exec P true true fr callers dy) w := by
  have Ka : ∀ fr' : Frame, bH fr'.todo -> fr'.kind = fr.kind -> (∀ u, stepG.exec P true true fr callers dy u = .go { frame := fr', callers, status := .running, dying := dy } u #[]) -> fe dy (stepG.exec P true true fr callers dy) w :=
    λfr' h1 h2 e => (fe.go (g := { frame := fr', callers, status := .running, dying := dy }) (h.with h1 h2) rfl rfl).congr e
  have hf := h.todo
  rcases pH : fr.todo with _ | ⟨it, k⟩
  · refine qL fr callers none w h _ (λhr => .inl λu => by unfold stepG.exec; simp only [pH, hr]; rfl) (λl hr u => by unfold stepG.exec; simp only [pH, hr]; rfl)
  have fR := hf
  rw [pH] at hf
  have hk := hf.tail
  cases it
  case code c =>
    cases c
    case skip => exact Ka { fr with todo := k } hk rfl (λu => by unfold stepG.exec; simp only [pH])
    case label l => exact Ka { fr with todo := k } hk rfl (λu => by unfold stepG.exec; simp only [pH])
    case ret => exact qL fr callers (some .ret) w h _ (λhr => .inl λu => by unfold stepG.exec; simp only [pH, hr]; rfl) (λl hr u => by unfold stepG.exec; simp only [pH, hr]; rfl)
    case seq a b => exact Ka { fr with todo := .code a :: .code b :: k } (bH.cons trivial (bH.cons trivial hk)) rfl (λu => by unfold stepG.exec; simp only [pH])
    case cond c a b =>
      cases gm : fr.eval c
      case bool t => exact Ka { fr with todo := .code (if t then a else b) :: k } (bH.cons trivial hk) rfl (λu => by unfold stepG.exec; simp only [pH, gm])
      all_goals exact (eA (o := .stuck "cond: bool expected" (fr.pos P))).congr (λu => by unfold stepG.exec; simp only [pH, gm])
    case block id b => exact Ka { fr with todo := .code b :: .inBlock id :: k } (bH.cons trivial (bH.cons trivial hk)) rfl (λu => by unfold stepG.exec; simp only [pH])
    case loop b => exact Ka { fr with todo := .code b :: .inLoop b :: k } (bH.cons trivial (bH.cons trivial hk)) rfl (λu => by unfold stepG.exec; simp only [pH])
    case scope b => exact Ka { fr with todo := .code b :: .inScope b :: k } (bH.cons trivial (bH.cons trivial hk)) rfl (λu => by unfold stepG.exec; simp only [pH])
    case exit id =>
      cases he : exitTo id k with
      | some k' => exact Ka { fr with todo := k' } (wu hk he) rfl (λu => by unfold stepG.exec; simp only [pH, he]; rfl)
      | none => exact qL fr callers (some (.exit id)) w h _ (λhr => .inr ⟨_, λu => by unfold stepG.exec; simp only [pH, he, hr]; rfl⟩) (λl hr u => by unfold stepG.exec; simp only [pH, he, hr]; rfl)
    case goto id =>
      cases he : gotoIn id k with
      | some k' => exact Ka { fr with todo := k' } (wm hk he) rfl (λu => by unfold stepG.exec; simp only [pH, he]; rfl)
      | none => exact qL fr callers (some (.goto id)) w h _ (λhr => .inr ⟨_, λu => by unfold stepG.exec; simp only [pH, he, hr]; rfl⟩) (λl hr u => by unfold stepG.exec; simp only [pH, he, hr]; rfl)
    case refuse why => exact (eA (o := .unsupported (Unsupported.elab why) (fr.pos P))).congr (λu => by unfold stepG.exec; simp only [pH])
    case region id ops draw =>
      cases draw with
      | false => exact Ka { fr with todo := .inRegion ops (List.range ops.size) :: k } (bH.cons trivial hk) rfl (λu => by unfold stepG.exec; simp only [pH, Bool.not_false, if_true])
      | true =>
        refine XI (.order fr.fn id) (λt => { frame := { fr with todo := .inRegion ops (Region.schedule (P.follows .mixedOrders) ops t) :: k }, callers, status := .running, dying := dy }) (λt => ⟨h.with (bH.cons trivial hk) rfl, rfl, rfl⟩) (λu => ?_)
        unfold stepG.exec
        simp only [pH]
        rfl
    case rangeFunc f params a b =>
      refine fe.run (sA fr.fn fr.tmps params a b fr.roundOf) (λx => match x with
        | (r, es) => GStep.after (seen P fr.fn es) (match r with
          | .ok (l, mark) w => stepG.apply P true { fr with todo := .inRangeFunc l :: k, defers := mark ++ fr.defers } callers dy (do
              let d <- resolve ({ fr with todo := .inRangeFunc l :: k, defers := mark ++ fr.defers } : Frame).eval { callee := .value f, args := #[.const (.func (.yield l) #[] #[])], argTypes := #[] } 0
              invoke d.target d.args) w
          | .halt _ w => .ended (.stuck "range over a function: no such loop" (fr.pos P)) w)) (λu => by unfold stepG.exec; simp only [pH]; rfl) (λ_ _ _ => trivial) (λr es dR yN hb => ?_)
      cases r with
      | ok x w' =>
        obtain ⟨l, mark⟩ := x
        refine .inr ⟨_, λu => stepG.apply P true { fr with todo := .inRangeFunc l :: k, defers := mark ++ fr.defers } callers dy (do
              let d <- resolve ({ fr with todo := .inRangeFunc l :: k, defers := mark ++ fr.defers } : Frame).eval { callee := .value f, args := #[.const (.func (.yield l) #[] #[])], argTypes := #[] } 0
              invoke d.target d.args) u, rI, λx => by rw [eY _ _ yN]; exact hb trivial x, λ_ _ => rfl, rfl, nk _ _ ?_ _ (h.with (bH.cons trivial hk) rfl)⟩
        exact dJ (nT _ _ _) λ_ => vJ hB _ _
      | halt hh w' => exact .inl trivial
  case inBlock id => exact Ka { fr with todo := k } hk rfl (λu => by unfold stepG.exec; simp only [pH])
  case inScope b => exact Ka { fr with todo := k } hk rfl (λu => by unfold stepG.exec; simp only [pH])
  case inLoop b => exact Ka { fr with todo := .code b :: .inLoop b :: k } (bH.cons trivial (bH.cons trivial hk)) rfl (λu => by unfold stepG.exec; simp only [pH])
  case inRegion ops l =>
    rcases l with _ | ⟨i, l⟩
    · exact Ka { fr with todo := k } hk rfl (λu => by unfold stepG.exec; simp only [pH])
    · cases hw : ((ops[i]?).map (Region.wanted · (yielded ops fr.tmps))).getD false with
      | true => exact (XG hB fr callers w h).congr (λu => by conv => lhs; unfold stepG.exec; simp only [pH, hw, if_true])
      | false => exact Ka (fr.finish undef) (xG fR _) (xE _ _) (λu => by unfold stepG.exec; simp only [pH, hw, Bool.false_eq_true, if_false])
  case inRangeFunc l => exact (eA (o := .unsupported (.noEntry "a range function without a Go body that blocks") (fr.pos P))).congr (λu => by unfold stepG.exec; simp only [pH])
  case beginRound =>
    refine (nk (P := P) (s := do fr.roundOf.elim (stuck "beginRound: no round") Instr.beginRound; pure .skip) fr callers ?_ w h).congr (λu => by unfold stepG.exec; simp only [pH])
    refine dJ ?_ λ_ => trivial
    cases fr.roundOf with
    | none => exact trivial
    | some l => exact qZ _
  case endRangeFunc l =>
    refine fe.run (vB l) (λx => match x with
        | (r, es) => GStep.after (seen P fr.fn es) (match r with
          | .ok jump w => .go { frame := { fr with todo := (jump.map Item.code).toList ++ k }, callers, status := .running, dying := dy } w
          | .halt (.panic v) w => .go { frame := fr.raise [{ v, recovered := false }], callers, status := .running, dying := dy } w
          | .halt _ w => .ended (.stuck "range over a function: no such loop" (fr.pos P)) w)) (λu => by unfold stepG.exec; simp only [pH]; rfl) (λ_ _ _ => trivial) (λr es dR yN hb => ?_)
    cases r with
    | ok jump w' =>
      refine .inr ⟨_, λu => .go { frame := { fr with todo := (jump.map Item.code).toList ++ k }, callers, status := .running, dying := dy } u #[], rI, λx => by rw [eY _ _ yN]; exact hb trivial x, λ_ _ => rfl, rfl, fe.go (h.with (fr' := { fr with todo := (jump.map Item.code).toList ++ k }) ?_ rfl) rfl rfl⟩
      cases jump with
      | none => exact hk
      | some c => exact bH.cons trivial hk
    | halt hh w' =>
      cases hh
      case panic v => exact .inr ⟨_, λu => .go { frame := fr.raise [{ v, recovered := false }], callers, status := .running, dying := dy } u #[], rI, λx => by rw [eY _ _ yN]; exact hb trivial x, λ_ _ => rfl, rfl, fe.go (h.raise _) rfl rfl⟩
      all_goals exact .inl trivial
  case call d wr re sv => exact (hf _ List.mem_cons_self).elim
  case extern row args =>
    have b8 : row = "runtime.print$piece" := hf _ List.mem_cons_self
    subst b8
    exact (nk fr callers (Ju #[] #[] args) w h).congr (λu => by unfold stepG.exec; simp only [pH, Mg]; rfl)
def vW{P}(hB:bu P) fr callers d w(h:cm dy fr callers):fe dy (λw=>callDeferred P fr callers dy d w) w:=by
 by_cases Sl:d.target=.nil/\∃c,fr.mode=.panicking c;refine(eA (o:=.unsupported (.noEntry "machine/Return: a deferred call of a nil function value, made while the frame is unwinding") (fr.pos P))).congr (λu=>?_);obtain⟨h1,c,h2⟩:=Sl;unfold callDeferred;rw[if_pos];simp[h1,h2];apply fe.run (vJ hB d.target d.args);case hf=>intro u;unfold callDeferred;rw[if_neg];generalize(invoke d.target d.args).runT P u #[]=x;exact rfl;intro hh;rw[Bool.and_eq_true]at hh;obtain⟨h1,h2⟩:=hh;refine Sl ⟨?_,?_⟩;revert h1;cases d.target<;>simp;revert h2;cases fr.mode<;>simp
 case hlost=>intro x w' es;exact trivial
 case hbody=>
 intro r es dR yN hbl;have hE:∀e∈seen P fr.fn es,e∈es:=rI;have hB:ab0 r->∀x,deafBehind x (seen P fr.fn es)=x:=λlO x=>by rw[eY _ _ yN];exact hbl lO x
 cases r with
 |ok n w'=>
 have hn:=dR n w' rfl;replace hB:=hB trivial;cases n;case enter f args=>exact .inr ⟨_,λu=>.go _ u #[],hE,hB,λ_ _=>rfl,rfl,fe.go (h.push (iw _ _ _ _)) rfl rfl⟩
 case round l f t a b=>exact .inr ⟨_,λu=>.go _ u #[],hE,hB,λ_ _=>rfl,rfl,fe.go (h.push (Ca _ _ _ _ _ _)) rfl rfl⟩
 case row row args=>exact .inr ⟨_,λu=>.go _ u #[],hE,hB,λ_ _=>rfl,rfl,fe.go (h.push (c:=Frame.ofRow P row args .deferred) (bH.cons hn .nil)) rfl rfl⟩
 case recover=>
  dsimp only[Y1,wR];generalize hx:tryRecover fr callers=x;generalize hm:fr.mode=m;cases m;case returning=>rcases x with _|⟨v,c⟩;exact .inr ⟨_,λu=>.go _ u #[],hE,hB,λ_ _=>rfl,rfl,fe.go h rfl rfl⟩;exact .inr ⟨_,λu=>.go _ u #[],hE,hB,λ_ _=>rfl,rfl,fe.go (h.recover hx) rfl rfl⟩
  all_goals rcases x with _|⟨v,c⟩<;>exact .inr ⟨_,λu=>.go _ u #[],hE,hB,λ_ _=>rfl,rfl,fe.go h rfl rfl⟩
 case coroswitch c b=>have hb:b=true:=hn;subst hb;exact .inr ⟨_,λu=>.coroswitch _ _ _ u #[],hE,hB,λ_ _=>rfl,rfl,fe.const rfl rfl ⟨h,rfl,rfl,rfl⟩ (λ_ _=>rfl)⟩
 case value v=>exact .inr ⟨_,λu=>.go _ u #[],hE,hB,λ_ _=>rfl,rfl,fe.go h rfl rfl⟩
 case skip=>exact .inr ⟨_,λu=>.go _ u #[],hE,hB,λ_ _=>rfl,rfl,fe.go h rfl rfl⟩
 case defer d=>exact .inr ⟨_,λu=>.go _ u #[],hE,hB,λ_ _=>rfl,rfl,fe.go h rfl rfl⟩
 case comm a b c=>exact .inr ⟨_,λu=>.go _ u #[],hE,hB,λ_ _=>rfl,rfl,fe.go h rfl rfl⟩
 case spawn d=>exact .inr ⟨_,λu=>.go _ u #[],hE,hB,λ_ _=>rfl,rfl,fe.go h rfl rfl⟩
 all_goals exact hn.elim
 |halt hh w'=>
 cases hh;case panic v=>exact .inr ⟨_,λu=>.go _ u #[],hE,hB trivial,λ_ _=>rfl,rfl,fe.go (h.raise _) rfl rfl⟩
 case goexit=>exact .inr ⟨_,λu=>.go _ u #[],hE,hB trivial,λ_ _=>rfl,rfl,fe.go (h.raise _) rfl rfl⟩
 case blocked=>exact .inl (dQ (.inl (.inl rfl)))
 case waiting=>exact .inl (dQ (.inl (.inr (.inl rfl))))
 case fatal m=>exact .inl (dQ (qH _ _ _ _ _ _))
 case throw m=>exact .inl (dQ (.inr ⟨rfl,_,rfl,λh=>by cases h⟩))
 all_goals exact .inl trivial
def Ak{P} fn tmps:Pl P (Go.results fn tmps):=by unfold Go.results;refine aL (Ao _ (λr=>?_) _) λvs=>trivial;cases r with|tmp t=>exact trivial|cell a t=>exact aL (kU _) λ_=>lh _ _
def BT{P}(hB:bu P) fr callers w(h:cm dy fr callers):fe dy (λw=>unwind P true fr callers dy w) w:=by
 have Ka:∀g:Goroutine,cm dy g.frame g.callers->g.dying=dy->g.status=.running->(∀u,unwind P true fr callers dy u=.go g u #[])->fe dy (λw=>unwind P true fr callers dy w) w:=λg h1 h2 h3 e=>(fe.go h1 h2 h3).congr e;rcases hd:fr.defers with _|⟨d,ds⟩;cases hm:fr.mode with
 |run=>exact(eA (o:=.stuck "unwind: the frame is running" (fr.pos P))).congr (λu=>by unfold unwind;simp only[hd,hm])|panicking chain=>
  cases hca:fr.catches P with
  |true=>exact(eA (o:=.unsupported (.noEntry "a panic or Goexit out of a method that fmt calls behind a cut's door") (fr.pos P))).congr (λu=>by unfold unwind;simp only[hd,hm,hca,if_true])|false=>
  cases callers with
  |cons c cs=>exact Ka {frame:=c.raise chain,callers:=cs,status:=.running,dying:=dy} (h.pop.raise _) rfl rfl (λu=>by unfold unwind;simp only[hd,hm,hca,Bool.false_eq_true,if_false])|nil=>
  refine .inr ?_;unfold unwind;cases dy with
  |none=>simp only[hd,hm,hca,Bool.false_eq_true,if_false];by_cases hg:chain.head?.any (·.goexit)=true;rw[if_pos hg];exact .inl (.inr (.inr rfl));rw[if_neg hg];generalize(reportChain chain false).run P w=r;cases r with|ok t w'=>exact .inr ⟨rfl,_,rfl,λh=>by cases h⟩|halt hh w'=>cases hh<;>exact trivial
  |some d=>simp only[hd,hm,hca,Bool.false_eq_true,if_false];split;unfold endPrinting;dsimp only;split;exact .inr ⟨rfl,_,rfl,λh=>by cases h⟩;exact trivial;exact trivial
 |returning=>
  cases hfn:P.funcs[fr.fn]? with
  |none=>exact(n9 (P:=P) fr callers (fr.tmps.getD 0 undef) w h).congr (λu=>by unfold unwind;simp only[hd,hm,hfn])|some fn=>
  refine fe.run (Ak fn fr.tmps) (λx=>match x with
   |(r,es)=>GStep.after (seen P fr.fn es) (match r with
    |.ok v w=>doReturn P true fr callers dy v w
    |.halt (.stuck s) w=>.ended (.stuck s (fr.pos P)) w
    |.halt _ w=>.ended (.stuck "return: the result variables cannot be read" (fr.pos P)) w)) (λu=>by unfold unwind;simp only[hd,hm,hfn];rfl) (λ_ _ _=>trivial) (λr es dR yN hb=>?_)
  cases r with|ok v w'=>exact .inr ⟨_,λu=>doReturn P true fr callers dy v u,rI,λx=>by rw[eY _ _ yN];exact hb trivial x,λ_ _=>rfl,rfl,n9 _ _ _ _ h⟩|halt hh w'=>cases hh<;>exact .inl trivial
 have h0:(∀u,unwind P true fr callers dy u=callDeferred P {fr with defers:=ds} callers dy d u)->fe dy (λw=>unwind P true fr callers dy w) w:=λe=>(vW hB {fr with defers:=ds} callers d w (h.same rfl rfl)).congr e;obtain⟨t,args⟩:=d;cases t;case collected b=>
  refine fe.run (oD b) (λx=>match x with
    |(r,es)=>GStep.after (seen P fr.fn es) (match r with
     |.ok calls w=>.go {frame:={fr with defers:=calls++ds},callers,status:=.running,dying:=dy} w
     |.halt _ w=>.ended (.stuck "the deferred calls of a range-over-func loop have been taken" (fr.pos P)) w)) (λu=>by unfold unwind;simp only[hd];rfl) (λ_ _ _=>trivial) (λr es dR yN hb=>?_)
  cases r with
  |ok v w'=>exact .inr ⟨_,λu=>.go {frame:={fr with defers:=v++ds},callers,status:=.running,dying:=dy} u #[],rI,λx=>by rw[eY _ _ yN];exact hb trivial x,λ_ _=>rfl,rfl,fe.go (h.same (fr':={fr with defers:=v++ds}) rfl rfl) rfl rfl⟩
  |halt hh w'=>exact .inl trivial
 all_goals exact h0 (λu=>by unfold unwind;simp only[hd])
def XF{P}(hB:bu P) g w(hd:∀d,g.dying=some d->d.calling=true)(h:cm g.dying g.frame g.callers):fe g.dying (stepG P true g) w:=by
 obtain⟨fr,cs,st,dy,off⟩:=g;have hx:∀d:Dying,dy=some d->d.calling=true:=hd;cases hm:fr.mode with
 |run=>exact(XH hB fr cs w h).congr (λu=>by cases dy with|none=>unfold stepG;simp only[hm]|some d=>obtain⟨a1,a2,a3,a4,a5,a6,a7⟩:=d;obtain rfl:a3=true:=hx _ rfl;unfold stepG;simp only[hm])
 |returning=>exact(BT hB fr cs w h).congr (λu=>by cases dy with|none=>unfold stepG;simp only[hm]|some d=>obtain⟨a1,a2,a3,a4,a5,a6,a7⟩:=d;obtain rfl:a3=true:=hx _ rfl;unfold stepG;simp only[hm])
 |panicking c=>exact(BT hB fr cs w h).congr (λu=>by cases dy with|none=>unfold stepG;simp only[hm]|some d=>obtain⟨a1,a2,a3,a4,a5,a6,a7⟩:=d;obtain rfl:a3=true:=hx _ rfl;unfold stepG;simp only[hm])
end Tp
namespace Rn
open Tp (rI gE gW)
section
variable{P:Program}{E:Env}{X:List Nat}
def QX(E:Env):Operand->Prop
 |.tmp _=>True|.const v=>Clean v|.func f=>E.F f|.global _=>False
def YJ(E:Env)(o:Oper):Prop:=match o.op with
 |.send ch x=>QX E ch/\QX E x
 |.recv _ ch _=>QX E ch
 |.call c=>c.callee=.builtin .close/\∃x,c.args=#[x]/\QX E x
 |.go c=>(∃x,c.callee=.value x/\QX E x)/\c.args=#[]
 |_=>False
def OpX(P:Program)(E:Env)(o:Oper):Prop:=o.guard=none/\(abU P E (QX E) o∨YJ E o)
def gr(P:Program)(E:Env):Code->Prop
 |.region _ ops _=>∀o∈ops,OpX P E o|.seq a b=>gr P E a/\gr P E b|.cond c a b=>QX E c/\gr P E a/\gr P E b|.block _ b|.loop b=>gr P E b|.exit _|.ret|.skip|.refuse _=>True|_=>False
def jh(P:Program)(E:Env):Item->Prop
 |.code c=>gr P E c|.inBlock _=>True|.inLoop b=>gr P E b|.inRegion ops _=>∀o∈ops,OpX P E o|_=>False
def fx(P:Program)(E:Env)(l:List Item):Prop:=∀x∈l,jh P E x
structure y6(P:Program)(E:Env)(X:List Nat)(fr fr':Frame):Prop where
 fn:fr'.fn=fr.fn
 todo:fr'.todo=fr.todo
 ok:fx P E fr.todo
 tmps:VA E X fr.tmps fr'.tmps
 defers:fr.defers=[]/\fr'.defers=[]
 mode:fr'.mode=fr.mode
 live:fr.mode=.run∨fr.mode=.returning
 kind:fr'.kind=fr.kind
 round:fr.roundOf=none/\fr'.roundOf=none
theorem y6.app{fr fr'}(h:y6 P E X fr fr') Y:y6 P E (X++Y) fr fr':=⟨h.fn,h.todo,h.ok,h.tmps.app Y,h.defers,h.mode,h.live,h.kind,h.round⟩
def y6.eval{fr fr'}(h:y6 P E X fr fr'):∀x,QX E x->V E X (fr.eval x) (fr'.eval x):=by
 intro x hx;cases x with
 |tmp t=>show V E X (fr.tmps.getD t undef) (fr'.tmps.getD t undef);rw[Array.getD_eq_getD_getElem?,Array.getD_eq_getD_getElem?];rcases h.tmps.get t with⟨v,v',e1,e2,hv⟩|⟨e1,e2⟩;rw[e1,e2];exact hv;rw[e1,e2];exact V.eH (VA.empty X)
 |const v=>exact Clean.self hx X|func f=>exact .func f #[] #[] #[] #[] hx rfl (λi v v' h=>by simp at h) rfl (λi v v' h=>by simp at h)
 |global g=>exact hx.elim
def fx.tail{x k}(h:fx P E (x::k)):fx P E k:=λy hy=>h y (List.mem_cons_of_mem _ hy)
def fx.head{x k}(h:fx P E (x::k)):jh P E x:=h x List.mem_cons_self
def fx.cons{x k}(h:jh P E x)(hk:fx P E k):fx P E (x::k):=λy hy=>by rcases List.mem_cons.1 hy with rfl|hy;exact h;exact hk y hy
def y6.to{fr fr'}(h:y6 P E X fr fr') k(hk:fx P E k):y6 P E X {fr with todo:=k} {fr' with todo:=k}:=⟨h.fn,rfl,hk,h.tmps,h.defers,h.mode,h.live,h.kind,h.round⟩
def y6.finish{fr fr'}(h:y6 P E X fr fr'){v v'}(hv:V E X v v'):y6 P E X (fr.finish v) (fr'.finish v'):=by
 obtain⟨h1,h2,h3,h4,h5,h6,h7,h8,h9⟩:=h;obtain⟨fn,tmps,todo,defers,mode,kind,round⟩:=fr;obtain⟨fn',awp,akO,apm,awz,awA,ass⟩:=fr';dsimp only at h1 h2 h3 h4 h5 h6 h7 h8 h9;subst h1 h2 h6 h8;obtain⟨rfl,rfl⟩:=h5;obtain⟨rfl,rfl⟩:=h9;unfold Frame.finish;dsimp only;cases akO with
 |nil=>exact⟨rfl,rfl,h3,h4,⟨rfl,rfl⟩,rfl,h7,rfl,⟨rfl,rfl⟩⟩|cons x k=>
 cases x with
 |inRegion ops l=>cases l with|nil=>exact⟨rfl,rfl,h3,h4,⟨rfl,rfl⟩,rfl,h7,rfl,⟨rfl,rfl⟩⟩|cons i l=>refine⟨rfl,rfl,fx.cons (show jh P E (.inRegion ops l)from h3.head) h3.tail,?_,⟨rfl,rfl⟩,rfl,h7,rfl,⟨rfl,rfl⟩⟩;dsimp only;cases(ops[i]?).bind (·.dst)with|none=>exact h4|some d=>exact h4.set d hv
 |code c=>exact⟨rfl,rfl,h3,h4,⟨rfl,rfl⟩,rfl,h7,rfl,⟨rfl,rfl⟩⟩|inBlock c=>exact⟨rfl,rfl,h3,h4,⟨rfl,rfl⟩,rfl,h7,rfl,⟨rfl,rfl⟩⟩
 |inLoop c=>exact⟨rfl,rfl,h3,h4,⟨rfl,rfl⟩,rfl,h7,rfl,⟨rfl,rfl⟩⟩|_=>exact h3.head.elim
inductive KZ(P:Program)(E:Env)(X:List Nat):List Frame->List Frame->Prop
 |nil:KZ P E X [] []
 |cons {c c':Frame} {cs fu:List Frame} (h:y6 P E X c c') (hs:KZ P E X cs fu):KZ P E X (c::cs) (c'::fu)
def KZ.app{cs fu}(h:KZ P E X cs fu) Y:KZ P E (X++Y) cs fu:=by induction h with|nil=>exact .nil|cons h _ ih=>exact .cons (h.app Y) ih
def wall:Frame:={fn:=0,tmps:=#[],todo:=[.code (.refuse "")],defers:=[],mode:=.run,kind:=.normal}
structure yz(g:Goroutine):Prop where
 run:g.status=.running
 dy:g.dying=none
 defers:g.frame.defers=[]/\∀c∈g.callers,c.defers=[]
 bad:(∃ch,g.frame.mode=.panicking ch)∨(g.frame.mode=.run/\∃why k,g.frame.todo=.code (.refuse why)::k)
structure GR(P:Program)(E:Env)(X:List Nat)(R:List Frame)(g g':Goroutine):Prop where
 run:g.status=.running/\g'.status=.running
 dy:g.dying=none/\g'.dying=none
 frame:y6 P E X g.frame g'.frame
 callers:∃cs fu,g.callers=cs++[wall]/\g'.callers=fu++R/\KZ P E X cs fu
def KZ.defers{cs fu}(h:KZ P E X cs fu):∀c∈cs,c.defers=[]:=by
 induction h with
 |nil=>intro c hc;cases hc
 |cons h _ ih=>intro c hc;rcases List.mem_cons.1 hc with rfl|hc;exact h.defers.1;exact ih c hc
def Bad(g:Goroutine):Prop:=yz g∨g.status≠.running∨g.dying≠none
def CE(P:Program)(E:Env)(Sh:Nat->Prop)(X:List Nat)(R:List Frame)(w:World)(r r':GStep):Prop:=match r with
 |.go g1 v1 _=>Bad g1∨∃Y XK w1 iy,r'=.go XK w1 iy/\GR P E (X++Y) R g1 XK/\Out E Sh X w Y v1 w1/\∀e∈iy,TE (X++Y) Sh e
 |.ended _ _ _=>True
 |_=>False
def Qc.acg{Sh R w r r'}(h:Tp.Qc r):CE P E Sh X R w r r':=by
 cases r with
 |go g v es=>rcases h with h|⟨h1,d,h2,_⟩;exact .inl (.inr (.inl (by rcases h with h|h|h<;>rw[h]<;>simp)));exact .inl (.inr (.inr (by rw[h2];simp)))
 |ended o v es=>exact trivial|_=>exact h.elim
def KZ.clean{cs fu}(h:KZ P E X cs fu):∀c∈cs++[wall],c.defers=[]:=by intro c hc;rcases List.mem_append.1 hc with h1|h1;exact h.defers c h1;rw[List.mem_singleton]at h1;subst h1;rfl
def nQ(fr:Frame) l:(fr.raise l).defers=fr.defers:=by unfold Frame.raise;split<;>rfl
def raise_mode(fr:Frame) l:∃ch,(fr.raise l).mode=.panicking ch:=by unfold Frame.raise;split<;>exact⟨_,rfl⟩
def AW{fr fr' cs fu}(fR:y6 P E X fr fr')(dL:KZ P E X cs fu) l:yz {frame:=fr.raise l,callers:=cs++[wall],status:=.running,dying:=none}:=⟨rfl,rfl,⟨by rw[nQ];exact fR.defers.1,dL.clean⟩,.inl (raise_mode fr l)⟩
def VA.replicate n:VA E X (Array.replicate n undef) (Array.replicate n undef):=⟨rfl,λi v v' h1 h2=>by rw[h1]at h2;cases h2;rw[Array.getElem?_replicate]at h1;split at h1;cases h1;exact V.eH (VA.empty X);cases h1⟩
def y6.enter(hF:∀f fn b,E.F f->P.funcs[f]? =some fn->fn.body=some b->gr P E b) f(hf:E.F f){a a'}(ha:VA E X a a') k k'(hk:k'=k):y6 P E X (Frame.enter P f a k) (Frame.enter P f a' k'):=by
 subst hk;refine⟨rfl,rfl,?_,?_,⟨rfl,rfl⟩,rfl,.inl rfl,rfl,⟨rfl,rfl⟩⟩;refine fx.cons ?_ (λ_ h=>by cases h);show gr P E _;cases h1:P.funcs[f]? with|none=>exact trivial|some fn=>cases h2:fn.body with|none=>simp only[Option.bind_some,h2];exact trivial|some b=>simp only[Option.bind_some,h2];exact hF f fn b hf h1 h2
 show VA E X (a++Array.replicate _ undef) (a'++Array.replicate _ undef);rw[<-ha.size];exact ha.append (VA.replicate _)
def abE{Sh}(hF:∀f fn b,E.F f->P.funcs[f]? =some fn->fn.body=some b->gr P E b)(hB:Zh P E){R fr fr' cs fu s s'}(hs:RG P E (NX E) X s s')(fR:y6 P E X fr fr')(dL:KZ P E X cs fu){v w}(hw:WR E Sh X v w):CE P E Sh X R w (stepG.apply P true fr (cs++[wall]) none s v) (stepG.apply P true fr' (fu++R) none s' w):=by
 unfold stepG.apply;simp only[if_true];rcases hs.run #[] #[] hw with⟨h,v',es,oP,hr⟩|⟨a,v1,yX,Y,a',w1,uD,r1,r2,r3,r4,r5⟩;rw[hr];cases h with
 |panic x=>exact .inl (.inl (AW fR dL _))|goexit=>exact .inl (.inl (AW fR dL _))
 |blocked=>exact .inl (.inr (.inl (by simp)))|waiting=>exact .inl (.inr (.inl (by simp)))
 |exit c=>exact trivial|fatal m=>exact Qc.acg (Tp.dQ (Tp.qH _ _ _ _ _ _))
 |throw m=>exact Qc.acg (Tp.dQ (.inr ⟨rfl,_,rfl,λh=>by cases h⟩))|unsupported u=>cases u<;>first|exact trivial|exact oP.elim
 |stuck m=>exact trivial
 rw[r1,r2];have gm:∀(e:Event)(b:Bool),e∈seen P fr'.fn (if b=true then #[]else uD)->TE (X++Y) Sh e:=by intro e b he;have:=rI _ he;split at this;simp at this;rcases r5 e this with h|h;simp at h;exact h
 have aaX:=fR.app Y;have ait:=dL.app Y;cases r3 with|value x x' hx=>exact .inr ⟨Y,_,w1,_,rfl,⟨⟨rfl,rfl⟩,⟨rfl,rfl⟩,aaX.finish hx,cs,fu,rfl,rfl,ait⟩,r4,λe he=>gm e (fr'.kind==.early) (by rwa[Array.append_empty]at he)⟩|skip=>exact .inr ⟨Y,_,w1,_,rfl,⟨⟨rfl,rfl⟩,⟨rfl,rfl⟩,aaX.finish (V.eH (VA.empty _)),cs,fu,rfl,rfl,ait⟩,r4,λe he=>gm e (fr'.kind==.early) (by rwa[Array.append_empty]at he)⟩|enter f a a' hf ha=>refine .inr ⟨Y,_,w1,_,rfl,⟨⟨rfl,rfl⟩,⟨rfl,rfl⟩,?_,fr::cs,fr'::fu,rfl,rfl,.cons aaX ait⟩,r4,λe he=>gm e (fr'.kind==.early) (by rwa[Array.append_empty]at he)⟩;exact y6.enter hF f hf ha _ _ (by rw[aaX.todo])
def fL{Sh R v w}(hw:WR E Sh X v w){fr fr' cs fu}(fR:y6 P E X fr fr')(dL:KZ P E X cs fu):CE P E Sh X R w (.go {frame:=fr,callers:=cs++[wall],status:=.running,dying:=none} v #[]) (.go {frame:=fr',callers:=fu++R,status:=.running,dying:=none} w #[]):=.inr ⟨[],_,w,_,rfl,by rw[List.append_nil];exact⟨⟨rfl,rfl⟩,⟨rfl,rfl⟩,fR,cs,fu,rfl,rfl,dL⟩,.refl hw,λe he=>by simp at he⟩
theorem Cg{id}:∀ {k k':List Item},exitTo id k=some k'->fx P E k->fx P E k'
 |[],_,h,_=>by cases h
 |it::k,k',h,hk=>by unfold exitTo at h;split at h;rename_i hh;cases hh;split at h;cases h;exact hk.tail;exact Cg h hk.tail;rename_i hh;cases hh;exact Cg h hk.tail;cases h
def run_choose{Sh} q{v w}(hw:WR E Sh X v w):∃t v1 w1,(choose q).run P v=.ok t v1/\(choose q).run P w=.ok t w1/\Out E Sh X w [] v1 w1:=by
 rcases(mW (P:=P) (E:=E) (X:=X) q).run #[] #[] hw with⟨h,v',es,oP,hr⟩|⟨a,v1,yX,Y,a',w1,uD,r1,r2,r3,r4,r5⟩;rw[Sem.runT_eq]at hr;have:(choose q).run P v=.halt h v':=(Prod.mk.inj hr).1;unfold choose at this;rw[Sem.run]at this;split at this<;>cases this;rw[Sem.runT_eq]at r1 r2;obtain⟨rY,rfl⟩:=r3;have:Y=[]:=by simpa using rY
 subst this;exact⟨a,v1,w1,(Prod.mk.inj r1).1,(Prod.mk.inj r2).1,r4⟩
def aiY{Sh}(hF:∀f fn b,E.F f->P.funcs[f]? =some fn->fn.body=some b->gr P E b)(hB:Zh P E)(hG:P.globals.size<=E.G){R fr fr' cs fu}(fR:y6 P E X fr fr')(dL:KZ P E X cs fu)(hm:fr.mode=.run) (hT:∀ops i l k o,fr.todo=.inRegion ops (i::l)::k->ops[i]? =some o->¬YJ E o) {v w} (hw:WR E Sh X v w) b b':CE P E Sh X R w (stepG.exec P b true fr (cs++[wall]) none v) (stepG.exec P b' true fr' (fu++R) none w):=by
 have JL:=fR.todo;have dR:=fR.ok;unfold stepG.exec;simp only[JL];cases ht:fr.todo with
 |nil=>simp only[fR.round.1,fR.round.2];refine fL hw ⟨fR.fn,rfl,(λ_ h=>by cases h),fR.tmps,fR.defers,rfl,.inr rfl,fR.kind,⟨rfl,rfl⟩⟩ dL|cons x k=>
 rw[ht]at dR;have hk:=dR.tail;cases x with
 |code c=>
  have hc:gr P E c:=dR.head;cases c with
  |ret=>simp only[fR.round.1,fR.round.2];refine fL hw ⟨fR.fn,rfl,dR,fR.tmps,fR.defers,rfl,.inr rfl,fR.kind,⟨rfl,rfl⟩⟩ dL|skip=>exact fL hw (fR.to k hk) dL
  |seq a b=>exact fL hw (fR.to _ (.cons (show jh P E (.code a)from hc.1) (.cons (show jh P E (.code b)from hc.2) hk))) dL|cond x a b=>
   have hx:=fR.eval x hc.1;dsimp only;revert hx;generalize fr.eval x=y;generalize fr'.eval x=y';intro hx;cases hx with
   |bool t=>refine fL hw (fR.to _ (.cons ?_ hk)) dL;cases t;exact hc.2.2;exact hc.2.1
   |_=>exact trivial
  |block id b=>exact fL hw (fR.to _ (.cons (show jh P E (.code b)from hc) (.cons (show jh P E (.inBlock id)from trivial) hk))) dL|loop b=>exact fL hw (fR.to _ (.cons (show jh P E (.code b)from hc) (.cons (show jh P E (.inLoop b)from hc) hk))) dL
  |exit id=>cases he:exitTo id k with|none=>simp only[fR.round.1,fR.round.2,he,Option.elim_none,Bool.false_eq_true,if_false];exact trivial|some k'=>simp only[he,Option.elim_some];exact fL hw (fR.to _ (Cg he hk)) dL
  |refuse why=>exact trivial|region id ops draw=>dsimp only;cases draw with|false=>exact fL hw (fR.to _ (.cons (show jh P E (.inRegion ops _)from hc) hk)) dL|true=>obtain⟨t,v1,w1,h1,h2,h3⟩:=run_choose (P:=P) (.order fr.fn id) hw;simp only[Bool.not_true,Bool.false_eq_true,if_false];rw[show Question.order fr'.fn id=.order fr.fn id by rw[fR.fn],h1,h2];dsimp only;refine .inr ⟨[],_,w1,_,rfl,?_,h3,λe he=>by simp at he⟩;rw[List.append_nil];exact⟨⟨rfl,rfl⟩,⟨rfl,rfl⟩,fR.to _ (.cons (show jh P E (.inRegion ops _)from hc) hk),cs,fu,rfl,rfl,dL⟩
  |scope b=>exact hc.elim|label l=>exact hc.elim
  |goto l=>exact hc.elim|rangeFunc a b c d=>exact hc.elim
 |inBlock id=>exact fL hw (fR.to k hk) dL|inLoop b=>exact fL hw (fR.to _ (.cons (show jh P E (.code b)from dR.head) (.cons (show jh P E (.inLoop b)from dR.head) hk))) dL
 |inRegion ops l=>
  have aty:∀o∈ops,OpX P E o:=dR.head;cases l with
  |nil=>exact fL hw (fR.to k hk) dL|cons i l=>
  dsimp only;cases hi:ops[i]? with
  |none=>simp only[Option.map_none,Option.getD_none,Bool.false_eq_true,if_false];exact fL hw (fR.finish (V.eH (VA.empty _))) dL|some o=>
  have hox:=aty o (Array.mem_of_getElem? hi);have Wt:∀y,Region.wanted o y=true:=λy=>by unfold Region.wanted;rw[hox.1]
  simp only[Option.map_some,Option.getD_some,Wt,if_true];have hoo:abU P E (QX E) o:=by rcases hox.2 with h|h;exact h;exact absurd h (hT ops i l k o ht hi)
  have Y6:fr.oper? =some o:=by unfold Frame.oper?;rw[ht];exact hi
  have ho2:fr'.oper? =some o:=by unfold Frame.oper?;rw[JL,ht];exact hi
  unfold stepG.oper;simp only[Y6,ho2,fR.round.1,fR.round.2];exact abE hF hB (QF hB hG fR.eval o hoo) fR dL hw
 |_=>exact dR.head.elim
theorem OB{γ} f f'(hf:∀a,RE P E (V E X) X (f a) (f' a)):∀l:List γ,RE P E (λr r'=>VA E X r.toArray r'.toArray) X (l.mapM f) (l.mapM f')
 |[]=>by rw[List.mapM_nil,List.mapM_nil];exact aA (VA.empty X)|a::l=>by rw[List.mapM_cons,List.mapM_cons];refine az (hf a) λv v' hv=>az (OB f f' hf l) λr r' hr=>aA ?_;have:=(VA.one hv).append hr;simpa using this
def LM fn{a a'}(ha:VA E X a a'):RE P E (V E X) X (results fn a) (results fn a'):=by
 have kM:∀t,V E X (a.getD t undef) (a'.getD t undef):=λt=>by rw[Array.getD_eq_getD_getElem?,Array.getD_eq_getD_getElem?];rcases ha.get t with⟨v,v',e1,e2,hv⟩|⟨e1,e2⟩;rw[e1,e2];exact hv;rw[e1,e2];exact V.eH (VA.empty X)
 unfold results;rw[Array.mapM_eq_mapM_toList,Array.mapM_eq_mapM_toList];refine az (R:=VA E X) (az (OB _ _ (λr=>?_) _) λr r' hr=>aA hr) λr r' hr=>?_;cases r with|tmp t=>exact aA (kM t)|cell a t=>exact az (Eo (kM a)) λb b' hb=>zZ hb t
 refine aA ?_;by_cases h1:r.size=1;have h2:r'.size=1:=by rw[<-hr.size];exact h1
 rw[dif_pos h1,dif_pos h2];exact hr.el 0 _ _ (Array.getElem?_eq_getElem (by omega)) (Array.getElem?_eq_getElem (by omega));have h2:¬r'.size=1:=by rw[<-hr.size];exact h1
 rw[dif_neg h1,dif_neg h2];exact V.eH hr
def mO:yz {frame:=wall,callers:=[],status:=.running,dying:=none}:=⟨rfl,rfl,⟨rfl,λ_ h=>by cases h⟩,.inr ⟨rfl,_,_,rfl⟩⟩
def Cl{Sh R fr fr' cs fu}(fR:y6 P E X fr fr')(dL:KZ P E X cs fu){v w}(hw:WR E Sh X v w){x x'}(hx:V E X x x') b b':CE P E Sh X R w (doReturn P b fr (cs++[wall]) none x v) (doReturn P b' fr' (fu++R) none x' w):=by
 unfold doReturn;rw[fR.kind];cases dL with
 |nil=>simp only[List.nil_append];cases fr.kind with|normal=>exact .inl (.inl mO)|wrapped=>exact .inl (.inl mO)|early=>exact .inl (.inl mO)|deferred=>exact .inl (.inl mO)|report=>exact .inl (.inl mO)
 |@cons c c' cs fu hc dL=>
 simp only[List.cons_append];cases fr.kind with
 |normal=>exact fL hw (hc.finish hx) dL|wrapped=>exact fL hw (hc.finish hx) dL
 |early=>exact fL hw hc dL|deferred=>rcases hc.live with h1|h1<;>(have h2:=hc.mode.trans h1;simp only[h1,h2];exact fL hw hc dL)
 |report=>rcases hc.live with h1|h1<;>(have h2:=hc.mode.trans h1;simp only[h1,h2];exact fL hw hc dL)
def Uu{Sh R fr fr' cs fu}(fR:y6 P E X fr fr')(dL:KZ P E X cs fu)(hm:fr.mode=.returning){v w}(hw:WR E Sh X v w) b b':CE P E Sh X R w (unwind P b fr (cs++[wall]) none v) (unwind P b' fr' (fu++R) none w):=by
 have hm':fr'.mode=.returning:=fR.mode.trans hm;unfold unwind;simp only[fR.defers.1,fR.defers.2,hm,hm',fR.fn];cases hf:P.funcs[fr.fn]? with
 |none=>refine Cl fR dL hw ?_ b b';rw[Array.getD_eq_getD_getElem?,Array.getD_eq_getD_getElem?];rcases fR.tmps.get 0 with⟨v,v',e1,e2,hv⟩|⟨e1,e2⟩;rw[e1,e2];exact hv;rw[e1,e2];exact V.eH (VA.empty X)
 |some fn=>
 dsimp only;rcases(LM (P:=P) fn fR.tmps).run #[] #[] hw with⟨h,v',es,oP,hr⟩|⟨a,v1,yX,Y,a',w1,uD,r1,r2,r3,r4,r5⟩;rw[hr];cases h<;>exact trivial;obtain⟨hY,ha⟩:=r3;have:Y=[]:=by simpa using hY
 subst this;rw[r1,r2];rw[List.append_nil]at r5;have Wu:WR E Sh X v1 w1:=by have:=r4.rel;rwa[List.append_nil]at this
 have hr:=Cl (R:=R) fR dL Wu ha b b';dsimp only;generalize doReturn P b fr (cs++[wall]) none a v1=q at hr;generalize doReturn P b' fr' (fu++R) none a' w1=q' at hr;cases q with
 |go g0 u0 e0=>rcases hr with hr|⟨Y2,XK,w2,e2,rfl,h2,h3,h4⟩;exact .inl hr;refine .inr ⟨Y2,XK,w2,_,rfl,h2,by simpa using r4.trans (by simpa using h3),λe he=>?_⟩;rcases Array.mem_append.1 he with h5|h5;rcases r5 e (rI _ h5)with h6|h6;simp at h6;exact h6.app Y2;exact h4 e h5
 |ended o u0 e0=>exact trivial|_=>exact hr.elim
def UW{Sh}(hF:∀f fn b,E.F f->P.funcs[f]? =some fn->fn.body=some b->gr P E b)(hB:Zh P E)(hG:P.globals.size<=E.G){R g g'}(h:GR P E X R g g') (hT:g.frame.mode=.run->∀ops i l k o,g.frame.todo=.inRegion ops (i::l)::k->ops[i]? =some o->¬YJ E o) {v w} (hw:WR E Sh X v w) b b':CE P E Sh X R w (stepG P b g v) (stepG P b' g' w):=by
 obtain⟨fr,cs,st,dy,off⟩:=g;obtain⟨fr',fu,st',dy',ahx⟩:=g';obtain⟨h1,⟨rfl,rfl⟩,h3,⟨ds,ds',rfl,rfl,h4⟩⟩:=h;rcases h3.live with hm|hm;replace hm:fr.mode=.run:=hm;have hm':fr'.mode=.run:=h3.mode.trans hm;have e1:stepG P b ⟨fr,ds++[wall],st,none,off⟩ v=stepG.exec P b true fr (ds++[wall]) none v:=by unfold stepG;simp only[hm]
 have e2:stepG P b' ⟨fr',ds'++R,st',none,ahx⟩ w=stepG.exec P b' true fr' (ds'++R) none w:=by unfold stepG;simp only[hm']
 rw[e1,e2];exact aiY hF hB hG h3 h4 hm (hT hm) hw b b';replace hm:fr.mode=.returning:=hm;have hm':fr'.mode=.returning:=h3.mode.trans hm;have e1:stepG P b ⟨fr,ds++[wall],st,none,off⟩ v=unwind P b fr (ds++[wall]) none v:=by unfold stepG;simp only[hm]
 have e2:stepG P b' ⟨fr',ds'++R,st',none,ahx⟩ w=unwind P b' fr' (ds'++R) none w:=by unfold stepG;simp only[hm']
 rw[e1,e2];exact Uu h3 h4 hm hw b b'
end
end Rn
namespace Tp
open Go.Conc
def j7(gs:Array Goroutine):Prop:=∀r b,partners gs r b=[]
def pA:j7 #[ph]:=λr b=>by simp[partners,ph]
def Qg{gs gs'}(h:j7 gs)(h':j7 gs') w c:ways w gs c=ways w gs' c:=by unfold ways;simp only[h _ _,h' _ _]
def jA:Way->Prop
 |.partner _ _=>False|_=>True
def xN{gs}(h:j7 gs) w c:∀x∈ways w gs c,jA x:=by
 unfold ways;simp only[h _ _];intro x hx;revert hx;repeat' split
 all_goals (intro hx;simp at hx;try(subst hx;exact trivial))
abbrev Vh:Rest:={timers:=#[],alone:=none,slice:=none}
def xO sl mono cases:timerAhead {timers:=#[],alone:=none,slice:=sl} mono cases=false:=by unfold timerAhead;rw[Array.any_eq_false];intro k hk;split<;>simp
def kY sl cases w:waitingAt {timers:=#[],alone:=none,slice:=sl} cases w=some w:=by unfold waitingAt;rw[xO];rfl
def YV(g g':Goroutine):Prop:=(g'.status=.blocked/\g'.frame=g.frame/\g'.callers=g.callers/\g'.dying=g.dying)∨(g'.status=.running/\g'.callers=g.callers/\g'.dying=g.dying/\((∃v,g'.frame=g.frame.finish v)∨∃l,g'.frame=g.frame.raise l))∨g'=g
def Qd(ops:Array MemOp):Prop:=∀op∈ops,op.g=0/\op.act.touch? =none/\∀m,op.act≠.mark m
structure ajC(P:Program)(g:Goroutine)(cases:Array CommCase)(uM:Bool)(shape:CommShape)(w:World)(g':Goroutine)(w':World)(ops:Array MemOp)(k:Nat):Prop where
 drawn:w'.drawn=w.drawn+k
 tape:w'.tape=w.tape
 size:w.heap.size<=w'.heap.size
 left:YV g g'
 YE:Qd ops
 same:∀τ n,Agree w τ n k->∀(gs:Array Goroutine)(sl:Option (Nat×Nat)),j7 gs->communicate P {timers:=#[],alone:=none,slice:=sl} gs 0 g cases uM shape (w.re τ n)=(.next (crowd (gs.setIfInBounds 0 g') (w'.re τ (n+k)) sl),ops)
def Fx{P α Φ}{s:Sem α}(hs:Plain P Φ s) w:(∃k,(wR (s.run P w)).drawn=w.drawn+k/\(wR (s.run P w)).tape=w.tape/\w.heap.size<=(wR (s.run P w)).heap.size/\(∀a w',s.run P w=.ok a w'->Φ a)/\∀τ n,Agree w τ n k->s.run P (w.re τ n)=Y1 τ (n+k) (s.run P w))∨∃x w',s.run P w=.halt (.unsupported (.noEntry x)) w':=by rcases hs.run w #[]with⟨k,i⟩|⟨u,w',iy,h⟩;refine .inl ⟨k,?_,?_,?_,?_,?_⟩;simpa only[Sem.runT_eq]using i.drawn;simpa only[Sem.runT_eq]using i.tape;simpa only[Sem.runT_eq]using i.size;intro a w' h;exact i.post a w' (by rw[Sem.runT_eq];exact h);intro τ n ha;have:=i.same τ n ha;simp only[Sem.runT_eq,Prod.mk.injEq]at this;exact this.1;refine .inr ⟨u,w',?_⟩;rw[Sem.runT_eq]at h;exact(Prod.mk.inj h).1
def ZS{P}(ready:List (Nat×CommCase×List Way))(h:∀x∈ready,∀y∈x.2.2,jA y) :
  Plain P (λx=>jA x.2.2) (do
   let a <-choose (.select ready.length);let(k,c,ws):=ready.getD a (0,default,[]);let b <-choose (.extern "which waiting goroutine is the partner" ws.length)
   pure (k,c,ws.getD b .closed):Sem (Nat×CommCase×Way)):=by
 intro a b;show jA ((ready.getD a (0,default,[])).2.2.getD b .closed);have hx:∀y∈(ready.getD a (0,default,[])).2.2,jA y:=by
  intro y hy;rw[List.getD_eq_getElem?_getD]at hy;cases hr:ready[a]? with
  |none=>rw[hr]at hy;cases hy
  |some x=>rw[hr]at hy;exact h x (List.mem_of_getElem? hr) y hy
 generalize ready.getD a (0,default,[])=x at hx|-;rw[List.getD_eq_getElem?_getD];cases hr:x.2.2[b]? with
 |none=>exact trivial
 |some y=>exact hx y (List.mem_of_getElem? hr)
def Nu P g cases uM shape w(hg:g.status=.running){m' ops} (h:communicate P Vh #[ph] 0 g cases uM shape w=(.next m',ops)):∃g' w' k,m'=solo g' w'/\ajC P g cases uM shape w g' w' ops k:=by
 have awM:∀(g':Goroutine)(gs:Array Goroutine)(u:World)(sl:Option (Nat×Nat)),({world:=u,gs:=gs.setIfInBounds 0 g',rest:={timers:=#[],alone:=none,slice:=sl}}:Machine)=crowd (gs.setIfInBounds 0 g') u sl:=λ_ _ _ _=>rfl;have MI:∀gs,j7 gs->∀(u:World)(hu:u.heap=w.heap),(cases.zipIdx.toList.map λ(c,k)=>(k,c,ways u gs c)).filter (λ(_,_,ws)=> !ws.isEmpty)=(cases.zipIdx.toList.map λ(c,k)=>(k,c,ways w #[ph] c)).filter (λ(_,_,ws)=> !ws.isEmpty):=by
  intro gs yO u hu;congr 1;apply List.map_congr_left;rintro⟨c,k⟩_;have:ways u gs c=ways w #[ph] c:=by rw[Qg yO pA];unfold ways;rw[hu]
  simp only[this]
 have hnp:∀x∈(cases.zipIdx.toList.map λ(c,k)=>(k,c,ways w #[ph] c)).filter (λ(_,_,ws)=> !ws.isEmpty),∀y∈x.2.2,jA y:=by intro x hx y hy;obtain⟨hx,_⟩:=List.mem_filter.1 hx;obtain⟨⟨c,k⟩,_,rfl⟩:=List.mem_map.1 hx;exact xN pA w c y hy
 have WS:∀τ n,(w.re τ n).heap=w.heap:=λ_ _=>rfl;have hp:=Fx (ZS (P:=P) _ hnp) w;dsimp only at hp MI;unfold communicate at h;dsimp only at h;split at h;cases h;rename_i Sr;split at h;rename_i Dx;split at h;rename_i hbl;subst hbl;rw[kY]at h;cases h;refine⟨_,w,0,rfl,rfl,rfl,ν,.inl ⟨rfl,rfl,rfl,rfl⟩,λop cI=>by simp at cI,λτ n _ gs sl yO=>?_⟩;unfold communicate;dsimp only;simp only[WS,MI gs yO (w.re τ n) rfl,kY];rw[if_neg Sr,if_pos Dx];rfl;rename_i hbl;cases h;refine⟨_,w,0,rfl,rfl,rfl,ν,.inr (.inl ⟨rfl,rfl,rfl,.inl ⟨_,rfl⟩⟩),λop cI=>by simp at cI,λτ n _ gs sl yO=>?_⟩;unfold communicate;dsimp only;simp only[WS,MI gs yO (w.re τ n) rfl,kY];rw[if_neg Sr,if_pos Dx,if_neg hbl];rfl;rename_i Dx;split at h;cases h;rename_i kk c way w1 hpk;rw[hpk]at hp;rcases hp with⟨k,e1,e2,e3,e4,e5⟩|⟨x,w',hx⟩;case inr=>cases hx
 replace e1:w1.drawn=w.drawn+k:=e1;replace e2:w1.tape=w.tape:=e2;replace e3:w.heap.size<=w1.heap.size:=e3;have hnw:=e4 _ _ rfl;have alO:∀τ n,(w1.re τ n).heap=w1.heap:=λ_ _=>rfl;have hpn:∀gs,j7 gs->∀r b,partners gs r b=[]:=λ_ h=>h;have alV:∀u:World,Sem.run P (runtimePanic (.plain "send on closed channel"):Sem Unit) u=.halt (.panic (.iface P.rt.plainError (strVal "send on closed channel"))) u:=λu=>rfl;split at h;rw[alV]at h;cases h;refine⟨_,w1,k,rfl,e1,e2,e3,.inr (.inl ⟨hg,rfl,rfl,.inr ⟨_,rfl⟩⟩),λop cI=>by simp at cI,λτ n ha gs sl yO=>?_⟩;unfold communicate;dsimp only;simp only[WS,MI gs yO (w.re τ n) rfl];rw[if_neg Sr,if_neg Dx,e5 τ n ha];dsimp only[Y1];rw[alV];rfl;cases h;refine⟨_,w1,k,rfl,e1,e2,e3,.inr (.inl ⟨rfl,rfl,rfl,.inl ⟨_,rfl⟩⟩),λop cI=>?_,λτ n ha gs sl yO=>?_⟩;simp at cI;subst cI;exact⟨rfl,rfl,λm=>by simp⟩;unfold communicate;dsimp only;simp only[WS,MI gs yO (w.re τ n) rfl];rw[if_neg Sr,if_neg Dx,e5 τ n ha];rfl;rename_i cap buf closed ah aC tm v Pt hsd;cases h;refine⟨_,_,k,rfl,e1,e2,(by show w.heap.size<=(w1.heap.setIfInBounds _ _).size;simpa using e3),.inr (.inl ⟨rfl,rfl,rfl,.inl ⟨_,rfl⟩⟩),λop cI=>?_,λτ n ha gs sl yO=>?_⟩;simp at cI;rcases cI with rfl|rfl<;>exact⟨rfl,rfl,λm=>by simp⟩;unfold communicate;dsimp only;simp only[WS,MI gs yO (w.re τ n) rfl];rw[if_neg Sr,if_neg Dx,e5 τ n ha];dsimp only[Y1];simp only[alO,Pt,hsd];rfl;rename_i cap buf closed ah aC tm Pt hsd;rw[pA _ _]at h;cases h;refine⟨_,_,k,rfl,e1,e2,(by show w.heap.size<=(w1.heap.setIfInBounds _ _).size;simpa using e3),.inr (.inl ⟨rfl,rfl,rfl,.inl ⟨_,rfl⟩⟩),λop cI=>?_,λτ n ha gs sl yO=>?_⟩;simp at cI;rcases cI with rfl|rfl<;>exact⟨rfl,rfl,λm=>by simp⟩;unfold communicate;dsimp only;simp only[WS,MI gs yO (w.re τ n) rfl];rw[if_neg Sr,if_neg Dx,e5 τ n ha];dsimp only[Y1];simp only[alO,Pt,hsd,hpn gs yO];rfl;exact hnw.elim;exact hnw.elim;cases h
structure Ld(g:Goroutine):Prop where
 run:g.status=.running
 dy:∀d,g.dying=some d->d.calling=true
 SR:cm g.dying g.frame g.callers
def ajr(g:Goroutine):Prop:=(g.status=.blocked∨g.status=.waiting∨g.status=.finished)∨(g.status=.running/\aoe g)
def Calm(gs:Array Goroutine):Prop:=∀j x,0<j->gs[j]? =some x->x.status=.running∨x.status=.finished
def Calm.no{gs}(h:Calm gs):j7 (gs.setIfInBounds 0 ph):=λr b=>partners_nil λj g hj=>by rcases getElem?_stand gs 0 j g hj with⟨_,rfl⟩|⟨h0,hj⟩;exact offersAt_ph r b;exact offersAt_of_not_blocked (by rcases h j g (by omega) hj with e|e<;>rw[e]<;>simp) r b
def Calm.woken{P gs}(h:Calm gs) g g' w:(gs.map (woken P g g' w)).setIfInBounds 0 g'=gs.setIfInBounds 0 g':=by apply Array.ext_getElem?;intro j;by_cases hj:j=0;subst hj;by_cases hs:0<gs.size;rw[Array.getElem?_setIfInBounds_self_of_lt (by simpa using hs),Array.getElem?_setIfInBounds_self_of_lt hs];rw[Array.getElem?_eq_none (by simpa using hs),Array.getElem?_eq_none (by simpa using hs)];rw[Array.getElem?_setIfInBounds_ne (Ne.symm hj),Array.getElem?_setIfInBounds_ne (Ne.symm hj),Array.getElem?_map];cases hx:gs[j]? with|none=>rfl|some x=>rw[Option.map_some];unfold Go.Conc.woken;split;rw[again_running _ (h j x (by omega) hx)];rfl
structure cO(P:Program)(g:Goroutine)(w:World)(g':Goroutine)(w':World)(ops:Array MemOp)(k:Nat):Prop where
 drawn:w'.drawn=w.drawn+k
 tape:w'.tape=w.tape
 size:w.heap.size<=w'.heap.size
 own:∀op∈ops,op.g=0
 deaf:∀t:Trace,Deaf (t++ops) 0=Deaf t 0
 same:∀τ n,Agree w τ n k->∀(gs:Array Goroutine)(sl:Option (Nat×Nat)),Calm gs->gs[0]? =some g->runT P (crowd gs (w.re τ n) sl) 0=(.next (crowd (gs.setIfInBounds 0 g') (w'.re τ (n+k)) sl),ops)
def jP{fn pos es}(h:∀x,deafBehind x es=x) t:Deaf (t++MemOp.ofEvents 0 fn pos es) 0=Deaf t 0:=by rw[Deaf_own,h]
def S7{ops}(h:Qd ops) t:Deaf (t++ops) 0=Deaf t 0:=by
 obtain⟨l⟩:=ops;rw[Deaf_append];generalize Deaf t 0=d;induction l with
 |nil=>rfl|cons y l ih=>
 have e:deafStep 0 d y=d:=by have:=(h y (by simp)).2.2;unfold deafStep;split;rename_i hh;exact absurd hh (this _);rename_i hh;exact absurd hh (this _);rfl
 rw[List.foldl_cons,e];exact ih (λop cI=>h op (by simp at cI|-;exact .inr cI))
def Mr x n f:(#[x]:Array Goroutine).modify (n+1) f=#[x]:=by apply Array.ext_getElem?;intro j;rw[Array.getElem?_modify];by_cases hj:n+1=j;subst hj;simp;simp[hj]
def ow{P gs w w1 sl g g2 c es}(hi:gs[0]? =some g)(h:stepG P true g w=.coroswitch g2 c true w1 es):(∃hh,w1.heap[c]? =some (.coro (some hh))/\runT P (crowd gs w sl) 0=(.next (crowd ((gs.setIfInBounds 0 {g2 with status:=.finished}).modify hh (λo=>{o with status:=.running})) {w1 with heap:=w1.heap.setIfInBounds c (.coro none)} sl),MemOp.ofEvents 0 g.frame.fn g.frame.place es))∨(w1.heap[c]? =some (.coro none)/\∃d,d.calling=false/\runT P (crowd gs w sl) 0=(.next (crowd (gs.setIfInBounds 0 {frame:=g2.frame,callers:=[],status:=.running,dying:=some d}) w1 sl),MemOp.ofEvents 0 g.frame.fn g.frame.place es))∨((∀hh,w1.heap[c]?≠some (.coro (some hh)))/\∃o w',runT P (crowd gs w sl) 0=(.ended o w',MemOp.ofEvents 0 g.frame.fn g.frame.place es)):=by
 obtain⟨aM,rfl⟩:=Array.getElem?_eq_some_iff.1 hi;have hsw:=swapAt_of_lt aM {(default:Goroutine)with status:=.finished};have hr:runT P (crowd gs w sl) 0=runT P {world:=w,gs:=gs,rest:={timers:=#[],alone:=none,slice:=sl}} 0:=rfl;rw[hr];unfold runT;simp only[hsw,h,GStep.es,set_setIfInBounds aM,BEq.rfl];cases hh:w1.heap[c]? with
 |none=>exact .inr (.inr ⟨by simp,_,_,rfl⟩)|some o=>
 cases o with
 |coro x=>cases x with|none=>exact .inr (.inl ⟨rfl,_,rfl,rfl⟩)|some x=>exact .inl ⟨x,rfl,rfl⟩
 |_=>exact .inr (.inr ⟨by simp,_,_,rfl⟩)
inductive YU(P:Program)(g:Goroutine)(w:World):Prop
 |over (h:∀m' ops,stepT P (solo g w)≠(.next m',ops))
 |many (m':Machine) (ops:Array MemOp) (h:stepT P (solo g w)=(.next m',ops)) (h2:2<=m'.gs.size)
 |off (g':Goroutine) (w':World) (ops:Array MemOp) (h:stepT P (solo g w)=(.next (solo g' w'),ops)) (h2:ajr g')
 |move (g':Goroutine) (w':World) (ops:Array MemOp) (k:Nat) (h:stepT P (solo g w)=(.next (solo g' w'),ops)) (h2:Ld g') (h3:g'.dying=g.dying) (h4:cO P g w g' w' ops k)
def EF{P}(hB:bu P) g w(h:Ld g):YU P g w:=by
 have h0:stepT P (solo g w)=runT P (solo g w) 0:=stepT_solo h.run;have vV:∀u,solo g u=crowd #[g] u none:=λ_=>rfl;rcases XF hB g w h.dy h.SR with⟨k,i⟩|kp
 ·have i1:=i.drawn;have i2:=i.tape;have i3:=i.size;have i5:=i.Yu;have i6:=i.kind;have i7:=i.same;cases hs:stepG P true g w with
  |go g' w' es=>rw[hs]at i1 i2 i3 i5 i6 i7;refine .move g' w' _ k (h0.trans (runT_solo_go hs)) ⟨i6.2.2,by rw[i6.2.1];exact h.dy,by rw[i6.2.1];exact i6.1⟩ i6.2.1 ⟨i1,i2,i3,λop cI=>?_,jP i5,λτ n ha gs sl yO hg=>?_⟩;obtain⟨e,_,rfl⟩:=Go.Conc.mem_ofEvents cI;rfl;have:=runT_crowd_go (P:=P) (w:=w.re τ n) (sl:=sl) (i:=0) hg (i7 τ n ha);rw[yO.woken]at this;exact this
  |comm g2 cs bl sh w1 es=>
   rw[hs]at i1 i2 i3 i5 i6 i7;obtain⟨f1,f2,f3⟩:=i6;have hr:=runT_crowd_comm (P:=P) (gs:=#[g]) (sl:=none) (i:=0) (by rfl) hs;cases hcm:communicate P Vh #[ph] 0 g2 cs bl sh w1 with|mk r YE=>
   have mJ:stepT P (solo g w)=(r,MemOp.ofEvents 0 g.frame.fn g.frame.place es++YE):=by rw[h0,vV,hr,show(#[g].setIfInBounds 0 ph:Array Goroutine)=#[ph]from rfl,show(crowd #[g] w none).rest=Vh from rfl,hcm]
   cases r with
   |ended o w'=>exact .over (λm' ops=>by rw[mJ];simp)|next m'=>
   obtain⟨g',w',k2,rfl,c⟩:=Nu P g2 cs bl sh w1 f3 hcm;have Y7:∀(_:True),cO P g w g' w' (MemOp.ofEvents 0 g.frame.fn g.frame.place es++YE) (k+k2):=λ_=>by refine⟨by rw[c.drawn];show(gW (GStep.comm g2 cs bl sh w1 es)).drawn+k2=_;rw[i1];omega,c.tape.trans i2,Nat.le_trans i3 c.size,λop cI=>?_,λt=>?_,λτ n ha gs sl yO hg=>?_⟩;rcases Array.mem_append.1 cI with cI|cI;obtain⟨e,_,rfl⟩:=Go.Conc.mem_ofEvents cI;rfl;exact(c.YE op cI).1;rw[<-Array.append_assoc];exact(S7 c.YE _).trans (jP i5 t);have:=runT_crowd_comm (P:=P) (gs:=gs) (sl:=sl) (i:=0) hg (i7 τ n (ha.mono (by omega)));rw[this];have h2:=c.same τ (n+k) (λj hj=>by have:=ha (k+j) (by omega);rw[Nat.add_assoc,this];show w.tape _=w1.tape _;rw[show w1.tape=w.tape from i2,show w1.drawn=w.drawn+k from i1,Nat.add_assoc]) (gs.setIfInBounds 0 ph) sl yO.no;rw[show(crowd gs (w.re τ n) sl).rest={timers:=#[],alone:=none,slice:=sl}from rfl,h2,set_stand,Nat.add_assoc]
   rcases c.left with⟨l1,_,_,_⟩|⟨l1,l2,l3,l4⟩|rfl;exact .off g' w' _ mJ (.inl (.inl l1));refine .move g' w' _ (k+k2) mJ ⟨l1,by rw[l3,f2];exact h.dy,?_⟩ (l3.trans f2) (Y7 trivial);rw[l3,l2,f2];rcases l4 with⟨v,e⟩|⟨l,e⟩;rw[e];exact f1.finish v;rw[e];exact f1.raise l;exact .move _ w' _ (k+k2) mJ ⟨f3,by rw[f2];exact h.dy,by rw[f2];exact f1⟩ f2 (Y7 trivial)
  |spawn g2 c w1 es=>exact .many _ _ (h0.trans (runT_solo_spawn hs)) (by simp[duo])|coroswitch g2 c b w1 es=>
   rw[hs]at i1 i2 i3 i5 i6 i7;obtain⟨f1,f2,f3,rfl⟩:=i6;rcases ow (P:=P) (gs:=#[g]) (sl:=none) (by rfl) hs with⟨hh,hr⟩|⟨hh,d,hd,hr⟩|⟨o,hr⟩;cases hh0:hh with
   |zero=>
   subst hh0;refine .move {g2 with status:=.running} {w1 with heap:=w1.heap.setIfInBounds c (.coro none)} (MemOp.ofEvents 0 g.frame.fn g.frame.place es) k (by rw[h0,vV,hr.2,modify_eq_set _ 0 _ {g2 with status:=.finished} rfl];rfl) ⟨rfl,by show∀d,g2.dying=_->_;rw[f2];exact h.dy,by show cm g2.dying _ _;rw[f2];exact f1⟩ f2 ⟨i1,i2,(by show w.heap.size<=(w1.heap.setIfInBounds _ _).size;rw[Array.size_setIfInBounds];exact i3),λop cI=>?_,jP i5,λτ n ha gs sl yO hg=>?_⟩;obtain⟨e,_,rfl⟩:=Go.Conc.mem_ofEvents cI;rfl;rcases ow (P:=P) (w:=w.re τ n) (gs:=gs) (sl:=sl) hg (i7 τ n ha)with⟨h2,r1,r2⟩|⟨h2,d,hd,r2⟩|⟨um,_⟩;rw[show(w1.re τ (n+k)).heap=w1.heap from rfl,hr.1]at r1;cases r1;rw[r2];have aM:0<gs.size:=(Array.getElem?_eq_some_iff.1 hg).1;have:(gs.setIfInBounds 0 {g2 with status:=.finished}).modify 0 (λo=>{o with status:=.running})=gs.setIfInBounds 0 {g2 with status:=.running}:=by apply Array.ext_getElem?;intro j;rw[Array.getElem?_modify];by_cases hj:0=j;subst hj;simp[aM];simp[hj]
   rw[this];rfl;rw[show(w1.re τ (n+k)).heap=w1.heap from rfl,hr.1]at h2;cases h2;exact absurd (show(w1.re τ (n+k)).heap[c]? =some (.coro (some 0))from hr.1) (um 0)
   |succ n=>refine .off {g2 with status:=.finished} {w1 with heap:=w1.heap.setIfInBounds c (.coro none)} (MemOp.ofEvents 0 g.frame.fn g.frame.place es) (by rw[h0,vV,hr.2,hh0,show(#[g].setIfInBounds 0 {g2 with status:=.finished}:Array Goroutine)=#[{g2 with status:=.finished}]from rfl,Mr];rfl) (.inl (.inr (.inr rfl)))
   exact .off {frame:=g2.frame,callers:=[],status:=.running,dying:=some d} w1 (MemOp.ofEvents 0 g.frame.fn g.frame.place es) (by rw[h0,vV,hr];rfl) (.inr ⟨rfl,d,rfl,λh=>by rw[hd]at h;cases h⟩);refine .over (λm' ops=>?_);obtain⟨o,w',e⟩:=hr;rw[h0,vV,e];simp
  |ended o w' es=>refine .over (λm' ops=>?_);rw[h0,vV,runT_many_ended (i:=0) (by rfl) hs];simp|count _ _ _=>rw[hs]at i6;exact i6.elim
  |timer _ _ _ _=>rw[hs]at i6;exact i6.elim|alone _ _ _ _=>rw[hs]at i6;exact i6.elim
  |newcoro _ _ _ _ _=>rw[hs]at i6;exact i6.elim|collect _ _ _=>rw[hs]at i6;exact i6.elim
  |watch _ _ _=>rw[hs]at i6;exact i6.elim
 replace kp:Qc (stepG P true g w):=kp;cases hs:stepG P true g w with|go g' w' es=>rw[hs]at kp;exact .off g' w' _ (h0.trans (runT_solo_go hs)) kp|ended o w' es=>refine .over (λm' ops=>?_);rw[h0,vV,runT_many_ended (i:=0) (by rfl) hs];simp|_=>rw[hs]at kp;exact kp.elim
end Tp
namespace Tp
open Go.Conc
def aab p fr d w(hd:d.calling=false):Qc (die p fr d w):=by have axs:∀(fr:Frame)(cs:List Frame)(d:Dying),d.calling=false->Qc (.go {frame:=fr,callers:=cs,status:=.running,dying:=some d} w #[]):=λfr cs d h=>.inr ⟨rfl,d,rfl,λh2=>by rw[h]at h2;cases h2⟩;unfold die;split;rename_i f hf;unfold writeOn;dsimp only;split;exact trivial;split;exact .inr ⟨rfl,_,rfl,λh=>by rw[hd]at h;cases h⟩;exact .inl (.inl rfl);exact trivial;exact trivial;split;split;exact .inl (.inl rfl);unfold endWith;dsimp only;split;split<;>exact trivial;exact trivial;exact trivial;dsimp only;split;exact .inr ⟨rfl,_,rfl,λh=>by rw[hd]at h;cases h⟩;split;exact .inr ⟨rfl,_,rfl,λh=>by rw[hd]at h;cases h⟩;exact trivial;apply dQ;split;exact .inr ⟨rfl,_,rfl,λ_=>⟨iw _ _ _ _,(λ_ h=>by cases h),λ_=>rfl⟩⟩;exact .inr ⟨rfl,_,rfl,λh=>by rw[hd]at h;cases h⟩;exact trivial;unfold endPrinting;dsimp only;split;exact .inr ⟨rfl,_,rfl,λh=>by cases h⟩;exact trivial;exact trivial;exact trivial
def ab1(m:Machine):Prop:=2<=m.gs.size∨∃g w,m=solo g w/\ajr g
def Sc{P g w}(h:g.status=.blocked∨g.status=.waiting∨g.status=.finished){m' ops}(hs:stepT P (solo g w)=(.next m',ops)):m'=solo g w:=by
 have hm:move P (solo g w)=askOn P (solo g w):=by simp[move,ask,solo]
 have hr:runnable (solo g w).gs (solo g w).world.os.mono=[]:=by rcases h with h|h|h<;>simp[solo,runnable_eq,Goroutine.canRun,h,List.range_succ]
 have ha:∀b,ahead (solo g w) b=none:=λb=>by rcases h with h|h|h<;>simp[ahead,solo,h]
 have hd:due (solo g w).rest.timers (solo g w).world.os.mono=[]:=by simp[due,solo]
 unfold stepT at hs;rw[hm]at hs;unfold askOn at hs;simp only[hr,hd,ha,List.isEmpty_nil,if_true,pure,Sem.run]at hs;split at hs
 ·rename_i m2 i2 hx;revert hx;repeat' split
  all_goals (intro hx;cases hx)
 rename_i s Rq hx;cases hs;revert hx;simp only[List.length_nil,Nat.not_lt_zero,if_false];split;intro hx;cases hx;rfl;split;intro hx;cases hx;intro hx;cases hx
def Rr{P}(hB:bu P){g w}(h:ajr g){m' ops}(hs:stepT P (solo g w)=(.next m',ops)):ab1 m':=by
 rcases h with h|⟨hr,d,hd,hf⟩;exact .inr ⟨g,w,Sc h hs,.inl h⟩;cases hc:d.calling with
 |false=>
  have h0:stepT P (solo g w)=runT P (solo g w) 0:=stepT_solo hr;have hg:stepG P true g w=die P g.frame d w:=by obtain⟨fr,cs,st,dy,off⟩:=g;obtain rfl:dy=some d:=hd;obtain⟨a1,a2,a3,a4,a5,a6,a7⟩:=d;obtain rfl:a3=false:=hc;rfl
  have kp:=aab P g.frame d w hc;rw[<-hg]at kp;cases aT:stepG P true g w with
  |go g' w' es=>rw[aT]at kp;rw[h0,runT_solo_go aT]at hs;cases hs;exact .inr ⟨g',w',rfl,kp⟩
  |ended o w' es=>rw[h0,show solo g w=crowd #[g] w none from rfl,runT_many_ended (i:=0) (by rfl) aT]at hs;cases hs
  |_=>rw[aT]at kp;exact kp.elim
 |true=>
 have hld:Ld g:=⟨hr,λd' Ub=>by rw[hd]at Ub;cases Ub;exact hc,by rw[hd];exact hf hc⟩;cases EF hB g w hld with
 |over hx=>exact absurd hs (hx _ _)|many m2 Rq h1 h2=>rw[h1]at hs;cases hs;exact .inl h2
 |off g' w' Rq h1 h2=>rw[h1]at hs;cases hs;exact .inr ⟨g',w',rfl,h2⟩
 |move g' w' Rq k h1 h2 h3 h4=>rw[h1]at hs;cases hs;exact .inr ⟨g',w',rfl,.inr ⟨h2.run,d,h3.trans hd,λ_=>by have:=h2.SR;rw[h3,hd]at this;exact this⟩⟩
theorem Cy{P}(hB:bu P):∀N {m m':Machine},ab1 m->runN P N m=.next m'->ab1 m'
 |0,m,m',h,hr=>by cases hr;exact h
 |N+1,m,m',h,hr=>by
  simp only[runN]at hr;cases hs:stepT P m with
  |mk r ops=>
  have aT:step P m=r:=by unfold step;rw[hs]
  rw[aT]at hr;cases r with
  |ended o w=>cases hr
  |next m2=>refine Cy hB N ?_ hr;rcases h with h|⟨g,w,rfl,ho⟩;exact .inl (Nat.le_trans h (stepT_size P m m2 true (by rw[hs])));exact Rr hB ho hs
def jU{g g' w w'}(h:solo g w=solo g' w'):g=g'/\w=w':=by unfold solo at h;injection h with h1 h2 h3;exact⟨by simpa using h2,h1⟩
def Fe(g:Goroutine):Prop:=g.status=.running/\g.dying=none
def OM{g w}(h:Fe g):¬ab1 (solo g w):=by rintro(h2|⟨g',w',e,ho⟩);simp[solo]at h2;obtain⟨rfl,rfl⟩:=jU e;rcases ho with ho|⟨_,d,hd,_⟩;rcases ho with ho|ho|ho<;>rw[h.1]at ho<;>cases ho;rw[h.2]at hd;cases hd
def vX{P}(hB:bu P){g gS w wS}(h:Ld g)(hd:g.dying=none){N}(hr:runN P (N+1) (solo g w)=.next (solo gS wS))(hg:Fe gS):∃g' w' ops k,Ld g'/\g'.dying=none/\cO P g w g' w' ops k/\runN P N (solo g' w')=.next (solo gS wS):=by
 simp only[runN]at hr;have aT:step P (solo g w)=(stepT P (solo g w)).1:=rfl;rw[aT]at hr;cases EF hB g w h with
 |over hx=>
  cases hs:stepT P (solo g w)with
  |mk r ops=>
  rw[hs]at hr;cases r with
  |ended o w'=>cases hr
  |next m=>exact absurd hs (hx _ _)
 |many m2 ops h1 h2=>rw[h1]at hr;exact absurd (Cy hB N (.inl h2) hr) (OM hg)|off g' w' ops h1 h2=>rw[h1]at hr;exact absurd (Cy hB N (.inr ⟨g',w',rfl,h2⟩) hr) (OM hg)
 |move g' w' ops k h1 h2 h3 h4=>rw[h1]at hr;exact⟨g',w',ops,k,h2,h3.trans hd,h4,hr⟩
def Kx g:Calm #[g]:=λj x hj hx=>by
 have:j<1:=by simpa using(Array.getElem?_eq_some_iff.1 hx).1
 omega
def cO.solo{P g g' w w' ops k}(h:cO P g w g' w' ops k)(hr:g.status=.running) τ n(ha:Agree w τ n k):stepT P (solo g (w.re τ n))=(.next (solo g' (w'.re τ (n+k))),ops):=by rw[stepT_solo hr];exact h.same τ n ha #[g] none (Kx g) rfl
def ve{P m m1 ops}(h:stepT P m=(.next m1,ops)) N:runN P (N+1) m=runN P N m1:=by simp only[runN];have aT:step P m=(stepT P m).1:=rfl;rw[aT,h]
theorem Va{P}(hB:bu P):∀N {g gS:Goroutine}{w wS:World},Ld g->g.dying=none->runN P N (solo g w)=.next (solo gS wS)->Fe gS->∀τ n,(∀i,τ (n+i)=w.tape (w.drawn+i))->∃j,runN P N (solo g (w.re τ n))=.next (solo gS (wS.re τ (n+j)))
 |0,g,gS,w,wS,_,_,hr,_,τ,n,_=>by simp only[runN]at hr;injection hr with hr;obtain⟨rfl,rfl⟩:=jU hr;exact⟨0,rfl⟩
 |N+1,g,gS,w,wS,h,hd,hr,hg,τ,n,ht=>by obtain⟨g',w',ops,k,h1,h2,h3,h4⟩:=vX hB h hd hr hg;have hm:=h3.solo h.run τ n (λj _=>ht j);obtain⟨j,hj⟩:=Va hB N h1 h2 h4 hg τ (n+k) (λi=>by rw[h3.tape,h3.drawn,Nat.add_assoc,Nat.add_assoc];exact ht (k+i));exact⟨k+j,by rw[ve hm,hj,Nat.add_assoc]⟩
inductive Term(P:Program)(Stop:Goroutine->World->Prop):Goroutine->World->Prop
 |stop {g:Goroutine} {w:World} (h:Stop g w):Term P Stop g w
 |next {g:Goroutine} {w:World} (nx:(Nat->Question->Nat)->Nat->Goroutine×World) (h1:∀τ n,∃ops k,cO P g (w.re τ n) (nx τ n).1 (nx τ n).2 ops k) (h2:∀τ n,Ld (nx τ n).1/\(nx τ n).1.dying=none) (h3:∀τ n,Term P Stop (nx τ n).1 (nx τ n).2):Term P Stop g w
def Term.step{P Stop g w}(h:∀τ n,∃g' w' ops k,cO P g (w.re τ n) g' w' ops k/\Ld g'/\g'.dying=none/\Term P Stop g' w'):Term P Stop g w:=by
 have h':∀τ n,∃x:Goroutine×World,∃ops k,cO P g (w.re τ n) x.1 x.2 ops k/\Ld x.1/\x.1.dying=none/\Term P Stop x.1 x.2:=λτ n=>let⟨g',w',ops,k,h⟩:=h τ n;⟨(g',w'),ops,k,h⟩
 refine .next (λτ n=>Classical.choose (h' τ n)) (λτ n=>?_) (λτ n=>?_) (λτ n=>?_);obtain⟨ops,k,h1,_⟩:=Classical.choose_spec (h' τ n);exact⟨ops,k,h1⟩;obtain⟨ops,k,_,h2,h3,_⟩:=Classical.choose_spec (h' τ n);exact⟨h2,h3⟩;obtain⟨ops,k,_,_,_,h4⟩:=Classical.choose_spec (h' τ n);exact h4
def DQ(P:Program)(Stop:Goroutine->World->Prop)(g:Goroutine)(w:World):Prop:=∀τ n,∃N gS wS,runN P N (solo g (w.re τ n))=.next (solo gS wS)/\Fe gS/\Stop gS wS
structure St(P:Program)(Stop:Goroutine->World->Prop) where
 g:Goroutine
 w:World
 ld:Ld g
 dy:g.dying=none
 bad:¬Term P Stop g w
 runs:DQ P Stop g w
section
variable{P:Program}{Stop:Goroutine->World->Prop}
def DQ.next(hB:bu P)(hS:∀g w τ n,Stop g w->Stop g (w.re τ n)){g g' w w' ops k}(h:DQ P Stop g w)(hl:Ld g)(hns:¬Stop g w)(hm:cO P g w g' w' ops k)(hl':Ld g')(Ub:g'.dying=none):DQ P Stop g' w':=by
 intro τ n;let DR:Nat->Question->Nat:=λi=>if i<k then w.tape (w.drawn+i)else τ (n+(i-k))
 obtain⟨N,gS,wS,h1,h2,h3⟩:=h DR 0;cases N with
 |zero=>simp only[runN]at h1;injection h1 with h1;obtain⟨rfl,rfl⟩:=jU h1;exact absurd (by have:=hS _ _ w.tape w.drawn h3;exact this) hns
 |succ N=>have hs:=hm.solo hl.run DR 0 (λi hi=>by show DR (0+i)=_;rw[Nat.zero_add];exact if_pos hi);rw[ve hs]at h1;obtain⟨j,hj⟩:=Va hB N (w:=w'.re DR (0+k)) hl' Ub h1 h2 τ n (λi=>by show _=DR (0+k+i);rw[show DR (0+k+i)=τ (n+(0+k+i-k))from if_neg (by omega)];congr 1;omega);exact⟨N,gS,_,hj,h2,hS _ _ _ _ h3⟩
def St.next(hB:bu P)(hS:∀g w τ n,Stop g w->Stop g (w.re τ n))(s:St P Stop):∃(s':St P Stop)(τ:Nat->Question->Nat)(n:Nat)(ops:Array MemOp)(k:Nat),cO P s.g (s.w.re τ n) s'.g s'.w ops k:=by
 obtain⟨g,w,ld,dy,bad,runs⟩:=s;have hns:¬Stop g w:=λh=>bad (.stop h);have:¬∀τ n,∃g' w' ops k,cO P g (w.re τ n) g' w' ops k/\Ld g'/\g'.dying=none/\Term P Stop g' w':=λh=>bad (.step h);obtain⟨τ,h2⟩:=Classical.not_forall.1 this;obtain⟨n,h3⟩:=Classical.not_forall.1 h2;obtain⟨N,gS,wS,h1,hg,aT⟩:=runs τ n;cases N with
 |zero=>simp only[runN]at h1;injection h1 with h1;obtain⟨rfl,rfl⟩:=jU h1;exact absurd (by have:=hS _ _ w.tape w.drawn aT;exact this) hns
 |succ N=>obtain⟨g',w',ops,k,a1,a2,a3,a4⟩:=vX hB ld dy h1 hg;have akY:DQ P Stop g (w.re τ n):=λYZ n2=>runs YZ n2;refine⟨⟨g',w',a1,a2,λht=>h3 ⟨g',w',ops,k,a3,a1,a2,ht⟩,akY.next hB hS ld (λh=>hns (by have:=hS _ _ w.tape w.drawn h;exact this)) a3 a1 a2⟩,τ,n,ops,k,a3⟩
def Ku(hB:bu P)(hS:∀g w τ n,Stop g w->Stop g (w.re τ n))(s0:St P Stop):False:=by
 classical
 have hn:∀s:St P Stop,∃x:St P Stop× (Nat->Question->Nat)×Nat×Array MemOp×Nat,cO P s.g (s.w.re x.2.1 x.2.2.1) x.1.g x.1.w x.2.2.2.1 x.2.2.2.2:=λs=>let⟨s',τ,n,ops,k,h⟩:=s.next hB hS;⟨⟨s',τ,n,ops,k⟩,h⟩
 let nx:St P Stop->St P Stop× (Nat->Question->Nat)×Nat×Array MemOp×Nat:=λs=>Classical.choose (hn s)
 have Pu:∀s:St P Stop,cO P s.g (s.w.re (nx s).2.1 (nx s).2.2.1) (nx s).1.g (nx s).1.w (nx s).2.2.2.1 (nx s).2.2.2.2:=λs=>Classical.choose_spec (hn s);let f:Nat->St P Stop:=λi=>Nat.rec s0 (λ_ s=>(nx s).1) i
 have hf:∀i,f (i+1)=(nx (f i)).1:=λ_=>rfl;let kk:Nat->Nat:=λi=>(nx (f i)).2.2.2.2
 let c:Nat->Nat:=λi=>Nat.rec 0 (λj x=>x+kk j) i
 have hc:∀i,c (i+1)=c i+kk i:=λ_=>rfl;have acQ:∀i j,i<=j->c i<=c j:=by intro i j h;induction h with|refl=>exact ν|step _ ih=>rw[hc];omega
 let σ:Nat->Question->Nat:=λx=>if h:∃i,c i<=x/\x<c (i+1)then(nx (f (Classical.choose h))).2.1 ((nx (f (Classical.choose h))).2.2.1+(x-c (Classical.choose h)))else λ_=>0
 have hσ:∀i j,j<kk i->σ (c i+j)=(nx (f i)).2.1 ((nx (f i)).2.2.1+j):=by
  intro i j hj;have hex:∃i',c i'<=c i+j/\c i+j<c (i'+1):=⟨i,by omega,by rw[hc];omega⟩;have hi:Classical.choose hex=i:=by have h12:c (Classical.choose hex)<=c i+j/\c i+j<c (Classical.choose hex+1):=Classical.choose_spec hex;generalize Classical.choose hex=i0 at h12|-;obtain⟨h1,h2⟩:=h12;have e1:=hc i;have e2:=hc i0;rcases Nat.lt_trichotomy i0 i with h|h|h;have:c (i0+1)<=c i:=acQ _ _ h;omega;exact h;have:c (i+1)<=c i0:=acQ _ _ h;omega
  show(if h:∃i',c i'<=c i+j/\c i+j<c (i'+1)then _ else _)=_;rw[dif_pos hex];have hi2:c hex.choose=c i:=congrArg c hi;have TZ:f hex.choose=f i:=congrArg f hi;show(nx (f hex.choose)).2.1 ((nx (f hex.choose)).2.2.1+(c i+j-c hex.choose))=_;rw[hi2,TZ,show c i+j-c i=j by omega]
 have cF:∀i,runN P i (solo s0.g (s0.w.re σ 0))=.next (solo (f i).g ((f i).w.re σ (c i))):=by intro i;induction i with|zero=>rfl|succ i ih=>rw[runN_add P i 1,ih];have hm:=(Pu (f i)).solo (f i).ld.run σ (c i) (λj hj=>hσ i j hj);have:=ve hm 0;dsimp only;rw[show(f i).w.re σ (c i)=((f i).w.re (nx (f i)).2.1 (nx (f i)).2.2.1).re σ (c i)from rfl,this];rfl
 obtain⟨N,gS,wS,h1,h2,h3⟩:=s0.runs σ 0;rw[cF N]at h1;injection h1 with h1;obtain⟨rfl,rfl⟩:=jU h1;have:=hS _ _ (f N).w.tape (f N).w.drawn h3;exact(f N).bad (.stop this)
def te(hB:bu P)(hS:∀g w τ n,Stop g w->Stop g (w.re τ n)){g w}(hl:Ld g)(hd:g.dying=none)(h:DQ P Stop g w):Term P Stop g w:=Classical.byContradiction λhn=>Ku hB hS ⟨g,w,hl,hd,hn,h⟩
end
end Tp
namespace Tp
open Go.Conc
open Go.ConcN (sumTo upd sumTo_upd upd_ne upd_same)
structure gX(t:Trace):Prop where
 clean:∀said,¬Race said t
 known:∀i a,touchAt t i=some a->a.loc.isMemory=true->Knows t 0 i
 over:t.HandedOver
 hears:Deaf t 0=0
def Rj:gX #[]:=⟨λsaid=>by rintro⟨i,j,_,⟨a,b,ha,_⟩,_⟩;simp[Trace.act?]at ha,λi a ha=>by simp[touchAt,Trace.act?]at ha,λi g hg=>by simp[Trace.g?]at hg,rfl⟩
section
variable{t u:Trace}
def gX.app0(h:gX t)(hu:∀op∈u,op.g=0)(hd:Deaf (t++u) 0=Deaf t 0):gX (t++u):=by refine⟨λsaid=>noRace_append (h.clean said) hu λi a ha op cI b hb hc=>h.known i a ha hc.2.1,λi a ha hm=>?_,handedOver_app h.over λop cI=>.inl (hu op cI),hd.trans h.hears⟩;obtain⟨x,hx,uT⟩:=touch_of ha;rcases getElem?_append_cases hx with⟨_,xq⟩|⟨_,TM⟩;exact(h.known i a (by rw[touchAt_of xq];exact uT) hm).app u;have:=knows_own hx;rw[hu x TM]at this;exact this
def gX.appMute{g}(h:gX t)(hg:g≠0)(hu:∀op∈u,op.g=g)(hn:∀op∈u,op.act.touch? =none):gX (t++u):=by refine⟨λsaid=>noRace_append (h.clean said) hu λi a _ op cI b hb _=>(by rw[hn op cI]at hb;cases hb),λi a ha hm=>?_,handedOver_app h.over λop cI=>.inr (hn op cI),(Deaf_other t hg u hu).trans h.hears⟩;obtain⟨x,hx,uT⟩:=touch_of ha;rcases getElem?_append_cases hx with⟨_,xq⟩|⟨_,TM⟩;exact(h.known i a (by rw[touchAt_of xq];exact uT) hm).app u;rw[hn x TM]at uT;cases uT
theorem gX.mute(h:gX t){g}(hg:g≠0){fn pos es}(hm:∀e∈es,e.mute=true):gX (t++MemOp.ofEvents g fn pos es):=h.appMute hg (λop cI=>by obtain⟨e,_,rfl⟩:=Go.Conc.mem_ofEvents cI;rfl) (λop cI=>by obtain⟨e,he,rfl⟩:=Go.Conc.mem_ofEvents cI;exact touch_mute (hm e he))
end
def tY{P t gs q}(h:Leavers P t gs q):Calm gs:=λj x hj hx=>(h.old j x hj hx).status
def xn{P t u gs q}(h:Leavers P t gs q) g'(h0:0<gs.size)(hu:∀op∈u,op.g=0):Leavers P (t++u) (gs.setIfInBounds 0 g') q:=⟨λj x hj hx=>by
 rw[Array.getElem?_setIfInBounds_ne (by omega)]at hx;rw[Deaf_other t (g:=j) (g':=0) (by omega) _ hu];exact h.old j x hj hx,λj hj=>by
 rw[Array.size_setIfInBounds]at hj;rw[Deaf_other t (g:=j) (g':=0) (by omega) _ hu];exact h.above j hj⟩
def slip{P t gs q w sl i a g}(hL:Leavers P t gs q)(hP:gX t)(h0:gs[0]? =some a)(ha:a.status=.running)(hi:gs[i]? =some g)(hpos:0<i)(hg:g.status=.running):∃gs' ops q',runT P (crowd gs w sl) i=(.next (crowd gs' w sl),ops)/\gs'[0]? =some a/\gs'.size=gs.size/\Leavers P (t++ops) gs' q'/\gX (t++ops)/\sumTo gs'.size q'<sumTo gs.size q:=by
 have hq:=hL.old i g hpos hi;have fy:(i==0)=false:=by simp;omega
 have aM:i<gs.size:=(Array.getElem?_eq_some_iff.1 hi).1;cases hqi:q i with
 |zero=>rw[hqi]at hq;rw[hq.1]at hg;cases hg
 |succ k=>
 rw[hqi]at hq;rcases hq with⟨hf,_⟩|⟨_,g',es,hm,ahY,hq'⟩;rw[hf]at hg;cases hg;have WI:=runT_crowd_go (P:=P) (w:=w) (sl:=sl) (i:=i) hi (by rw[fy];exact ahY w);have lC:((gs.map (woken P g g' w)).setIfInBounds i g').size=gs.size:=by simp
 have alC:sumTo gs.size (upd q i k)+(k+1)=sumTo gs.size q+k:=by have:=sumTo_upd q k id aM;simpa[hqi]using this
 refine⟨_,_,upd q i k,WI,?_,lC,⟨λj x hj hx=>?_,λj hj=>?_⟩,hP.mute (by omega) hm,by rw[lC];omega⟩;have cE:i≠0:=by omega
 rw[Array.getElem?_setIfInBounds_ne cE,Array.getElem?_map,h0];simp[woken_run ha];by_cases aS:i=j;subst aS;rw[Array.getElem?_setIfInBounds_self_of_lt (by simpa using aM)]at hx;obtain rfl:=Option.some.inj hx;rw[upd_same,Deaf_own];exact hq';rw[Array.getElem?_setIfInBounds_ne aS,Array.getElem?_map]at hx;obtain⟨y,hy,rfl⟩:=Option.map_eq_some_iff.1 hx;have hqj:=hL.old j y hj hy;rw[woken_quitsD hqj,upd_ne q k (Ne.symm aS),Deaf_other t aS _ (λop cI=>by obtain⟨e,_,rfl⟩:=Go.Conc.mem_ofEvents cI;rfl)];exact hqj;rw[Deaf_other t (g':=i) (by simp at hj;omega) _ (λop cI=>by obtain⟨e,_,rfl⟩:=Go.Conc.mem_ofEvents cI;rfl)];exact hL.above j (by simpa using hj)
def qS{P t gs q a}(hL:Leavers P t gs q)(h0:gs[0]? =some a)(ha:a.status=.running):∀g∈gs,awake g:=by
 intro g hg;obtain⟨i,hi,rfl⟩:=Array.mem_iff_getElem.1 hg;rcases Nat.eq_zero_or_pos i with rfl|hpos;have:gs[0]=a:=by simpa[Array.getElem?_eq_getElem hi]using h0
 rw[this];exact awake_of (.inl ha);exact awake_of ((hL.old i _ hpos (Array.getElem?_eq_getElem hi)).status.elim .inl λx=>.inr (.inr x))
def C7(P:Program)(Stop:Goroutine->World->Prop)(a:Goroutine)(w:World):Prop:=∀(gs:Array Goroutine)(sl:Option (Nat×Nat))(t:Trace)(q:Nat->Nat),gs[0]? =some a->Leavers P t gs q->gX t->∃(N:Nat)(gs':Array Goroutine)(a':Goroutine)(w':World)(oY:Option (Nat×Nat))(t':Trace)(q':Nat->Nat),runNT P N (crowd gs w sl) t=(.next (crowd gs' w' oY),t')/\gs'[0]? =some a'/\Leavers P t' gs' q'/\gX t'/\Stop a' w'
section
variable{P:Program}{Stop CD:Goroutine->World->Prop}{a:Goroutine}{w:World}
def C7.stop(h:Stop a w):C7 P Stop a w:=λgs sl t q h0 hL hP=>⟨0,gs,a,w,sl,t,q,rfl,h0,hL,hP,h⟩
def C7.trans(h:C7 P Stop a w)(h':∀a' w',Stop a' w'->C7 P CD a' w'):C7 P CD a w:=by intro gs sl t q h0 hL hP;obtain⟨N,gs1,a1,w1,ZB,t1,q1,r1,h1,L1,P1,s1⟩:=h gs sl t q h0 hL hP;obtain⟨N2,gs2,a2,w2,sl2,t2,q2,r2,h2,L2,P2,s2⟩:=h' a1 w1 s1 gs1 ZB t1 q1 h1 L1 P1;exact⟨N+N2,gs2,a2,w2,sl2,t2,q2,by rw[runNT_add,r1];exact r2,h2,L2,P2,s2⟩
def C7.mono(h:C7 P Stop a w)(h':∀a' w',Stop a' w'->CD a' w'):C7 P CD a w:=h.trans λa' w' s=>.stop (h' a' w' s)
def C7.step(hr:a.status=.running)(h:∀d,∃a' w' ops,(∀op∈ops,op.g=0)/\(∀t,Deaf (t++ops) 0=Deaf t 0)/\(∀gs sl,Calm gs->gs[0]? =some a->runT P (crowd gs (w.at d) sl) 0=(.next (crowd (gs.setIfInBounds 0 a') w' sl),ops))/\C7 P Stop a' w'):C7 P Stop a w:=by
 have key:∀(M:Nat)(gs:Array Goroutine)(sl:Option (Nat×Nat))(t:Trace)(q:Nat->Nat)(e:Nat),sumTo gs.size q<=M->gs[0]? =some a->Leavers P t gs q->gX t->∃(N:Nat)(gs':Array Goroutine)(a':Goroutine)(w':World)(oY:Option (Nat×Nat))(t':Trace)(q':Nat->Nat),runNT P N (crowd gs (w.at e) sl) t=(.next (crowd gs' w' oY),t')/\gs'[0]? =some a'/\Leavers P t' gs' q'/\gX t'/\Stop a' w':=by
  intro M;induction M with
  |zero=>
  intro gs sl t q e hM h0 hL hP;obtain⟨i,g,d,oY,hi,hg,aT⟩:=crowd_pick (P:=P) (w:=w.at e) (sl:=sl) (qS hL h0 hr) ⟨0,a,h0,hr⟩;rcases Nat.eq_zero_or_pos i with rfl|hpos;obtain rfl:g=a:=by rw[h0]at hi;exact(Option.some.inj hi).symm
  obtain⟨a',w',ops,b1,b2,b3,b4⟩:=h d;have WU:=aT.trans (b3 gs oY (tY hL) h0);have aM:0<gs.size:=(Array.getElem?_eq_some_iff.1 h0).1;obtain⟨N,gs2,a2,w2,sl2,t2,q2,r2,h2,L2,P2,s2⟩:=b4 (gs.setIfInBounds 0 a') oY (t++ops) q (by simp[aM]) (xn hL a' aM b1) (hP.app0 b1 (b2 t));exact⟨N+1,gs2,a2,w2,sl2,t2,q2,by simp only[runNT,WU];exact r2,h2,L2,P2,s2⟩;obtain⟨gs',ops,q',c1,c2,c3,c4,c5,c6⟩:=slip (w:=(w.at e).at d) (sl:=oY) hL hP h0 hr hi hpos hg;omega
  |succ M ih=>
  intro gs sl t q e hM h0 hL hP;obtain⟨i,g,d,oY,hi,hg,aT⟩:=crowd_pick (P:=P) (w:=w.at e) (sl:=sl) (qS hL h0 hr) ⟨0,a,h0,hr⟩;rcases Nat.eq_zero_or_pos i with rfl|hpos;obtain rfl:g=a:=by rw[h0]at hi;exact(Option.some.inj hi).symm
  obtain⟨a',w',ops,b1,b2,b3,b4⟩:=h d;have WU:=aT.trans (b3 gs oY (tY hL) h0);have aM:0<gs.size:=(Array.getElem?_eq_some_iff.1 h0).1;obtain⟨N,gs2,a2,w2,sl2,t2,q2,r2,h2,L2,P2,s2⟩:=b4 (gs.setIfInBounds 0 a') oY (t++ops) q (by simp[aM]) (xn hL a' aM b1) (hP.app0 b1 (b2 t));exact⟨N+1,gs2,a2,w2,sl2,t2,q2,by simp only[runNT,WU];exact r2,h2,L2,P2,s2⟩;obtain⟨gs',ops,q',c1,c2,c3,c4,c5,c6⟩:=slip (w:=(w.at e).at d) (sl:=oY) hL hP h0 hr hi hpos hg;obtain⟨N,gs2,a2,w2,sl2,t2,q2,r2,h2,L2,P2,s2⟩:=ih gs' oY (t++ops) q' d (by omega) c2 c4 c5;exact⟨N+1,gs2,a2,w2,sl2,t2,q2,by simp only[runNT,aT.trans c1];exact r2,h2,L2,P2,s2⟩
 intro gs sl t q h0 hL hP;exact key _ gs sl t q w.drawn ν h0 hL hP
def KJ(hS:∀g w τ n,Stop g w->Stop g (w.re τ n))(h:Term P Stop a w):Ld a->∀τ n,C7 P Stop a (w.re τ n):=by induction h with|stop h=>exact λ_ τ n=>.stop (hS _ _ _ _ h)|next nx h1 h2 h3 ih=>intro hl τ n;refine C7.step hl.run λd=>?_;obtain⟨ops,k,hm⟩:=h1 τ d;refine⟨_,_,ops,hm.own,hm.deaf,λgs sl hc h0=>hm.same τ d (λ_ _=>rfl) gs sl hc h0,?_⟩;exact ih τ d (h2 τ d).1 τ (d+k)
def KL(hB:bu P)(hS:∀g w τ n,Stop g w->Stop g (w.re τ n))(hl:Ld a)(hd:a.dying=none)(h:DQ P Stop a w):C7 P Stop a w:=KJ hS (te hB hS hl hd h) hl w.tape w.drawn
end
end Tp
