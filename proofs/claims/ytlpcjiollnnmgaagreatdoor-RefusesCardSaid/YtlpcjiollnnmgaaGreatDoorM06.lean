import Derived.Test.YtlpcjiollnnmgaaGreatDoorM05
import Derived.Conc.Beside
import Derived.Conc.CrowdComm
set_option maxRecDepth 100000
set_option maxHeartbeats 8000000
set_option linter.all false
def Go.Item.fine:Go.Item->Prop
 |.call ..=>False|.extern row _=>row= "runtime.print$piece"|_=>True
namespace Go.Proofs.YtlpcjiollnnmgaaGreatDoor
namespace Rn
section
variable{P:Program}{E:Env}{X:List Nat}{α β:Type}
def rg_makeSlice t (hz : ∀ e, P.underlying t = some (.slice e) -> ZeroOK P e) {l l' c c'} (hl : V E X l l') (hc : V E X c c') : RG P E (λX' v v' => V E X' v v') X (Instr.makeSlice t l c) (Instr.makeSlice t l' c') := by
  unfold Instr.makeSlice
  refine re_bind (re_underlying t) ?_
  rintro d _ ⟨rfl, hu⟩
  split
  · rename_i elem
    refine re_bind (R := Eq) (re_asInt hl) λlen _ e => ?_
    subst e
    refine re_bind (R := Eq) (re_asInt hc) λcap _ e => ?_
    subst e
    refine re_eq (re_typeInfo' elem) λinfo => ?_
    dsimp only
    have hfin : ∀ (z : Array Value) (n a b : Nat), (∀ (i : Nat) v, z[i]? = some v -> Clean v) -> RG P E (λX' v v' => V E X' v v') X
        (do let x <- newRow elem ((Array.range n).map (z[· % z.size]!)); pure (.slice (some x) a b))
        (do let x <- newRow elem ((Array.range n).map (z[· % z.size]!)); pure (.slice (some x) a b)) := by
      intro z n a b hcl
      refine rg_bind (rg_newRow elem (VA.zeros hcl n)) ?_
      rintro Y x x' ⟨_, ha⟩
      rw [ha.eq]
      exact ⟨_, rfl, .slice _ _ _ _ _ _ ha.1⟩
    have hgo : RG P E (λX' v v' => V E X' v v') X
        (do askRoom ((IntKind.i64.wrap cap).toNat * info.bytes)
            let n := (IntKind.i64.wrap cap).toNat * (<- sizeOf elem)
            let zero <- if n = 0 then pure #[] else do pure (<- zeroValue elem).cells
            let a <- newRow elem ((Array.range n).map (zero[· % zero.size]!))
            pure (.slice (some a) (IntKind.i64.wrap len).toNat (IntKind.i64.wrap cap).toNat))
        (do askRoom ((IntKind.i64.wrap cap).toNat * info.bytes)
            let n := (IntKind.i64.wrap cap).toNat * (<- sizeOf elem)
            let zero <- if n = 0 then pure #[] else do pure (<- zeroValue elem).cells
            let a <- newRow elem ((Array.range n).map (zero[· % zero.size]!))
            pure (.slice (some a) (IntKind.i64.wrap len).toNat (IntKind.i64.wrap cap).toNat)) := by
      refine re_bind (re_askRoom _) λ_ _ _ => ?_
      refine re_eq (re_sizeOf _) λn => ?_
      dsimp only
      refine rg_ite ?_ ?_
      · exact re_bind (R := λa b => a = #[] /\ b = #[]) (re_pure ⟨rfl, rfl⟩) (λa b ⟨e1, e2⟩ => by subst e1; subst e2; exact hfin _ _ _ _ (λi v h => by simp at h))
      · refine re_bind (re_zeroValue _ (hz _ hu)) ?_
        rintro z z' ⟨e, hc⟩
        subst e
        exact re_bind (R := λa b => a = z.cells /\ b = z.cells) (re_pure ⟨rfl, rfl⟩) (λa b ⟨e1, e2⟩ => by subst e1; subst e2; exact hfin _ _ _ _ hc.cells)
    refine rg_ite ?_ hgo
    refine rg_ite ?_ (rg_ite ?_ ?_)
    all_goals first
      | (refine SemR.bind (Φ := λ_ _ _ => False) (λ_ _ _ h => h.elim) (rg_panic ?_); exact trivial)
      | skip
    refine re_eq (re_choose _) λn => ?_
    refine SemR.bind (Φ := λ_ _ _ => False) (λ_ _ _ h => h.elim) (rg_panic ?_)
    exact trivial
  · exact trivial
def rg_makeMap t:RG P E (λX' v v'=>V E X' v v') X (Instr.makeMap t none) (Instr.makeMap t none):=by unfold Instr.makeMap;refine rg_bind (rg_newObj (.map #[] #[] 0 ⟨rfl,λi v v' h=>by simp at h⟩)) ?_;rintro Y r b⟨_,hr⟩;exact⟨_,rfl,.map _ _ hr⟩
def re_len t(ht:∀d,P.underlying t=some d->(∀k e,d≠.map k e)/\∀a b,d≠.chan a b) ty{v v'}(hv:V E X v v'):RE P E (V E X) X (Builtin.len_ #[t] ty #[v]) (Builtin.len_ #[t] ty #[v']):=by
 unfold Builtin.len_;show RE P E (V E X) X (underlying t >>= λd=>_) (underlying t >>= λd=>_);refine re_bind (re_underlying t) ?_;rintro d _⟨rfl,hu⟩;have hne:=ht d hu;cases d with
 |array n e=>exact re_pure (.int _ _)|string=>cases hv with|string s=>exact re_pure (.int _ _)|_=>exact trivial
 |slice e=>cases hv with|sliceN n c=>exact re_pure (.int _ _)|slice=>exact re_pure (.int _ _)|_=>exact trivial
 |pointer arr=>refine re_eq (re_underlying' arr) λd2=>?_;split;exact re_pure (.int _ _);exact trivial|map k e=>exact absurd rfl (hne.1 k e)
 |chan a b=>exact absurd rfl (hne.2 a b)|_=>exact trivial
def norm_bind'{s}{f:α->Sem β}{a}(h:norm P s=.pure a):norm P (s >>= f)=norm P (f a):=by show norm P (s.bind f)=_;rw[norm_bind P f s,h];rfl
theorem norm_norm:∀s:Sem α,norm P (norm P s)=norm P s
 |.program k=>norm_norm (k P)|.pure _|.load _ _ _|.store _ _ _ _|.new _ _|.shape _ _|.freeze _ _ _|.frozen _ _|.getObj _ _|.setObj _ _ _|.choose _ _|.sys _ _|.mark _ _|.halt _=>rfl
def norm_halt'{s}{f:α->Sem β}{a}(h:norm P s=.halt a):norm P (s >>= f)=.halt a:=by show norm P (s.bind f)=_;rw[norm_bind P f s,h];rfl
def re_checkKey{t}(hs:P.underlying t=some .string) em em' n m v v':RE P E (λ_ _=>True) X (Instr.checkKey em (n+1) t v) (Instr.checkKey em' (m+1) t v'):=by unfold Instr.checkKey;refine re_bind (re_underlying t) ?_;rintro d _⟨rfl,hu⟩;rw[hs]at hu;cases hu;exact re_pure trivial
def norm_equal{t}(hs:P.underlying t=some .string) x y:(∃a b,x=.string a/\y=.string b/\norm P (Op.equal t x y)=.pure (a==b))∨∃h,NoInit h/\norm P (Op.equal t x y)=.halt h:=by
 have:norm P (Op.equal t x y)=norm P (Op.equalIn Op.maxDepth t x y):=rfl;rw[this,show Op.maxDepth=(Op.maxDepth-1)+1 from rfl];unfold Op.equalIn;rw[norm_bind' (norm_underlying hs)];cases x with
 |string a=>cases y with|string b=>exact .inl ⟨a,b,rfl,rfl,rfl⟩|_=>(refine .inr ⟨_,?_,rfl⟩;exact trivial)
 |_=>(refine .inr ⟨_,?_,rfl⟩;exact trivial)
def FR(E:Env)(X:List Nat)(l l':List MapEntry)(i:Nat)(r r':Option (Nat×Value)):Prop:=r=none/\r'=none∨∃j v v' s,r=some (i+j,v)/\r'=some (i+j,v')/\V E X v v'/\(∃e e',l[j]? =some e/\l'[j]? =some e'/\e.key=.string s/\e'.key=.string s)
structure ML(E:Env)(X:List Nat)(l l':List MapEntry):Prop where
 size:l.length=l'.length
 el:∀(i:Nat)(v v':MapEntry),l[i]? =some v->l'[i]? =some v'->ME E X v v'
def MA.list{a a'}(h:MA E X a a'):ML E X a.toList a'.toList:=⟨by simpa using h.size,λi v v' h1 h2=>h.el i v v' (by simpa using h1) (by simpa using h2)⟩
theorem findNow_rel{k k'}(hk:V E X k k'):∀l l' i,ML E X l l'->Instr.findNow .string k l i=none∨∃r r' s,Instr.findNow .string k l i=some r/\Instr.findNow .string k' l' i=some r'/\FR E X l l' i r r'/\(r≠none->k=.string s/\k'=.string s/\∀j v,r=some (i+j,v)->∃e e',l[j]? =some e/\l'[j]? =some e'/\e.key=.string s/\e'.key=.string s)
 |[],l',i,h=>by have:l'=[]:=List.eq_nil_of_length_eq_zero (by have:=h.size;simpa using this.symm);subst this;exact .inr ⟨none,none,ByteArray.empty,rfl,rfl,.inl ⟨rfl,rfl⟩,λh=>absurd rfl h⟩|e::l,[],i,h=>by have:=h.size;simp at this|e::l,e'::l',i,h=>by
  have he:=h.el 0 e e' rfl rfl;unfold Instr.findNow;cases hk with
  |string s=>
   cases e with|mk key val born=>
   cases e' with|mk key' val' born'=>
   cases he.key with
   |string s2=>
    have h1:Instr.sameNow .string (.string s) (.string s2)=some (s==s2):=rfl;dsimp only;rw[h1];cases hss:(s==s2)with
    |true=>
    obtain rfl:s=s2:=(Go.MapKept.bytes_beq s s2).1 hss;exact .inr ⟨_,_,s,rfl,rfl,.inr ⟨0,val,val',s,rfl,rfl,he.val,_,_,rfl,rfl,rfl,rfl⟩,λ_=>⟨rfl,rfl,λj v hj=>by
    have:j=0:=by injection hj with hj;injection hj with hj _;omega
    subst this;exact⟨_,_,rfl,rfl,rfl,rfl⟩⟩⟩
    |false=>
    dsimp only;rcases findNow_rel (.string s:V E X _ _) l l' (i+1) ⟨by have:=h.size;simpa using this,λj v v' a b=>h.el (j+1) v v' (by simpa using a) (by simpa using b)⟩with hn|⟨r,r',s3,h2,h3,h4,h5⟩;exact .inl hn;refine .inr ⟨r,r',s3,h2,h3,?_,λhr=>?_⟩;rcases h4 with⟨rfl,rfl⟩|⟨j,v,v',s4,rfl,rfl,hv,e1,e2,a1,a2,a3⟩;exact .inl ⟨rfl,rfl⟩;exact .inr ⟨j+1,v,v',s4,by rw[show i+1+j=i+(j+1)by omega],by rw[show i+1+j=i+(j+1)by omega],hv,e1,e2,by simpa using a1,by simpa using a2,a3⟩;obtain⟨b1,b2,b3⟩:=h5 hr;refine⟨b1,b2,λj v hj=>?_⟩;cases j with
    |zero=>rcases h4 with⟨rfl,rfl⟩|⟨j',v2,v2',s4,rfl,rfl,_⟩;exact absurd rfl hr;injection hj with hj;injection hj with hj _;omega
    |succ j=>obtain⟨x,x',c1,c2,c3⟩:=b3 j v (by rw[hj,show i+1+j=i+(j+1)by omega]);exact⟨x,x',by simpa using c1,by simpa using c2,c3⟩
   |_=>exact .inl rfl
  |_=>exact .inl rfl
theorem findAsking_halts{t}(hs:P.underlying t=some .string) k:∀l i,Instr.findNow .string k l i=none->∃h,NoInit h/\norm P (Instr.findAsking t k l i)=.halt h
 |[],i,h=>by cases h
 |e::l,i,h=>by
  unfold Instr.findAsking;unfold Instr.findNow at h;rcases norm_equal (P:=P) hs k e.key with⟨a,b,rfl,hb,he⟩|⟨x,hni,he⟩;rw[norm_bind' he];rw[hb]at h;have h1:Instr.sameNow .string (.string a) (.string b)=some (a==b):=rfl;rw[h1]at h;cases hab:(a==b)with
  |true=>rw[hab]at h;cases h
  |false=>rw[hab]at h;exact findAsking_halts hs _ l (i+1) h
  exact⟨x,hni,norm_halt' he⟩
def re_findKey{t}(hs:P.underlying t=some .string){k k'}(hk:V E X k k'){l l'}(hl:ML E X l l'):RE P E (λr r'=>FR E X l l' 0 r r'/\(r≠none->∃s,k=.string s/\k'=.string s/\∀j v,r=some (j,v)->∃e e',l[j]? =some e/\l'[j]? =some e'/\e.key=.string s/\e'.key=.string s)) X (Instr.findKey t k l) (Instr.findKey t k' l'):=by unfold Instr.findKey;refine re_bind (re_underlying t) ?_;rintro d _⟨rfl,hu⟩;rw[hs]at hu;cases hu;rcases findNow_rel hk l l' 0 hl with hn|⟨r,r',s,h1,h2,h3,h4⟩;rw[hn];obtain⟨x,hni,hx⟩:=findAsking_halts hs k l 0 hn;exact lone_norm (s:=.halt x) (by rw[hx];rfl) hni;rw[h1,h2];refine re_pure ⟨h3,λhr=>?_⟩;obtain⟨a,b,c⟩:=h4 hr;exact⟨s,a,b,λj v hj=>c j v (by simpa using hj)⟩
def MapOK(P:Program)(t:TypeId):Prop:=∃k e,P.underlying t=some (.map k e)/\P.underlying k=some .string/\ZeroOK P e
def re_lookup {t} (ht : MapOK P t) {x x' i i'} (hx : V E X x x') (hi : V E X i i') ok : RE P E (V E X) X (Instr.lookup t x i ok) (Instr.lookup t x' i' ok) := by
  obtain ⟨k, e, h1, h2, h3⟩ := ht
  unfold Instr.lookup
  refine re_bind (re_underlying t) ?_
  rintro d _ ⟨rfl, hu⟩
  rw [h1] at hu
  cases hu
  dsimp only
  have fin : ∀ a a', MA E X a a' -> RE P E (V E X) X
      (do Instr.checkKey a.isEmpty 10000 k i
          let (v, ok') <- match <- Instr.findKey k i a.toList with
            | some (_, v) => pure (v, true)
            | none => do pure (<- zeroValue e, false)
          pure (if ok then .tuple #[v, .bool ok'] else v))
      (do Instr.checkKey a'.isEmpty 10000 k i'
          let (v, ok') <- match <- Instr.findKey k i' a'.toList with
            | some (_, v) => pure (v, true)
            | none => do pure (<- zeroValue e, false)
          pure (if ok then .tuple #[v, .bool ok'] else v)) := by
    intro a a' ha
    refine re_bind (re_checkKey h2 _ _ 9999 9999 _ _) λ_ _ _ => ?_
    refine re_bind (re_findKey h2 hi ha.list) ?_
    rintro r r' ⟨hr, _⟩
    have fin : ∀ v v' b, V E X v v' -> RE P E (V E X) X (pure (if ok = true then Value.tuple #[v, .bool b] else v)) (pure (if ok = true then Value.tuple #[v', .bool b] else v')) := by
      intro v v' b hv
      cases ok with
      | true => exact re_pure (V.ofTuple ((VA.one hv).push (.bool b)))
      | false => exact re_pure hv
    rcases hr with ⟨rfl, rfl⟩ | ⟨j, v, v', s, rfl, rfl, hv, _⟩
    · refine re_bind (re_zeroValue e h3) ?_
      rintro z z' ⟨rfl, hz⟩
      exact fin _ _ false (hz.self X)
    · exact fin _ _ true hv
  cases hx with
  | mapN => exact fin #[] #[] ⟨rfl, λi v v' h => by simp at h⟩
  | map r b h =>
    refine re_bind (re_getObj h) λo o' ho => ?_
    cases ho with
    | map a a' n ha => exact fin a a' ha
    | _ => exact trivial
  | undef _ hf => exact trivial
  | _ => exact trivial
def MA.modify{a a'}(h:MA E X a a') i{f f'}(hf:∀e e',ME E X e e'->ME E X (f e) (f' e')):MA E X (a.modify i f) (a'.modify i f'):=by refine⟨by simp[h.size],λj x x' h1 h2=>?_⟩;rw[Array.getElem?_modify]at h1 h2;split at h1;rename_i hj;rw[if_pos hj]at h2;obtain⟨y,hy,rfl⟩:=Option.map_eq_some_iff.1 h1;obtain⟨y',hy',rfl⟩:=Option.map_eq_some_iff.1 h2;exact hf _ _ (h.el j y y' hy hy');rename_i hj;rw[if_neg hj]at h2;exact h.el j x x' h1 h2
def MA.push{a a'}(h:MA E X a a'){e e'}(he:ME E X e e'):MA E X (a.push e) (a'.push e'):=by refine⟨by simp[h.size],λi x x' h1 h2=>?_⟩;rw[Array.getElem?_push]at h1 h2;rw[<-h.size]at h2;split at h1;rename_i hi;rw[if_pos hi]at h2;cases h1;cases h2;exact he;rename_i hi;rw[if_neg hi]at h2;exact h.el i x x' h1 h2
def sameBits_string s:Instr.sameBits 10000 (.string s) (.string s)=true:=by unfold Instr.sameBits;exact(Go.MapKept.bytes_beq s s).2 rfl
def re_mapUpdate{t}(ht:MapOK P t){m m' k k' x x'}(hm:V E X m m')(hk:V E X k k')(hx:V E X x x'):RE P E (λ_ _=>True) X (Instr.mapUpdate t m k x) (Instr.mapUpdate t m' k' x'):=by
 obtain⟨kt,e,h1,h2,h3⟩:=ht;unfold Instr.mapUpdate;refine re_bind (re_underlying t) ?_;rintro d _⟨rfl,hu⟩;rw[h1]at hu;cases hu;dsimp only;cases hm with
 |map r b h=>
  refine re_bind (re_getObj h) λo o' ho=>?_;cases ho with
  |map a a' n ha=>
  dsimp only;refine re_bind (re_checkKey h2 _ _ 9999 9999 _ _) λ_ _ _=>?_;refine re_bind (re_findKey h2 hk ha.list) ?_;rintro r1 r1'⟨hr,hs⟩;rcases hr with⟨rfl,rfl⟩|⟨j,v,v',s,rfl,rfl,hv,_⟩;exact re_setObj h (.map _ _ _ (ha.push ⟨hk,hx,rfl⟩));obtain⟨s,rfl,rfl,hs2⟩:=hs (by simp);obtain⟨e1,e1',a1,a2,a3,a4⟩:=hs2 _ v rfl;have b1:(((a[0+j]?).map (·.key)).getD (.string s):Value)=.string s:=by rw[show a[0+j]? =some e1 by simpa using a1];exact a3
  have b2:(((a'[0+j]?).map (·.key)).getD (.string s):Value)=.string s:=by rw[show a'[0+j]? =some e1' by simpa using a2];exact a4
  dsimp only;rw[b1,b2];have hst:(Instr.keyThatStays (.string s) (.string s):Sem Value)=pure (.string s):=by unfold Instr.keyThatStays;rw[sameBits_string];rfl
  rw[hst];exact re_setObj h (.map _ _ _ (ha.modify _ λe e' he=>⟨.string s,hx,he.born⟩))
  |_=>exact trivial
 |undef _ hf=>exact trivial|_=>exact trivial
def rg_range {t} (ht : ∀ d, P.underlying t = some d -> ∃ k e, d = .map k e) {x x'} (hx : V E X x x') : RG P E (λX' v v' => V E X' v v') X (Instr.range t x) (Instr.range t x') := by
  unfold Instr.range
  refine re_bind (re_underlying t) ?_
  rintro d _ ⟨rfl, hu⟩
  obtain ⟨k, e, rfl⟩ := ht d hu
  have fin : ∀ o o', ObjR E X o o' -> RG P E (λX' v v' => V E X' v v') X (do pure (.pointer (some ⟨<- newObj o, 0, none⟩)) : Sem Value) (do pure (.pointer (some ⟨<- newObj o', 0, none⟩)) : Sem Value) := by
    intro o o' ho
    refine rg_bind (rg_newObj ho) ?_
    rintro Y r b ⟨_, hr⟩
    exact ⟨_, rfl, .ptr _ _ _ _ hr⟩
  cases hx with
  | mapN => exact fin _ _ (.iterN 0 #[] 0)
  | map r b h =>
    refine re_bind (re_getObj h) λo o' ho => ?_
    cases ho with
    | map a a' n ha => exact fin _ _ (.iter r b n #[] n h)
    | _ => exact trivial
  | _ => exact trivial
def MA.get{a a'}(h:MA E X a a')(i:Nat):(∃v v',a[i]? =some v/\a'[i]? =some v'/\ME E X v v')∨(a[i]? =none/\a'[i]? =none):=by
 by_cases hi:i<a.size;have hi':i<a'.size:=by rw[<-h.size];exact hi
 exact .inl ⟨a[i],a'[i],Array.getElem?_eq_getElem hi,Array.getElem?_eq_getElem hi',h.el i _ _ (Array.getElem?_eq_getElem hi) (Array.getElem?_eq_getElem hi')⟩;exact .inr ⟨Array.getElem?_eq_none (by omega),Array.getElem?_eq_none (by rw[<-h.size];omega)⟩
def ML.cons{e e' l l'}(h:ML E X (e::l) (e'::l')):ME E X e e'/\ML E X l l':=⟨h.el 0 e e' rfl rfl,by have:=h.size;simpa using this,λi v v' h1 h2=>h.el (i+1) v v' (by simpa using h1) (by simpa using h2)⟩
def ML.push{e e' l l'}(he:ME E X e e')(h:ML E X l l'):ML E X (e::l) (e'::l'):=⟨by simp[h.size],λi v v' h1 h2=>by
 cases i with
 |zero=>cases h1;cases h2;exact he
 |succ i=>exact h.el i v v' (by simpa using h1) (by simpa using h2)⟩
def ML.nil2{l'}(h:ML E X [] l'):l'=[]:=List.eq_nil_of_length_eq_zero (by have:=h.size;simpa using this.symm)
theorem ML.filter(p:Nat->Bool):∀ {l l':List MapEntry},ML E X l l'->ML E X (l.filter λe=>p e.born) (l'.filter λe=>p e.born)
 |[],l',h=>by rw[h.nil2];exact⟨rfl,λi v v' h1=>by simp at h1⟩|e::l,[],h=>by have:=h.size;simp at this|e::l,e'::l',h=>by obtain⟨h1,h2⟩:=h.cons;rw[List.filter_cons,List.filter_cons,<-h1.born];split;exact(ML.filter p h2).push h1;exact ML.filter p h2
theorem ML.all(p:Nat->Bool):∀ {l l':List MapEntry},ML E X l l'->(l.all λe=>p e.born)=(l'.all λe=>p e.born)
 |[],l',h=>by rw[h.nil2]|e::l,[],h=>by have:=h.size;simp at this|e::l,e'::l',h=>by obtain⟨h1,h2⟩:=h.cons;rw[List.all_cons,List.all_cons,h1.born,ML.all p h2]
theorem ML.find(p:Nat->Bool):∀ {l l':List MapEntry},ML E X l l'->(∃e e',l.find? (λe=>p e.born)=some e/\l'.find? (λe=>p e.born)=some e'/\ME E X e e')∨(l.find? (λe=>p e.born)=none/\l'.find? (λe=>p e.born)=none)
 |[],l',h=>by rw[h.nil2];exact .inr ⟨rfl,rfl⟩|e::l,[],h=>by have:=h.size;simp at this|e::l,e'::l',h=>by obtain⟨h1,h2⟩:=h.cons;rw[List.find?_cons,List.find?_cons,<-h1.born];cases p e.born with|true=>exact .inl ⟨e,e',rfl,rfl,h1⟩|false=>exact ML.find p h2
def ML.ma{l l'}(h:ML E X l l'):MA E X l.toArray l'.toArray:=⟨by simpa using h.size,λi v v' h1 h2=>h.el i v v' (by simpa using h1) (by simpa using h2)⟩
def MA.filter(p:Nat->Bool){a a'}(h:MA E X a a'):MA E X (a.filter λe=>p e.born) (a'.filter λe=>p e.born):=by have:=(ML.filter p h.list).ma;rwa[<-Array.toList_filter,<-Array.toList_filter,Array.toArray_toList,Array.toArray_toList]at this
def MA.append{a a' b b'}(h:MA E X a a')(h':MA E X b b'):MA E X (a++b) (a'++b'):=by refine⟨by simp[h.size,h'.size],λi x x' h1 h2=>?_⟩;rw[Array.getElem?_append]at h1 h2;rw[<-h.size]at h2;split at h1;rename_i hi;rw[if_pos hi]at h2;exact h.el i x x' h1 h2;rename_i hi;rw[if_neg hi]at h2;exact h'.el _ x x' h1 h2
def re_next{i i'}(hi:V E X i i') ty:RE P E (V E X) X (Instr.next i false ty) (Instr.next i' false ty):=by
 unfold Instr.next;have over:RE P E (V E X) X (pure (.tuple #[.bool false])) (pure (.tuple #[.bool false])):=re_pure (V.ofTuple (VA.one (.bool false)));cases hi with
 |ptr r b off sp h=>
  cases off with|succ n=>exact trivial|zero=>
  refine re_bind (re_getObj h) λo o' ho=>?_;cases ho with
  |iterN s x n=>exact over|iter m m' s x n hm=>
   refine re_bind (re_getObj hm) λo o' ho=>?_;cases ho with
   |map a a' c ha=>
   dsimp only;have hsz:=ha.size;have hemp:a.isEmpty=a'.isEmpty:=by simp[Array.isEmpty,hsz]
   have hall:a.all (λe=>decide (e.born≥n))=a'.all (λe=>decide (e.born≥n)):=by rw[<-Array.all_toList,<-Array.all_toList];exact ML.all (λx=>decide (x≥n)) ha.list
   rw[hemp,hall];refine rg_ite trivial ?_;have hleft:=ha.filter λy=> !x.contains y;have hold:=hleft.filter λy=>decide (y<s);have hnew:=hleft.filter λy=>decide (y≥s);have hboth:=hold.append hnew;have hoe:((a.filter λe=> !x.contains e.born).filter λe=>decide (e.born<s)).isEmpty=((a'.filter λe=> !x.contains e.born).filter λe=>decide (e.born<s)).isEmpty:=by have:=hold.size;unfold Array.isEmpty;rw[this]
   rw[<-hoe];have hsz2:∀pre:Array (Option MapEntry),(pre++(((a.filter λe=> !x.contains e.born).filter λe=>decide (e.born<s))++((a.filter λe=> !x.contains e.born).filter λe=>decide (e.born≥s))).map some).size=(pre++(((a'.filter λe=> !x.contains e.born).filter λe=>decide (e.born<s))++((a'.filter λe=> !x.contains e.born).filter λe=>decide (e.born≥s))).map some).size:=by intro pre;have:=hboth.size;simp only[Array.size_append,Array.size_map]at this|-;omega
   rw[<-hsz2];refine re_eq (re_choose _) λpick=>?_;have hget:∀pre:Array (Option MapEntry),(∀y∈pre,y=none)->((∃e e',(pre++(((a.filter λe=> !x.contains e.born).filter λe=>decide (e.born<s))++((a.filter λe=> !x.contains e.born).filter λe=>decide (e.born≥s))).map some)[pick]? =some (some e)/\(pre++(((a'.filter λe=> !x.contains e.born).filter λe=>decide (e.born<s))++((a'.filter λe=> !x.contains e.born).filter λe=>decide (e.born≥s))).map some)[pick]? =some (some e')/\ME E X e e')∨((pre++(((a.filter λe=> !x.contains e.born).filter λe=>decide (e.born<s))++((a.filter λe=> !x.contains e.born).filter λe=>decide (e.born≥s))).map some)[pick]? =some none/\(pre++(((a'.filter λe=> !x.contains e.born).filter λe=>decide (e.born<s))++((a'.filter λe=> !x.contains e.born).filter λe=>decide (e.born≥s))).map some)[pick]? =some none)∨(pre++(((a.filter λe=> !x.contains e.born).filter λe=>decide (e.born<s))++((a.filter λe=> !x.contains e.born).filter λe=>decide (e.born≥s))).map some)[pick]? =none):=by intro pre hpre;generalize((a.filter λe=> !x.contains e.born).filter λe=>decide (e.born<s))++((a.filter λe=> !x.contains e.born).filter λe=>decide (e.born≥s))=u at hboth|-;generalize((a'.filter λe=> !x.contains e.born).filter λe=>decide (e.born<s))++((a'.filter λe=> !x.contains e.born).filter λe=>decide (e.born≥s))=u' at hboth|-;rw[Array.getElem?_append,Array.getElem?_append];by_cases hp:pick<pre.size;rw[if_pos hp,if_pos hp,Array.getElem?_eq_getElem hp,hpre _ (Array.getElem_mem hp)];exact .inr (.inl ⟨rfl,rfl⟩);rw[if_neg hp,if_neg hp,Array.getElem?_map,Array.getElem?_map];rcases hboth.get (pick-pre.size)with⟨e,e',h1,h2,h3⟩|⟨h1,h2⟩;rw[h1,h2];exact .inl ⟨e,e',rfl,rfl,h3⟩;rw[h1];exact .inr (.inr rfl)
   have hpre:∀y∈(if((a.filter λe=> !x.contains e.born).filter λe=>decide (e.born<s)).isEmpty=true then #[none]else #[]:Array (Option MapEntry)),y=none:=by intro y hy;split at hy;simpa using hy;simp at hy
   rcases hget _ hpre with⟨e,e',h1,h2,h3⟩|⟨h1,h2⟩|h1;rw[h1,h2];dsimp only;rw[<-h3.born];exact re_bind (re_setObj h (.iter _ _ _ _ _ hm)) λ_ _ _=>re_pure (V.ofTuple (((VA.one (.bool true)).push h3.key).push h3.val));rw[h1,h2];exact over;rw[h1];exact trivial
   |_=>exact trivial
  |_=>exact trivial
 |_=>exact trivial
def re_entry{i i'}(hi:V E X i i'):RE P E (V E X) X (Instr.entry i) (Instr.entry i'):=by
 unfold Instr.entry;cases hi with
 |ptr r b off sp h=>
  cases off with|succ n=>exact trivial|zero=>
  refine re_bind (re_getObj h) λo o' ho=>?_;cases ho with
  |iter m m' s x n hm=>
   dsimp only;cases x.back? with|none=>exact trivial|some st=>
   refine re_bind (re_getObj hm) λo o' ho=>?_;cases ho with
   |map a a' c ha=>dsimp only;refine rg_ite trivial ?_;have:=ML.find (λy=>y==st) ha.list;rw[Array.find?_toList,Array.find?_toList]at this;rcases this with⟨e,e',h1,h2,h3⟩|⟨h1,h2⟩;rw[h1,h2];exact re_pure (V.ofTuple ((VA.one h3.key).push h3.val));rw[h1];exact trivial
   |_=>exact trivial
  |_=>exact trivial
 |_=>exact trivial
def re_lenOf{x x'}(hx:V E X x x'):RE P E Eq X (Builtin.lenOf x) (Builtin.lenOf x'):=by cases hx<;>first|exact trivial|exact re_pure rfl
def VA.clean{a}(h:∀(i:Nat) v,a[i]? =some v->Clean v):VA E X a a:=⟨rfl,λi v v' h1 h2=>by rw[h1]at h2;cases h2;exact(h i v h1).self X⟩
def re_firstCells size n{x x'}(hx:V E X x x'):RE P E (VA E X) X (Builtin.firstCells size n x) (Builtin.firstCells size n x'):=by
 cases hx with
 |string s=>refine re_pure (VA.clean λi v h=>?_);rw[Array.getElem?_map]at h;obtain⟨b,_,rfl⟩:=Option.map_eq_some_iff.1 h;exact .int _ _
 |sliceN n c=>exact re_pure (VA.empty X)|slice r b off sp n c h=>exact re_loadCells (a:=⟨r,off,sp⟩) (a':=⟨b,off,sp⟩) ⟨h,rfl,rfl⟩ _
 |_=>exact trivial
def VA.zeroCells{z}(hz:∀(i:Nat) v,z[i]? =some v->Clean v) n:VA E X (Builtin.zeroCells z n) (Builtin.zeroCells z n):=by unfold Builtin.zeroCells;refine VA.clean λi v h=>?_;rw[Array.getElem?_map]at h;obtain⟨b,hb,rfl⟩:=Option.map_eq_some_iff.1 h;by_cases h0:z.size=0;rw[h0,Nat.mul_zero]at hb;simp at hb;have hlt:b % z.size<z.size:=Nat.mod_lt _ (by omega);refine hz (b % z.size) _ ?_;rw[getElem!_pos z _ hlt,Array.getElem?_eq_getElem hlt]
theorem HaltsR.rg:∀ {s s':Sem α}{Ψ:List Nat->α->α->Prop},HaltsR P s->RG P E Ψ X s s'
 |.program k,s',Ψ,h=>HaltsR.rg (s:=k P) h|.shape r k,s',Ψ,h=>.inr h|.frozen r k,s',Ψ,h=>h|.mark m k,s',Ψ,h=>.inr h|.halt x,_,_,h=>h|.pure _,_,_,h|.load _ _ _,_,_,h|.store _ _ _ _,_,_,h|.new _ _,_,_,h|.getObj _ _,_,_,h|.setObj _ _ _,_,_,h|.choose _ _,_,_,h|.sys _ _,_,_,h|.freeze _ _ _,_,_,h=>h.elim
inductive Looks(P:Program):∀ {α:Type},Sem α->Prop
 |pure {α:Type} (a:α):Looks P (.pure a)
 |shape {α:Type} (r:Nat) (k:Option (TypeId×Nat)->Sem α) (h:∀z,Looks P (k z)):Looks P (.shape r k)
 |frozen {α:Type} (r:Addr) (k:Bool->Sem α) (h:∀z,Looks P (k z)):Looks P (.frozen r k)
def Looks.halts{s}(h:Looks P s){f:α->Sem β}(hf:∀a,HaltsR P (f a)):HaltsR P (s >>= f):=by induction h with|pure a=>exact hf a|shape r k _ ih=>exact λz=>ih z|frozen r k _ ih=>exact λz=>ih z
def Looks.bind{s}(h:Looks P s){f:α->Sem β}(hf:∀a,Looks P (f a)):Looks P (s >>= f):=by induction h with|pure a=>exact hf a|shape r k _ ih=>exact .shape _ _ λz=>ih z|frozen r k _ ih=>exact .frozen _ _ λz=>ih z
def looks_holds a n:Looks P (Builtin.holdsCells a n):=by unfold Builtin.holdsCells;refine .shape _ _ λz=>?_;cases z<;>exact .pure _
def looks_mayShare size sLen n base x : Looks P (Builtin.mayShare size sLen n base x) := by
  unfold Builtin.mayShare
  have h2 : Looks P (match x with | .slice (some b) _ _ => do pure (!(<- Builtin.holdsCells b (n * size)) || base.any (·.block == b.block)) | _ => pure false : Sem Bool) := by
    split
    · exact (looks_holds _ _).bind λ_ => .pure _
    · exact .pure _
  dsimp only
  cases base with
  | none => exact h2
  | some a =>
    refine (looks_holds _ _).bind λb => (Looks.frozen _ _ λ_ => .pure _ : Looks P (frozen _)).bind λb2 => ?_
    show Looks P (if (!(b && !b2)) = true then _ else _)
    split
    · exact .pure _
    · exact h2
structure AppOK(P:Program)(t u:TypeId):Prop where
 zero:∀e,P.underlying t=some (.slice e)->ZeroOK P e
 what:∃d,P.underlying u=some d/\∀k,d≠.int k
def rg_appendAt{t u}(hok:AppOK P t u) ty{base base'}(hb:AO E X base base') sLen sCap{x x'}(hx:V E X x x'):RG P E (λX' v v'=>V E X' v v') X (Builtin.append_ #[t,u] ty #[.slice base sLen sCap,x]) (Builtin.append_ #[t,u] ty #[.slice base' sLen sCap,x']):=by
 obtain⟨hz,d2,hu2,hd2⟩:=hok;unfold Builtin.append_;simp only[List.getElem?_toArray,List.getElem?_cons_zero,List.getElem?_cons_succ];refine re_bind (re_underlying t) ?_;rintro d _⟨rfl,hu⟩;have hsv:V E X (.slice base sLen sCap) (.slice base' sLen sCap):=by rcases hb with⟨rfl,rfl⟩|⟨b,b',rfl,rfl,hb⟩;exact .sliceN _ _;rw[hb.eq];exact .slice _ _ _ _ _ _ hb.1
 cases d with
 |slice elem=>
 dsimp only;have hz:=hz elem hu;refine re_eq (re_sizeOf elem) λsize=>?_;refine re_bind (re_underlying u) ?_;rintro d _⟨rfl,hu3⟩;rw[hu2]at hu3;cases hu3;have hf:∀d:TypeDesc,(∀k,d≠.int k)->(match d with|.int _=>true|_=>false)=false:=by intro d hd;cases d<;>first|rfl|exact absurd rfl (hd _)
 refine re_bind (R:=λa b=>a=false/\b=false) (re_pure ⟨hf _ hd2,hf _ hd2⟩) ?_;rintro _ _⟨rfl,rfl⟩;simp only[Bool.false_eq_true,if_false,Bool.not_false,if_true];refine re_bind (R:=Eq) (re_lenOf hx) ?_;rintro n _ rfl;refine rg_ite ?_ ?_;refine re_bind (re_firstCells size n hx) λc c' hc=>?_;rcases hb with⟨rfl,rfl⟩|⟨b,b',rfl,rfl,hb⟩;exact re_rg (re_pure (.sliceN _ _)) λ_ _ h=>h;refine re_bind (re_storeCells (hb.add _) _ _ 0 (by simpa using hc)) λ_ _ _=>?_;rw[hb.eq];exact re_rg (re_pure (.slice _ _ _ _ _ _ hb.1)) λ_ _ h=>h;refine re_eq (re_typeInfo' elem) λinfo=>?_;refine rg_ite ?_ ?_;refine SemR.bind (Φ:=λ_ _ _=>False) (λ_ _ _ h=>h.elim) (rg_panic ?_);exact trivial;refine re_eq (re_typeInfo' elem) λinfo=>?_;refine rg_ite ?_ ?_;refine HaltsR.rg (HaltsR.bind ((looks_mayShare _ _ _ _ _).halts λb=>?_));split<;>exact trivial;refine re_eq (re_choose _) λnewCap=>?_;refine re_eq (re_typeInfo' elem) λinfo=>?_;refine re_bind (re_askRoom _) λ_ _ _=>?_;refine re_bind (re_firstCells size sLen hsv) λc c' hc=>?_;refine re_bind (re_firstCells size n hx) λe e' he=>?_;refine re_bind (re_zeroValue elem hz) ?_;rintro z z'⟨rfl,hcl⟩;refine rg_bind (rg_newRow elem ((hc.append he).append (VA.zeroCells hcl.cells _))) ?_;rintro Y r r'⟨_,hr⟩;rw[hr.eq];exact⟨_,rfl,.slice _ _ _ _ _ _ hr.1⟩
 |_=>exact trivial
def rg_append{t u}(hok:AppOK P t u) ty{s s' x x'}(hs:V E X s s')(hx:V E X x x'):RG P E (λX' v v'=>V E X' v v') X (Builtin.append_ #[t,u] ty #[s,x]) (Builtin.append_ #[t,u] ty #[s',x']):=by
 have halts:(∀b n c,s≠.slice b n c)->∀s',RG P E (λX' v v'=>V E X' v v') X (Builtin.append_ #[t,u] ty #[s,x]) s':=by
  intro hn s';refine lone_norm (s:=norm P (Builtin.append_ #[t,u] ty #[s,x])) (norm_norm _) ?_;unfold Builtin.append_;simp only[List.getElem?_toArray,List.getElem?_cons_zero,List.getElem?_cons_succ];cases hu:P.underlying t with
  |none=>
  have:∃h,NoInit h/\norm P (underlying t)=.halt h:=by
   unfold underlying;rw[norm_bind' (a:=P) rfl,hu]
   (refine⟨_,?_,rfl⟩;exact trivial)
  obtain⟨h,hni,this⟩:=this;rw[norm_halt' this];exact hni
  |some d=>
  rw[norm_bind' (norm_underlying hu)];cases d with
  |slice elem=>cases s<;>first|exact trivial|exact absurd rfl (hn _ _ _)
  |_=>exact trivial
 cases hs with|sliceN n c=>exact rg_appendAt hok ty (.inl ⟨rfl,rfl⟩) n c hx|slice r b off sp n c h=>exact rg_appendAt hok ty (ao h) n c hx|_=>exact halts (by intros;simp) _
inductive NX(E:Env)(X:List Nat):Next->Next->Prop
 |value (v v':Value) (h:V E X v v'):NX E X (.value v) (.value v')
 |skip:NX E X .skip .skip
 |enter (f:FuncId) (a a':Array Value) (hF:E.F f) (h:VA E X a a'):NX E X (.enter f a) (.enter f a')
def rg_value {s s'} (h : RG P E (λX' v v' => V E X' v v') X s s') : RG P E (NX E) X (do pure (.value (<- s))) (do pure (.value (<- s'))) := rg_bind h λY v v' hv => rg_pure (.value _ _ hv)
def re_value {s s'} (h : RE P E (V E X) X s s') : RG P E (NX E) X (do pure (.value (<- s))) (do pure (.value (<- s'))) := re_bind h λv v' hv => rg_pure (.value _ _ hv)
def re_unit {s s'} (h : RE P E (λ_ _ => True) X s s') : RG P E (NX E) X (do s; pure .skip) (do s'; pure .skip) := re_bind h λ_ _ _ => rg_pure .skip
def Bod(P:Program)(E:Env):Prop:=∀(f:Nat)(fn:Func),E.F f->P.funcs[f]? =some fn->fn.body.isNone=false/\(fn.name== "runtime.NumGoroutine")=false
def rg_callFunc(hB:Bod P E) f(hF:E.F f){a a'}(ha:VA E X a a'):RG P E (NX E) X (callFunc f a) (callFunc f a'):=by unfold callFunc;refine re_prog ?_;cases hf:P.funcs[f]? with|none=>exact trivial|some fn=>obtain⟨h1,h2⟩:=hB f fn hF hf;dsimp only;rw[h1,h2];simp only[Bool.false_eq_true,if_false];exact rg_pure (.enter _ _ _ hF ha)
def VA.mapOps{ev ev'}{Q:Operand->Prop}(hev:∀x,Q x->V E X (ev x) (ev' x))(l:Array Operand)(h:∀x∈l,Q x):VA E X (l.map ev) (l.map ev'):=VA.map ev ev' l λx hx=>hev x (h x hx)
def poison_call args : ∃ h, NoInit h /\ norm P (do let d <- Deferred.ofValue (.func (.method "") #[.nilIface] #[]) args; invoke d.target d.args : Sem Next) = .halt h := by
  have h1 : (#[Value.nilIface] ++ args)[0]? = some .nilIface := by rw [Array.getElem?_append_left (by simp)]; rfl
  rw [norm_bind' (a := { target := .fn (.method "") #[], args := #[.nilIface] ++ args }) rfl]
  unfold invoke
  dsimp only
  rw [h1]
  (refine ⟨_, ?_, rfl⟩; exact trivial)
def CallOK(P:Program)(Q:Operand->Prop)(c:Call):Prop:=(∀x∈c.args,Q x)/\match c.callee with
 |.value f=>Q f
 |.builtin .len=>∃t x,c.argTypes=#[t]/\c.args=#[x]/\∀d,P.underlying t=some d->(∀k e,d≠.map k e)/\∀a b,d≠.chan a b
 |.builtin .append=>∃t u x y,c.argTypes=#[t,u]/\c.args=#[x,y]/\AppOK P t u
 |_=>False
def rg_call (hB : Bod P E) {Q ev ev'} (hev : ∀ x, Q x -> V E X (ev x) (ev' x)) c (hc : CallOK P Q c) ty : RG P E (NX E) X (do let d <- resolve ev c ty; invoke d.target d.args) (do let d <- resolve ev' c ty; invoke d.target d.args) := by
  obtain ⟨callee, args, argTypes⟩ := c
  obtain ⟨h1, h2⟩ := hc
  have hargs := VA.mapOps hev args h1
  unfold resolve
  cases callee with
  | value f =>
    dsimp only
    have hf := hev f h2
    revert hf
    generalize ev f = v
    generalize ev' f = v'
    intro hf
    cases hf with
    | func g a a' c c' hF e1 e2 e3 e4 =>
      show RG P E (NX E) X (callFunc g _) (callFunc g _)
      exact rg_callFunc hB g hF (((VA.mk e1 e2 : VA E X a a').append hargs).append ⟨e3, e4⟩)
    | nilFunc => exact rg_panic (e := .nilDeref) (e' := .nilDeref) trivial
    | undef _ h =>
      obtain ⟨h0, hni, hh⟩ := poison_call (P := P) (args.map ev)
      exact lone_norm (s := .halt h0) hh.symm hni
    | _ => exact trivial
  | builtin b =>
    cases b with
    | len =>
      obtain ⟨t, x, e1, e2, h3⟩ := h2
      dsimp only at e1 e2
      subst e1; subst e2
      have hx := hev x (h1 x (by simp))
      show RG P E (NX E) X (do pure (.value (<- Builtin.len_ #[t] ty (#[x].map ev)))) (do pure (.value (<- Builtin.len_ #[t] ty (#[x].map ev'))))
      rw [show (#[x].map ev : Array Value) = #[ev x] by simp, show (#[x].map ev' : Array Value) = #[ev' x] by simp]
      exact re_value (re_len t h3 ty hx)
    | append =>
      obtain ⟨t, u, x, y, e1, e2, h3⟩ := h2
      dsimp only at e1 e2
      subst e1; subst e2
      have hx := hev x (h1 x (by simp))
      have hy := hev y (h1 y (by simp))
      show RG P E (NX E) X (do pure (.value (<- Builtin.append_ #[t, u] ty (#[x, y].map ev)))) (do pure (.value (<- Builtin.append_ #[t, u] ty (#[x, y].map ev'))))
      rw [show (#[x, y].map ev : Array Value) = #[ev x, ev y] by simp, show (#[x, y].map ev' : Array Value) = #[ev' x, ev' y] by simp]
      exact rg_value (rg_append h3 ty hx hy)
    | _ => exact h2.elim
  | invoke r n => exact h2.elim
def QO(Q:Operand->Prop):Option Operand->Prop
 |none=>True|some x=>Q x
def OpOK(P:Program)(E:Env)(Q:Operand->Prop)(o:Oper):Prop:=match o.op with
 |.move x|.assign x|.nilCheck x|.load _ x|.box _ x|.extract x _|.entry x=>Q x
 |.pick c a b=>Q c/\Q a/\Q b
 |.alloc e=>ZeroOK P e
 |.build t l=>ZeroOK P t/\∀x∈l,Q x.2
 |.buildSlice t _ l=>(∀e,P.underlying t=some (.slice e)->ZeroOK P e)/\∀x∈l,Q x.2
 |.store _ a x=>Q a/\Q x
 |.binOp op _ x y _=>BinOK op/\Q x/\Q y
 |.convert s d x=>ConvOK P s d/\Q x
 |.makeFunc (.func f) a c=>E.F f/\(∀x∈a,Q x)/\∀x∈c,Q x
 |.makeMap _ none=>True
 |.makeSlice t l c=>(∀e,P.underlying t=some (.slice e)->ZeroOK P e)/\Q l/\Q c
 |.slice _ x a b c=>Q x/\QO Q a/\QO Q b/\QO Q c
 |.fieldAddr t x _=>SizesOK P t/\Q x
 |.indexAddr _ x i|.index _ x i=>Q x/\Q i
 |.lookup t x i _=>MapOK P t/\Q x/\Q i
 |.mapUpdate t m k x=>MapOK P t/\Q m/\Q k/\Q x
 |.range t x=>(∀d,P.underlying t=some d->∃k e,d=.map k e)/\Q x
 |.next x s=>s=false/\Q x
 |.call c=>CallOK P Q c
 |_=>False
def PR.of{ev ev':Operand->Value}{Q:Operand->Prop}(hev:∀x,Q x->V E X (ev x) (ev' x))(l:Array (Nat×Operand))(h:∀x∈l,Q x.2):PR E X (l.map λ(i,x)=>(i,ev x)) (l.map λ(i,x)=>(i,ev' x)):=by
 refine⟨by simp,λi p p' h1 h2=>?_⟩;rw[Array.getElem?_map]at h1 h2;cases hl:l[i]? with
 |none=>rw[hl]at h1;cases h1
 |some y=>rw[hl]at h1 h2;cases h1;cases h2;exact⟨rfl,hev _ (h _ (Array.mem_of_getElem? hl))⟩
theorem VO.of{ev ev' Q}(hev:∀x,Q x->V E X (ev x) (ev' x)):∀x,QO Q x->VO E X (x.map ev) (x.map ev')
 |Option.none,_=>.none|Option.some x,h=>.some (hev x h)
def rg_execOp(hB:Bod P E)(hG:P.globals.size<=E.G){Q ev ev'}(hev:∀x,Q x->V E X (ev x) (ev' x)) o(ho:OpOK P E Q o):RG P E (NX E) X (execOp ev o) (execOp ev' o):=by
 obtain⟨dst,op,type,pos⟩:=o;cases op with
 |move x=>exact rg_pure (.value _ _ (hev x ho))|assign x=>exact rg_pure (.value _ _ (hev x ho))
 |pick c a b=>obtain⟨h1,h2,h3⟩:=ho;refine re_bind (R:=Eq) (re_asBool (hev c h1)) ?_;rintro b' _ rfl;cases b' with|true=>exact rg_pure (.value _ _ (hev a h2))|false=>exact rg_pure (.value _ _ (hev b h3))
 |alloc e=>exact rg_value (rg_alloc e ho)|box e x=>exact rg_value (rg_box e (hev x ho))
 |build t l=>exact re_value (re_build t ho.1 (PR.of hev l ho.2))|buildSlice t n l=>exact rg_value (rg_buildSlice t ho.1 n (PR.of hev l ho.2))
 |load t a=>exact re_value (re_loadAt t (hev a ho))|store t a x=>exact re_unit (re_storeAt t (hev a ho.1) (hev x ho.2))
 |nilCheck x=>have hx:=hev x ho;unfold execOp;dsimp only;revert hx;generalize ev x=v;generalize ev' x=v';intro hx;cases hx with|ptrN=>exact rg_panic (e:=.nilDeref) (e':=.nilDeref) trivial|nilIface=>exact rg_panic (e:=.nilDeref) (e':=.nilDeref) trivial|nilFunc=>exact rg_panic (e:=.nilDeref) (e':=.nilDeref) trivial|undef _ h=>exact trivial|ptr r b o s h=>exact rg_pure (.value _ _ (.ptr r b o s h))|func f a a' c c' hF h1 h2 h3 h4=>exact rg_pure (.value _ _ (.func f a a' c c' hF h1 h2 h3 h4))|_=>exact rg_pure (.value _ _ (by constructor<;>assumption))
 |binOp op t x y t2=>
 have hg:∀a b,(eqGuard op t x y a b:Sem Unit)=pure ():=by intro a b;have:=ho.1;cases op<;>first|exact ho.1.elim|rfl
 unfold execOp;dsimp only;rw[hg,hg];exact rg_value (rg_binOp op ho.1 t hG (hev x ho.2.1) (hev y ho.2.2))
 |convert s d x=>exact re_value (re_convert s d ho.1 (hev x ho.2))|makeFunc fn a c=>cases fn with|func f=>have h1:=VA.mapOps hev a ho.2.1;have h2:=VA.mapOps hev c ho.2.2;exact rg_pure (.value _ _ (.func f _ _ _ _ ho.1 h1.size h1.el h2.size h2.el))|_=>exact ho.elim
 |makeMap t r=>cases r with|none=>exact rg_value (rg_makeMap t)|some r=>exact ho.elim
 |makeSlice t l c=>exact rg_value (rg_makeSlice t ho.1 (hev l ho.2.1) (hev c ho.2.2))|slice t x a b c=>exact re_value (re_sliceAt t (hev x ho.1) (VO.of hev a ho.2.1) (VO.of hev b ho.2.2.1) (VO.of hev c ho.2.2.2))
 |fieldAddr t x i=>exact re_value (re_fieldAt t ho.1 (hev x ho.2) i)|indexAddr t x i=>exact re_value (re_indexAt t (hev x ho.1) (hev i ho.2))
 |index t x i=>exact re_value (re_index t (hev x ho.1) (hev i ho.2))|lookup t x i ok=>exact re_value (re_lookup ho.1 (hev x ho.2.1) (hev i ho.2.2) ok)
 |mapUpdate t m k x=>exact re_unit (re_mapUpdate ho.1 (hev m ho.2.1) (hev k ho.2.2.1) (hev x ho.2.2.2))|range t x=>exact rg_value (rg_range ho.1 (hev x ho.2))
 |next x s=>obtain⟨rfl,h2⟩:=ho;exact re_value (re_next (hev x h2) type)
 |entry x=>exact re_value (re_entry (hev x ho))|extract x i=>exact re_value (re_extract i (hev x ho))
 |call c=>exact rg_call hB hev c ho type|_=>exact ho.elim
end
end Rn
namespace Tp
def gW:GStep->World
 |.go _ w _|.comm _ _ _ _ w _|.spawn _ _ w _|.count _ w _|.timer _ _ w _|.alone _ _ w _|.newcoro _ _ _ w _|.coroswitch _ _ _ w _|.collect _ w _|.watch _ w _|.ended _ w _=>w
def gE:GStep->Array Event
 |.go _ _ es|.comm _ _ _ _ _ es|.spawn _ _ _ es|.count _ _ es|.timer _ _ _ es|.alone _ _ _ es|.newcoro _ _ _ _ es|.coroswitch _ _ _ _ es|.collect _ _ es|.watch _ _ es|.ended _ _ es=>es
def reG(τ:Nat->Question->Nat)(n:Nat):GStep->GStep
 |.go g w es=>.go g (w.re τ n) es|.comm g a b c w es=>.comm g a b c (w.re τ n) es|.spawn g c w es=>.spawn g c (w.re τ n) es|.count g w es=>.count g (w.re τ n) es|.timer g o w es=>.timer g o (w.re τ n) es|.alone g o w es=>.alone g o (w.re τ n) es|.newcoro g c d w es=>.newcoro g c d (w.re τ n) es|.coroswitch g c b w es=>.coroswitch g c b (w.re τ n) es|.collect g w es=>.collect g (w.re τ n) es|.watch g w es=>.watch g (w.re τ n) es|.ended o w es=>.ended o (w.re τ n) es
def fineL(l:List Item):Prop:=∀it∈l,it.fine
def fineC(cs:List Frame):Prop:=∀c∈cs,fineL c.todo
def bot:Frame->List Frame->CallKind
 |fr,[]=>fr.kind|_,c::cs=>bot c cs
theorem bot_kind{fr fr'}(h:fr'.kind=fr.kind):∀cs,bot fr' cs=bot fr cs
 |[]=>h|_::_=>rfl
structure fineS(dy:Option Dying)(fr:Frame)(cs:List Frame):Prop where
 todo:fineL fr.todo
 rest:fineC cs
 low:dy.isSome=true->bot fr cs=.report
def fineL.tail{x k}(h:fineL (x::k)):fineL k:=λit hi=>h it (List.mem_cons_of_mem _ hi)
def fineL.cons{x k}(h:x.fine)(hk:fineL k):fineL (x::k):=λit hi=>by rcases List.mem_cons.1 hi with rfl|hi;exact h;exact hk it hi
def fineL.nil:fineL []:=λ_ h=>by cases h
def fineC.cons{c cs}(h:fineL c.todo)(hc:fineC cs):fineC (c::cs):=λx hx=>by rcases List.mem_cons.1 hx with rfl|hx;exact h;exact hc x hx
def fineC.tail{c cs}(h:fineC (c::cs)):fineC cs:=λx hx=>h x (List.mem_cons_of_mem _ hx)
def fineC.head{c cs}(h:fineC (c::cs)):fineL c.todo:=h c List.mem_cons_self
def fine_finish{fr:Frame}(h:fineL fr.todo) v:fineL (fr.finish v).todo:=by unfold Frame.finish;split;rename_i hh;rw[hh]at h;exact fineL.cons trivial h.tail;rename_i hh;rw[hh]at h;exact fineL.cons trivial h.tail;rename_i hh;rw[hh]at h;exact h.tail;rename_i hh;rw[hh]at h;exact(h _ List.mem_cons_self).elim;rename_i hh;rw[hh]at h;exact h.tail;exact h
def fine_raise{fr:Frame}(h:fineL fr.todo) l:fineL (fr.raise l).todo:=by unfold Frame.raise;split<;>exact h
def fine_enter P f args k:fineL (Frame.enter P f args k).todo:=fineL.cons trivial .nil
def fine_round l f t a b k:fineL (Frame.round l f t a b k).todo:=fineL.cons trivial (fineL.cons trivial (fineL.cons trivial .nil))
def fine_recover{fr}:∀ {cs:List Frame}{v:Value}{cs':List Frame},fineC cs->tryRecover fr cs=some (v,cs')->fineC cs':=by
 intro cs;induction cs generalizing fr with
 |nil=>intro v cs' _ h;unfold tryRecover at h;cases hk:fr.kind<;>simp[hk]at h
 |cons c cs ih=>
 intro v cs' hc h;unfold tryRecover at h;cases hk:fr.kind<;>simp only[hk]at h<;>try cases h
 split at h;cases h;exact fineC.cons (show fineL c.todo from hc.head) hc.tail;cases h;obtain⟨⟨v1,r1⟩,h1,h2⟩:=Option.map_eq_some_iff.1 h;cases h2;exact fineC.cons hc.head (ih hc.tail h1)
def fine_recoverLoop:∀ {cs:List Frame}{l:Nat}{v:Value}{cs':List Frame},fineC cs->tryRecoverLoop l cs=some (v,cs')->fineC cs':=by
 intro cs;induction cs with
 |nil=>intro l v cs' _ h;cases h
 |cons c cs ih=>intro l v cs' hc h;unfold tryRecoverLoop at h;obtain⟨⟨v1,r1⟩,h1,h2⟩:=Option.map_eq_some_iff.1 h;cases h2;refine fineC.cons hc.head ?_;split at h1;exact ih hc.tail h1;split at h1;exact fine_recover hc.tail h1;exact ih hc.tail h1;exact ih hc.tail h1
theorem fine_exit{id}:∀ {k k':List Item},fineL k->exitTo id k=some k'->fineL k'
 |[],_,_,h=>by cases h
 |it::k,k',hf,h=>by unfold exitTo at h;split at h;rename_i hh;cases hh;split at h;cases h;exact hf.tail;exact fine_exit hf.tail h;rename_i hh;cases hh;exact fine_exit hf.tail h;cases h
theorem fine_goto{l}:∀ {k k':List Item},fineL k->gotoIn l k=some k'->fineL k'
 |[],_,_,h=>by cases h
 |it::k,k',hf,h=>by unfold gotoIn at h;split at h;rename_i hh;cases hh;split at h;cases h;exact fineL.cons trivial (fineL.cons trivial hf.tail);exact fine_goto hf.tail h;rename_i hh;cases hh;exact fine_goto hf.tail h;cases h
def finish_kind(fr:Frame) v:(fr.finish v).kind=fr.kind:=by unfold Frame.finish;split<;>rfl
def raise_kind(fr:Frame) l:(fr.raise l).kind=fr.kind:=by unfold Frame.raise;split<;>rfl
def bot_recover{fr}:∀ {cs:List Frame}{v:Value}{cs':List Frame}(f:Frame),tryRecover fr cs=some (v,cs')->bot f cs'=bot f cs:=by
 intro cs;induction cs generalizing fr with
 |nil=>intro v cs' f h;unfold tryRecover at h;cases hk:fr.kind<;>simp[hk]at h
 |cons c cs ih=>
 intro v cs' f h;unfold tryRecover at h;cases hk:fr.kind<;>simp only[hk]at h<;>try cases h
 split at h;cases h;show bot {c with mode:=_} cs=bot c cs;cases cs<;>rfl;cases h;obtain⟨⟨v1,r1⟩,h1,h2⟩:=Option.map_eq_some_iff.1 h;cases h2;exact ih c h1
def bot_recoverLoop:∀ {cs:List Frame}{l:Nat}{v:Value}{cs':List Frame}(f:Frame),tryRecoverLoop l cs=some (v,cs')->bot f cs'=bot f cs:=by
 intro cs;induction cs with
 |nil=>intro l v cs' f h;cases h
 |cons c cs ih=>intro l v cs' f h;unfold tryRecoverLoop at h;obtain⟨⟨v1,r1⟩,h1,h2⟩:=Option.map_eq_some_iff.1 h;cases h2;show bot c r1=bot c cs;split at h1;exact ih c h1;split at h1;exact bot_recover c h1;exact ih c h1;exact ih c h1
section
variable{dy:Option Dying}{fr:Frame}{cs:List Frame}
def fineS.same(h:fineS dy fr cs){fr'}(ht:fr'.todo=fr.todo)(hk:fr'.kind=fr.kind):fineS dy fr' cs:=⟨by rw[ht];exact h.todo,h.rest,λhd=>(bot_kind hk cs).trans (h.low hd)⟩
def fineS.with(h:fineS dy fr cs){fr'}(ht:fineL fr'.todo)(hk:fr'.kind=fr.kind):fineS dy fr' cs:=⟨ht,h.rest,λhd=>(bot_kind hk cs).trans (h.low hd)⟩
def fineS.finish(h:fineS dy fr cs) v:fineS dy (fr.finish v) cs:=h.with (fine_finish h.todo v) (finish_kind fr v)
def fineS.raise(h:fineS dy fr cs) l:fineS dy (fr.raise l) cs:=h.with (fine_raise h.todo l) (raise_kind fr l)
def fineS.push(h:fineS dy fr cs){c}(hc:fineL c.todo):fineS dy c (fr::cs):=⟨hc,fineC.cons h.todo h.rest,h.low⟩
def fineS.pop{c}(h:fineS dy fr (c::cs)):fineS dy c cs:=⟨h.rest.head,h.rest.tail,h.low⟩
def fineS.recover(h:fineS dy fr cs){v cs'}(hx:tryRecover fr cs=some (v,cs')):fineS dy fr cs':=⟨h.todo,fine_recover h.rest hx,λhd=>(bot_recover fr hx).trans (h.low hd)⟩
def fineS.recoverLoop(h:fineS dy fr cs){l v cs'}(hx:tryRecoverLoop l cs=some (v,cs')):fineS dy fr cs':=⟨h.todo,fine_recoverLoop h.rest hx,λhd=>(bot_recoverLoop fr hx).trans (h.low hd)⟩
def fineS.pushes(h:fineS dy fr cs){c}(hc:fineL c.todo) l(hl:fineC l):fineS dy c (l++fr::cs):=by
 refine⟨hc,λx hx=>?_,λhd=>?_⟩;rcases List.mem_append.1 hx with hx|hx;exact hl x hx;exact fineC.cons h.todo h.rest x hx;have:∀(l:List Frame)(c:Frame),bot c (l++fr::cs)=bot fr cs:=by intro l;induction l with|nil=>intro c;rfl|cons a l ih=>intro c;exact ih a
 rw[this];exact h.low hd
end
def Dead(g:Goroutine):Prop:=∃d,g.dying=some d/\(d.calling=true->fineS (some d) g.frame g.callers)
def Off:GStep->Prop
 |.ended _ _ _=>True|.go g _ _=>(g.status=.blocked∨g.status=.waiting∨g.status=.finished)∨(g.status=.running/\Dead g)|_=>False
def Kind(dy:Option Dying):GStep->Prop
 |.go g _ _=>fineS dy g.frame g.callers/\g.dying=dy/\g.status=.running|.comm g _ _ _ _ _=>fineS dy g.frame g.callers/\g.dying=dy/\g.status=.running|.coroswitch g _ b _ _=>fineS dy g.frame g.callers/\g.dying=dy/\g.status=.running/\b=true|.spawn _ _ _ _|.ended _ _ _=>True|_=>False
structure GRe(dy:Option Dying)(f:World->GStep)(w:World)(k:Nat):Prop where
 drawn:(gW (f w)).drawn=w.drawn+k
 tape:(gW (f w)).tape=w.tape
 size:w.heap.size<=(gW (f w)).heap.size
 low:∀e∈gE (f w),EvOK (gW (f w)).heap.size e
 bal:∀x,deafBehind x (gE (f w))=x
 kind:Kind dy (f w)
 same:∀τ n,Agree w τ n k->f (w.re τ n)=reG τ (n+k) (f w)
def GOr(dy:Option Dying)(f:World->GStep)(w:World):Prop:=(∃k,GRe dy f w k)∨Off (f w)
variable{dy:Option Dying}
def gW_after es r:gW (r.after es)=gW r:=by cases r<;>rfl
def gE_after es r:gE (r.after es)=es++gE r:=by cases r<;>rfl
def reG_after es r τ n:reG τ n (r.after es)=(reG τ n r).after es:=by cases r<;>rfl
def off_after{es r}(h:Off r):Off (r.after es):=by cases r<;>first|exact h|exact h.elim
def kind_after{es r}(h:Kind dy r):Kind dy (r.after es):=by cases r<;>exact h
def GOr.congr{F F' w}(h:GOr dy F' w)(e:∀u,F u=F' u):GOr dy F w:=by have:F=F':=funext e;rw[this];exact h
def GOr.congr2{F F' w}(h:GOr dy F' w)(e0:F w=F' w)(e1:∀τ n,F (w.re τ n)=F' (w.re τ n)):GOr dy F w:=by rcases h with⟨k,g⟩|h;exact .inl ⟨k,by rw[e0];exact g.drawn,by rw[e0];exact g.tape,by rw[e0];exact g.size,by rw[e0];exact g.low,by rw[e0];exact g.bal,by rw[e0];exact g.kind,λτ n ha=>by rw[e0,e1];exact g.same τ n ha⟩;exact .inr (by rw[e0];exact h)
def seen_sub p fn es:∀e∈seen p fn es,e∈es:=by
 unfold seen;dsimp only;rw[<-Array.foldl_toList];have h:∀(l:List Event)(q:Bool)(kept:Array Event),(∀e∈(l.foldl (λ(x:Bool×Array Event) e=>match x with
  |(q,kept)=>match e.loc with
   |.mark (.extern f)=>((p.funcs[f]?).any (·.norace),kept)
   |_=>(q,if q&& !e.sync then kept else kept.push e)) (q,kept)).2,e∈kept∨e∈l):=by
  intro l;induction l with
  |nil=>intro q kept e he;exact .inl he
  |cons a l ih=>
   intro q kept e he;rw[List.foldl_cons]at he;dsimp only at he;split at he
   ·rcases ih _ _ e he with h1|h1
    ·exact .inl h1
    ·exact .inr (List.mem_cons_of_mem _ h1)
   ·rcases ih _ _ e he with h1|h1
    ·split at h1
     ·exact .inl h1
     ·rcases Array.mem_push.1 h1 with h2|h2
      ·exact .inl h2
      ·exact .inr (by rw[h2];exact List.mem_cons_self)
    ·exact .inr (List.mem_cons_of_mem _ h1)
 intro e he;rcases h es.toList _ #[] e he with h1|h1;simp at h1;simpa using h1
def Marked(es:Array Event):Prop:=∀e∈es,∀m,e.loc=.mark m->markOK m/\e.sync=true
def deaf_seen p fn{es}(hm:Marked es) x:deafBehind x (seen p fn es)=deafBehind x es:=by
 unfold seen;dsimp only;rw[<-Array.foldl_toList];have h:∀(l:List Event)(_:∀e∈l,∀m,e.loc=.mark m->markOK m/\e.sync=true)(q:Bool)(kept:Array Event),deafBehind x ((l.foldl (λ(x:Bool×Array Event) e=>match x with
  |(q,kept)=>match e.loc with
   |.mark (.extern f)=>((p.funcs[f]?).any (·.norace),kept)
   |_=>(q,if q&& !e.sync then kept else kept.push e)) (q,kept)).2)=deafBehind (deafBehind x kept) ⟨l⟩:=by
  intro l;induction l with
  |nil=>intro _ q kept;rfl
  |cons a l ih=>
   intro hl q kept;have e0:(⟨a::l⟩:Array Event)=#[a]++⟨l⟩:=by simp
   rw[List.foldl_cons];dsimp only;split
   ·rename_i f hf;rw[ih (λe he=>hl e (List.mem_cons_of_mem _ he)),e0,deaf_append,deaf_one _ _ (by rw[hf];simp) (by rw[hf];simp)]
   ·rw[ih (λe he=>hl e (List.mem_cons_of_mem _ he)),e0,deaf_append]
    congr 1;split
    ·rename_i hq;have hs:a.sync=false:=by
      cases h1:a.sync
      ·rfl
      ·rw[h1]at hq;simp at hq
     have h2:∀m,a.loc≠.mark m:=λm hm'=>by
      have:=(hl a List.mem_cons_self m hm').2;rw[hs]at this;cases this
     rw[deaf_one _ _ (h2 _) (h2 _)]
    ·rw[deaf_push]
 exact h es.toList (λe he=>hm e (by simpa using he)) _ #[]
def GOr.const{F w}(h1:gW (F w)=w)(h2:gE (F w)=#[])(h3:Kind dy (F w))(h4:∀τ n,F (w.re τ n)=reG τ n (F w)):GOr dy F w:=.inl ⟨0,by rw[h1];rfl,by rw[h1],by rw[h1];exact Nat.le_refl _,by rw[h2];simp,by rw[h2];exact λ_=>rfl,h3,λτ n _=>h4 τ n⟩
def GOr.go{w g}(h:fineS dy g.frame g.callers)(hd:g.dying=dy)(hr:g.status=.running):GOr dy (λw=>.go g w #[]) w:=.const rfl rfl ⟨h,hd,hr⟩ (λ_ _=>rfl)
theorem GOr.run{P α Φ s}(hs:Plain P Φ s){w f}(body:Result α×Array Event->GStep)(hf:∀u,f u=body (s.runT P u #[])) (hlost:∀x w' es,Off (body (.halt (.unsupported (.noEntry x)) w',es))) (hbody:∀r es,(∀a w',r=.ok a w'->Φ a)->Marked es->(Cont r->∀x,deafBehind x es=x)->Off (body (r,es))∨∃E F,(∀e∈E,e∈es)/\(∀x,deafBehind x E=x)/\(∀τ n,body (reR τ n r,es)=GStep.after E (F ((wR r).re τ n)))/\body (r,es)=GStep.after E (F (wR r))/\GOr dy F (wR r)):GOr dy f w:=by
 rcases hs.run w #[]with⟨k,i⟩|⟨x,w',es',hx⟩;have e1:=i.drawn;have e2:=i.tape;have e3:=i.size;have e4:=i.post;have e5:=i.low;have e6:=i.same;have e7:=hf w;have e8:=i.bal;generalize s.runT P w #[]=x at e1 e2 e3 e4 e5 e6 e7 e8;obtain⟨r,es⟩:=x;dsimp only at e1 e2 e3 e4 e5 e6 e8;have hmk:Marked es:=λe he m hm=>by rcases e5 e he with h|h;simp at h;unfold EvOK at h;rw[hm]at h;exact h
 rcases hbody r es e4 hmk (λhc x=>e8 hc x rfl)with hoff|⟨E,F,hE,hbal,h1,h2,h3⟩;exact .inr (by rw[e7];exact hoff);rcases h3 with⟨k2,g⟩|hoff;refine .inl ⟨k+k2,?_,?_,?_,?_,?_,?_,?_⟩;rw[e7,h2,gW_after,g.drawn,e1];omega;rw[e7,h2,gW_after,g.tape,e2];rw[e7,h2,gW_after];exact Nat.le_trans e3 g.size;rw[e7,h2,gW_after,gE_after];intro e he;rcases Array.mem_append.1 he with he|he;rcases e5 e (hE e he)with h|h;simp at h;exact h.mono g.size;exact g.low e he;intro x;rw[e7,h2,gE_after,deaf_append,hbal,g.bal];rw[e7,h2];exact kind_after g.kind;intro τ n ha;rw[hf,e6 τ n (ha.mono (by omega)),h1,e7,h2,reG_after,<-Nat.add_assoc];rw[g.same τ (n+k) (λj hj=>by rw[e1,e2,Nat.add_assoc,Nat.add_assoc];exact ha (k+j) (by omega))];exact .inr (by rw[e7,h2];exact off_after hoff);exact .inr (by rw[hf,hx];exact hlost x w' es')
def found_re(p:Program) w τ n:∀fuel f,p.found (w.re τ n) fuel f=p.found w fuel f:=by intro fuel;induction fuel with|zero=>intro f;rfl|succ k ih=>intro f;unfold Program.found;simp only[ih];rfl
def brought_re(p:Program) w τ n:∀fuel l s,p.brought (w.re τ n) fuel l s=p.brought w fuel l s:=by
 intro fuel;induction fuel with
 |zero=>intro l s;cases l<;>rfl
 |succ k ih=>intro l s;cases l with|nil=>rfl|cons f l=>unfold Program.brought;simp only[ih];rfl
theorem gor_notYet{P fr callers}{g:Nat}{w}(h:fineS dy fr callers):GOr dy (λw=>match w.heap[g]? with
  |some (.pending c elem)=>.go {frame:=fr,callers,status:=.running,dying:=dy} {w with heap:=w.heap.setIfInBounds g (.cells c elem)}
  |_=>.ended (.stuck "early: the variable does not wait" (fr.pos P)) w) w:=by
 cases hh:w.heap[g]? with
 |none=>exact .inr (by simp only[hh];exact trivial)
 |some o=>
  cases o with
  |pending c e=>
   refine .inl ⟨0,by simp only[hh];rfl,by simp only[hh];rfl,by simp only[hh];simp[gW],by simp only[hh];simp[gE],by simp only[hh];exact λ_=>rfl,by simp only[hh];exact⟨h,rfl,rfl⟩,λτ n _=>?_⟩
   simp only[show(w.re τ n).heap=w.heap from rfl,hh];rfl
  |_=>exact .inr (by simp only[hh];exact trivial)
def gor_ended{o w}:GOr dy (λw=>.ended o w) w:=.inr trivial
def fine_map P(l:List FuncId):fineC (l.map (Frame.enter P · #[] .early)):=λc hm=>by obtain⟨f,_,rfl⟩:=List.mem_map.1 hm;exact fine_enter _ _ _ _
def gor_early{P} fr callers g w(h:fineS dy fr callers):GOr dy (early P fr callers dy g) w:=by
 have hthere:∀(f:FuncId)(w:World),GOr dy (λw=>.go {frame:=Frame.enter P f #[] .early,callers:=(if(P.code? f).any P.plainData then(P.brought w (2*P.funcs.size+1) [f] []).drop 1 else []).map (Frame.enter P · #[] .early)++fr::callers,status:=.running,dying:=dy} w #[]) w:=by intro f w;refine .const rfl rfl ⟨h.pushes (fine_enter _ _ _ _) _ (fine_map _ _),rfl,rfl⟩ (λτ n=>?_);simp only[brought_re];rfl
 have hnot:∀w,GOr dy (λw=>match w.heap[g]? with
  |some (.pending c elem)=>.go {frame:=fr,callers,status:=.running,dying:=dy} {w with heap:=w.heap.setIfInBounds g (.cells c elem)}
  |_=>.ended (.stuck "early: the variable does not wait" (fr.pos P)) w) w:=λw=>gor_notYet h
 have href:∀w,GOr dy (λw=>.ended (.unsupported (.initOrder g) (fr.pos P)) w) w:=λw=>gor_ended;cases hp:P.follows .staticDataAhead with|false=>exact(hnot w).congr (λu=>by unfold early;simp only[hp,Bool.not_false,if_true]<;>rfl)|true=>
 cases hs:P.stepOf g with|none=>exact(href w).congr (λu=>by unfold early;simp only[hp,hs,Bool.not_true,Bool.false_eq_true,if_false]<;>rfl)|some f=>
 cases h1:(P.code? f).any P.atRunTime with|true=>exact(hnot w).congr (λu=>by unfold early;simp only[hp,hs,h1,Bool.not_true,Bool.false_eq_true,if_false,if_true]<;>rfl)|false=>
 have hsh:∀τ n,(((P.code? f).bind λc=>(readies c).getLast?).bind (w.re τ n).shape?).isSome=(((P.code? f).bind λc=>(readies c).getLast?).bind w.shape?).isSome:=λτ n=>rfl;cases h2:(((P.code? f).bind λc=>(readies c).getLast?).bind w.shape?).isSome with|true=>rw[h2]at hsh;exact(hnot w).congr2 (by unfold early;simp only[hp,hs,h1,h2,Bool.not_true,Bool.false_eq_true,if_false,if_true]<;>rfl) (λτ n=>by unfold early;simp only[hp,hs,h1,hsh,Bool.not_true,Bool.false_eq_true,if_false,if_true]<;>rfl)|false=>
 rw[h2]at hsh;have hfo:=found_re P w;cases hk:fr.kind==.early with
 |true=>cases h3:P.found w P.funcs.size f with|unknown=>exact(href w).congr2 (by unfold early;simp only[hp,hs,h1,h2,h3,hk,Bool.not_true,Bool.false_eq_true,if_false]<;>rfl) (λτ n=>by unfold early;simp only[hp,hs,h1,hsh,hfo,h3,hk,Bool.not_true,Bool.false_eq_true,if_false]<;>rfl)|notYet=>exact(href w).congr2 (by unfold early;simp only[hp,hs,h1,h2,h3,hk,Bool.not_true,Bool.false_eq_true,if_false]<;>rfl) (λτ n=>by unfold early;simp only[hp,hs,h1,hsh,hfo,h3,hk,Bool.not_true,Bool.false_eq_true,if_false]<;>rfl)|either=>exact(hthere f w).congr2 (by unfold early;simp only[hp,hs,h1,h2,h3,hk,Bool.not_true,Bool.false_eq_true,if_false]<;>rfl) (λτ n=>by unfold early;simp only[hp,hs,h1,hsh,hfo,h3,hk,Bool.not_true,Bool.false_eq_true,if_false]<;>rfl)
 |false=>
 cases h3:P.found w P.funcs.size f with
 |unknown=>exact(href w).congr2 (by unfold early;simp only[hp,hs,h1,h2,h3,hk,Bool.not_true,Bool.false_eq_true,if_false]<;>rfl) (λτ n=>by unfold early;simp only[hp,hs,h1,hsh,hfo,h3,hk,Bool.not_true,Bool.false_eq_true,if_false]<;>rfl)|notYet=>exact(hnot w).congr2 (by unfold early;simp only[hp,hs,h1,h2,h3,hk,Bool.not_true,Bool.false_eq_true,if_false]<;>rfl) (λτ n=>by unfold early;simp only[hp,hs,h1,hsh,hfo,h3,hk,Bool.not_true,Bool.false_eq_true,if_false]<;>rfl)
 |either=>
 cases h4:(P.code? f).any P.plainData with|true=>exact(hthere f w).congr2 (by unfold early;simp only[hp,hs,h1,h2,h3,hk,h4,Bool.not_true,Bool.false_eq_true,if_false,if_true]<;>rfl) (λτ n=>by unfold early;simp only[hp,hs,h1,hsh,hfo,h3,hk,h4,Bool.not_true,Bool.false_eq_true,if_false,if_true]<;>rfl)|false=>
 cases h5:(P.code? f).any P.bareCopy with
 |false=>exact(hnot w).congr2 (by unfold early;simp only[hp,hs,h1,h2,h3,hk,h4,h5,Bool.not_false,Bool.not_true,Bool.false_eq_true,if_false,if_true]<;>rfl) (λτ n=>by unfold early;simp only[hp,hs,h1,hsh,hfo,h3,hk,h4,h5,Bool.not_false,Bool.not_true,Bool.false_eq_true,if_false,if_true]<;>rfl)|true=>
 have hrun:∀u:World,(choose (.early g)).run P u=.ok ((Question.early g).cut (u.tape u.drawn (.early g))) {u with drawn:=u.drawn+1}:=λu=>rfl;have hw2:=hnot {w with drawn:=w.drawn+1};have ht2:=hthere f {w with drawn:=w.drawn+1};have key:∀u:World,(((P.code? f).bind λc=>(readies c).getLast?).bind u.shape?).isSome=false->P.found u P.funcs.size f=.either->early P fr callers dy g u=match(Question.early g).cut (u.tape u.drawn (.early g))with
   |0=>(λw:World=>match w.heap[g]? with
     |some (.pending c elem)=>.go {frame:=fr,callers,status:=.running,dying:=dy} {w with heap:=w.heap.setIfInBounds g (.cells c elem)}
     |_=>.ended (.stuck "early: the variable does not wait" (fr.pos P)) w) {u with drawn:=u.drawn+1}
   |_+1=>(λw:World=>.go {frame:=Frame.enter P f #[] .early,callers:=(if(P.code? f).any P.plainData then(P.brought w (2*P.funcs.size+1) [f] []).drop 1 else []).map (Frame.enter P · #[] .early)++fr::callers,status:=.running,dying:=dy} w #[]) {u with drawn:=u.drawn+1}:=by
  intro u q2 q3;unfold early;simp only[hp,hs,h1,q2,q3,hk,h4,h5,hrun,Bool.not_true,Bool.false_eq_true,if_false];cases(Question.early g).cut (u.tape u.drawn (.early g))<;>rfl
 have k0:=key w h2 h3;have k1:=λτ n=>key (w.re τ n) (hsh τ n) (by rw[hfo];exact h3);cases hcut:(Question.early g).cut (w.tape w.drawn (.early g))with
 |zero=>rw[hcut]at k0;dsimp only at k0;rcases hw2 with⟨k,i⟩|hoff;refine .inl ⟨k+1,by rw[k0,i.drawn];show w.drawn+1+k=_;omega,by rw[k0,i.tape],by rw[k0];exact i.size,by rw[k0];exact i.low,by rw[k0];exact i.bal,by rw[k0];exact i.kind,λτ n ha=>?_⟩;have e:τ n=w.tape w.drawn:=ha 0 (by omega);rw[k1 τ n,show(w.re τ n).tape (w.re τ n).drawn=τ n from rfl,e,hcut,k0];have:=i.same τ (n+1) (λj hj=>by have:=ha (j+1) (by omega);rw[show n+1+j=n+(j+1)by omega,this];show w.tape _=w.tape _;congr 1;show w.drawn+(j+1)=w.drawn+1+j;omega);rw[show n+(k+1)=n+1+k by omega];exact this;exact .inr (by rw[k0];exact hoff)
 |succ c=>rw[hcut]at k0;dsimp only at k0;rcases ht2 with⟨k,i⟩|hoff;refine .inl ⟨k+1,by rw[k0,i.drawn];show w.drawn+1+k=_;omega,by rw[k0,i.tape],by rw[k0];exact i.size,by rw[k0];exact i.low,by rw[k0];exact i.bal,by rw[k0];exact i.kind,λτ n ha=>?_⟩;have e:τ n=w.tape w.drawn:=ha 0 (by omega);rw[k1 τ n,show(w.re τ n).tape (w.re τ n).drawn=τ n from rfl,e,hcut,k0];have:=i.same τ (n+1) (λj hj=>by have:=ha (j+1) (by omega);rw[show n+1+j=n+(j+1)by omega,this];show w.tape _=w.tape _;congr 1;show w.drawn+(j+1)=w.drawn+1+j;omega);rw[show n+(k+1)=n+1+k by omega];exact this;exact .inr (by rw[k0];exact hoff)
def off_fatal p fr callers dying m w:Off (endFatal p fr callers dying m w):=by unfold endFatal;dsimp only;generalize Sem.run p _ w=r;cases r with|ok a w'=>exact .inr ⟨rfl,_,rfl,λh=>by cases h⟩|halt h w'=>cases h<;>exact trivial
def gor_apply{P} fr callers{s}(hs:Nx P s) w(h:fineS dy fr callers):GOr dy (stepG.apply P true fr callers dy s) w:=by
 have hf:=h.todo;apply GOr.run hs;case hf=>intro u;unfold stepG.apply;simp only[if_true];generalize s.runT P u #[]=x;exact rfl
 case hlost=>intro x w' es;exact trivial
 case hbody=>
 intro r es hok hmk hbl;have hE:∀e∈seen P fr.fn (if(fr.kind==CallKind.early)=true then #[]else es),e∈es:=λe he=>by have:=seen_sub _ _ _ e he;split at this;simp at this;exact this
 have hE0:∀e∈seen P fr.fn (if(fr.kind==CallKind.early)=true then #[]else(#[]:Array Event)),e∈es:=λe he=>by have:=seen_sub _ _ _ e he;split at this<;>simp at this
 have hB:Cont r->∀x,deafBehind x (seen P fr.fn (if(fr.kind==CallKind.early)=true then #[]else es))=x:=λhcr x=>by by_cases hk:(fr.kind==CallKind.early)=true;rw[if_pos hk,deaf_seen _ _ (λe he=>by simp at he)];rfl;rw[if_neg hk,deaf_seen _ _ hmk];exact hbl hcr x
 have hB0:∀x,deafBehind x (seen P fr.fn (if(fr.kind==CallKind.early)=true then #[]else(#[]:Array Event)))=x:=λx=>by rw[ite_self,deaf_seen _ _ (λe he=>by simp at he)];rfl
 cases r with
 |ok n w'=>
 have hn:=hok n w' rfl;replace hB:=hB trivial;cases n;case value v=>exact .inr ⟨_,λu=>.go _ u #[],hE,hB,λ_ _=>rfl,rfl,GOr.go (h.finish _) rfl rfl⟩
 case skip=>exact .inr ⟨_,λu=>.go _ u #[],hE,hB,λ_ _=>rfl,rfl,GOr.go (h.finish _) rfl rfl⟩
 case enter f args=>exact .inr ⟨_,λu=>.go _ u #[],hE,hB,λ_ _=>rfl,rfl,GOr.go (h.push (fine_enter _ _ _ _)) rfl rfl⟩
 case round l f t a b=>exact .inr ⟨_,λu=>.go _ u #[],hE,hB,λ_ _=>rfl,rfl,GOr.go (h.push (fine_round _ _ _ _ _ _)) rfl rfl⟩
 case defer d=>exact .inr ⟨_,λu=>.go _ u #[],hE,hB,λ_ _=>rfl,rfl,GOr.go ((h.same (fr':={fr with defers:=d::fr.defers}) rfl rfl).finish _) rfl rfl⟩
 case row row args=>
  dsimp only[reR,wR];generalize htd:fr.todo=td;have hft:fineL td:=htd▸hf;have hrow:∀k,fineS dy (Frame.ofRow P row args k) (fr::callers):=λk=>h.push (fineL.cons hn .nil);rcases td with _|⟨i,k⟩;exact .inr ⟨_,λu=>.go _ u #[],hE,hB,λ_ _=>rfl,rfl,GOr.go (hrow _) rfl rfl⟩;cases i;case extern r2 a2=>exact .inr ⟨_,λu=>.go _ u #[],hE,hB,λ_ _=>rfl,rfl,GOr.go (h.with (fr':={fr with todo:=.extern row args::k}) (fineL.cons hn hft.tail) rfl) rfl rfl⟩
  all_goals exact .inr ⟨_,λu=>.go _ u #[],hE,hB,λ_ _=>rfl,rfl,GOr.go (hrow _) rfl rfl⟩
 case recover=>
  dsimp only[reR,wR];generalize hx:tryRecover fr callers=x;generalize hro:fr.roundOf=ro;rcases ro with _|l;rcases x with _|⟨v,c⟩;exact .inr ⟨_,λu=>.go _ u #[],hE,hB,λ_ _=>rfl,rfl,GOr.go (h.finish _) rfl rfl⟩;exact .inr ⟨_,λu=>.go _ u #[],hE,hB,λ_ _=>rfl,rfl,GOr.go ((h.recover hx).finish _) rfl rfl⟩;dsimp only;have hy:∀v c,(if P.follows Departure.rangeFuncRecover=true then x else tryRecoverLoop l callers)=some (v,c)->fineS dy fr c:=λv c h2=>by split at h2;exact h.recover (hx.trans h2);exact h.recoverLoop h2
  generalize(if P.follows Departure.rangeFuncRecover=true then x else tryRecoverLoop l callers)=y at hy|-;rcases y with _|⟨v,c⟩;exact .inr ⟨_,λu=>.go _ u #[],hE,hB,λ_ _=>rfl,rfl,GOr.go (h.finish _) rfl rfl⟩;exact .inr ⟨_,λu=>.go _ u #[],hE,hB,λ_ _=>rfl,rfl,GOr.go ((hy v c rfl).finish _) rfl rfl⟩
 case comm a b c=>exact .inr ⟨_,λu=>.comm _ _ _ _ u #[],hE,hB,λ_ _=>rfl,rfl,GOr.const rfl rfl ⟨h,rfl,rfl⟩ (λ_ _=>rfl)⟩
 case coroswitch c b=>exact .inr ⟨_,λu=>.coroswitch _ _ _ u #[],hE,hB,λ_ _=>rfl,rfl,GOr.const rfl rfl ⟨h,rfl,rfl,hn⟩ (λ_ _=>rfl)⟩
 case spawn d=>dsimp only[reR,wR];generalize(P.follows Departure.goNilFatal&&_&&_&&_)=b;cases b;exact .inr ⟨_,λu=>.spawn _ _ u #[],hE,hB,λ_ _=>rfl,rfl,GOr.const rfl rfl trivial (λ_ _=>rfl)⟩;exact .inl (off_after (.inr ⟨rfl,_,rfl,λh=>by cases h⟩))
 all_goals exact hn.elim
 |halt hh w'=>
 cases hh;case panic v=>exact .inr ⟨_,λu=>.go _ u #[],hE,hB trivial,λ_ _=>rfl,rfl,GOr.go (h.raise _) rfl rfl⟩
 case goexit=>exact .inr ⟨_,λu=>.go _ u #[],hE,hB trivial,λ_ _=>rfl,rfl,GOr.go (h.raise _) rfl rfl⟩
 case blocked=>exact .inl (off_after (.inl (.inl rfl)))
 case waiting=>exact .inl (off_after (.inl (.inr (.inl rfl))))
 case fatal m=>exact .inl (off_after (off_fatal _ _ _ _ _ _))
 case throw m=>exact .inl (off_after (.inr ⟨rfl,_,rfl,λh=>by cases h⟩))
 case unsupported u=>
  cases u;case initOrder g=>exact .inr ⟨_,early P fr callers dy g,hE0,hB0,λ_ _=>rfl,rfl,gor_early _ _ _ _ h⟩
  all_goals exact .inl trivial
 all_goals exact .inl trivial
def freed(c:Frame):Frame:=match c.mode with
 |.panicking ({recovered:=true,..}::older)=>
  match older.dropWhile (!·.goexit)with
  |[]=>{c with mode:=.returning}
  |rest=>{c with mode:=.panicking rest}
 |_=>c
def freed_todo c:(freed c).todo=c.todo:=by unfold freed;split;split<;>rfl;rfl
def freed_kind c:(freed c).kind=c.kind:=by unfold freed;split;split<;>rfl;rfl
def gor_doReturn{P} fr callers v w(h:fineS dy fr callers):GOr dy (λw=>doReturn P true fr callers dy v w) w:=by
 cases callers with
 |cons c cs=>
 have hp:=h.pop;have h1:∀k,fr.kind=k->(k=.normal∨k=.wrapped)->GOr dy (λw=>doReturn P true fr (c::cs) dy v w) w:=λk hk hh=>(GOr.go (g:={frame:=c.finish v,callers:=cs,status:=.running,dying:=dy}) (hp.finish v) rfl rfl).congr (λu=>by unfold doReturn;rcases hh with rfl|rfl<;>simp only[hk]);cases hk:fr.kind;case normal=>exact h1 _ hk (.inl rfl)
 case wrapped=>exact h1 _ hk (.inr rfl)
 case early=>exact(GOr.go (g:={frame:=c,callers:=cs,status:=.running,dying:=dy}) hp rfl rfl).congr (λu=>by unfold doReturn;simp only[hk])
 all_goals
  refine GOr.congr (F':=λu=>.go {frame:=freed c,callers:=cs,status:=.running,dying:=dy} u #[]) (GOr.go (hp.same (freed_todo c) (freed_kind c)) rfl rfl) (λu=>by unfold doReturn;simp only[hk];rfl)
 |nil=>
 cases hk:fr.kind;case report=>
  cases dy with
  |none=>exact(gor_ended (o:=.stuck "report: Error or String returned no string" "")).congr (λu=>by unfold doReturn;simp only[hk])|some d=>
  cases v;case string s=>refine .inr ?_;unfold doReturn;simp only[hk];exact .inr ⟨rfl,_,rfl,λh=>by cases h⟩
  all_goals exact(gor_ended (o:=.stuck "report: Error or String returned no string" "")).congr (λu=>by unfold doReturn;simp only[hk])
 all_goals
  cases dy with
  |some d=>exact absurd (h.low rfl) (by show fr.kind≠_;rw[hk];simp)
  |none=>
   cases hi:P.inits.idxOf? fr.fn with
   |none=>exact(gor_ended (o:=.done v)).congr (λu=>by unfold doReturn;simp only[hk,hi,Bool.not_true,Bool.false_eq_true,if_false])
   |some k=>exact(GOr.go (g:={frame:=Frame.enter P (P.initFrom (k+1)) #[] .normal,callers:=[],status:=.running,dying:=none}) ⟨fine_enter _ _ _ _,(λ_ h=>by cases h),λhd=>by cases hd⟩ rfl rfl).congr (λu=>by unfold doReturn;simp only[hk,hi,Bool.not_true,Bool.false_eq_true,if_false])
def seenE{P fn es}:∀e∈seen P fn es,e∈es:=seen_sub P fn es
def gor_leave{P} fr callers jump w(h:fineS dy fr callers) F (h0:fr.roundOf=none->(∀u,F u=.go {frame:={fr with mode:=.returning},callers,status:=.running,dying:=dy} u #[])∨∃o,∀u,F u=.ended o u) (h1:∀l,fr.roundOf=some l->∀u,F u=(match(Instr.endRound l jump).runT P u #[]with
   |(r,es)=>GStep.after (seen P fr.fn es) (match r with
    |.ok v w=>doReturn P true fr callers dy v w
    |.halt _ w=>.ended (.stuck "range over a function: no such loop" (fr.pos P)) w))):GOr dy F w:=by
 cases hr:fr.roundOf with
 |none=>
  rcases h0 hr with hh|⟨o,hh⟩
  ·exact(GOr.go (g:={frame:={fr with mode:=.returning},callers,status:=.running,dying:=dy}) (h.same rfl rfl) rfl rfl).congr hh
  ·exact gor_ended.congr hh
 |some l=>
  refine GOr.run (pl_Instr_endRound l jump) (λx=>match x with
   |(r,es)=>GStep.after (seen P fr.fn es) (match r with
    |.ok v w=>doReturn P true fr callers dy v w
    |.halt _ w=>.ended (.stuck "range over a function: no such loop" (fr.pos P)) w)) (h1 l hr) (λ_ _ _=>trivial) (λr es hok hmk hb=>?_)
  cases r with
  |ok v w'=>exact .inr ⟨_,λu=>doReturn P true fr callers dy v u,seenE,λx=>by rw[deaf_seen _ _ hmk];exact hb trivial x,λ_ _=>rfl,rfl,gor_doReturn _ _ _ _ h⟩
  |halt hh w'=>exact .inl trivial
def next_print:Extern.next "runtime.print$piece" =some (Extern.PrintPieces.piece #[] #[]):=by kernel_rfl
def gor_oper {P} (hB : Bodied P) fr callers w (h : fineS dy fr callers) : GOr dy (stepG.oper P true fr callers dy) w := by
  cases ho : fr.oper? with
  | none => exact (gor_ended (o := .stuck "no operation here" (fr.pos P))).congr (λu => by unfold stepG.oper; simp only [ho])
  | some o =>
    have h0 : (∀ u, stepG.oper P true fr callers dy u = stepG.apply P true fr callers dy (execOp fr.eval o) u) -> GOr dy (stepG.oper P true fr callers dy) w := λe => (gor_apply fr callers (nx_execOp hB _ _) w h).congr e
    cases hr : fr.roundOf with
    | none => exact h0 (λu => by unfold stepG.oper; simp only [ho, hr])
    | some l =>
      cases hop : o.op
      case defer c =>
        refine (gor_apply (P := P) (s := do Instr.deferInRound l (<- resolve fr.eval c o.type); pure .skip) fr callers ?_ w h).congr (λu => by unfold stepG.oper; simp only [ho, hr, hop])
        exact nx_bind (pl_resolve _ _ _) λ_ => nx_bind (pl_Instr_deferInRound _ _) λ_ => trivial
      all_goals exact h0 (λu => by unfold stepG.oper; simp only [ho, hr, hop])
def gor_draw{F w}(q:Question)(g:Nat->Goroutine)(hg:∀t,fineS dy (g t).frame (g t).callers/\(g t).dying=dy/\(g t).status=.running)(h:∀u,F u=.go (g (q.cut (u.tape u.drawn q))) {u with drawn:=u.drawn+1} #[]):GOr dy F w:=by refine .inl ⟨1,by rw[h];rfl,by rw[h];rfl,by rw[h];exact Nat.le_refl _,by rw[h];simp[gE],by rw[h];exact λ_=>rfl,by rw[h];exact hg _,λτ n ha=>?_⟩;have e:τ n=w.tape w.drawn:=ha 0 (by omega);rw[h,h,show(w.re τ n).tape (w.re τ n).drawn=τ n from rfl,e];rfl
def gor_exec {P} (hB : Bodied P) fr callers w (h : fineS dy fr callers) : GOr dy (stepG.exec P true true fr callers dy) w := by
  have go_ : ∀ fr' : Frame, fineL fr'.todo -> fr'.kind = fr.kind -> (∀ u, stepG.exec P true true fr callers dy u = .go { frame := fr', callers, status := .running, dying := dy } u #[]) -> GOr dy (stepG.exec P true true fr callers dy) w :=
    λfr' h1 h2 e => (GOr.go (g := { frame := fr', callers, status := .running, dying := dy }) (h.with h1 h2) rfl rfl).congr e
  have hf := h.todo
  rcases htd : fr.todo with _ | ⟨it, k⟩
  · refine gor_leave fr callers none w h _ (λhr => .inl λu => by unfold stepG.exec; simp only [htd, hr]; rfl) (λl hr u => by unfold stepG.exec; simp only [htd, hr]; rfl)
  have hfr := hf
  rw [htd] at hf
  have hk := hf.tail
  cases it
  case code c =>
    cases c
    case skip => exact go_ { fr with todo := k } hk rfl (λu => by unfold stepG.exec; simp only [htd])
    case label l => exact go_ { fr with todo := k } hk rfl (λu => by unfold stepG.exec; simp only [htd])
    case ret => exact gor_leave fr callers (some .ret) w h _ (λhr => .inl λu => by unfold stepG.exec; simp only [htd, hr]; rfl) (λl hr u => by unfold stepG.exec; simp only [htd, hr]; rfl)
    case seq a b => exact go_ { fr with todo := .code a :: .code b :: k } (fineL.cons trivial (fineL.cons trivial hk)) rfl (λu => by unfold stepG.exec; simp only [htd])
    case cond c a b =>
      cases hev : fr.eval c
      case bool t => exact go_ { fr with todo := .code (if t then a else b) :: k } (fineL.cons trivial hk) rfl (λu => by unfold stepG.exec; simp only [htd, hev])
      all_goals exact (gor_ended (o := .stuck "cond: bool expected" (fr.pos P))).congr (λu => by unfold stepG.exec; simp only [htd, hev])
    case block id b => exact go_ { fr with todo := .code b :: .inBlock id :: k } (fineL.cons trivial (fineL.cons trivial hk)) rfl (λu => by unfold stepG.exec; simp only [htd])
    case loop b => exact go_ { fr with todo := .code b :: .inLoop b :: k } (fineL.cons trivial (fineL.cons trivial hk)) rfl (λu => by unfold stepG.exec; simp only [htd])
    case scope b => exact go_ { fr with todo := .code b :: .inScope b :: k } (fineL.cons trivial (fineL.cons trivial hk)) rfl (λu => by unfold stepG.exec; simp only [htd])
    case exit id =>
      cases he : exitTo id k with
      | some k' => exact go_ { fr with todo := k' } (fine_exit hk he) rfl (λu => by unfold stepG.exec; simp only [htd, he]; rfl)
      | none => exact gor_leave fr callers (some (.exit id)) w h _ (λhr => .inr ⟨_, λu => by unfold stepG.exec; simp only [htd, he, hr]; rfl⟩) (λl hr u => by unfold stepG.exec; simp only [htd, he, hr]; rfl)
    case goto id =>
      cases he : gotoIn id k with
      | some k' => exact go_ { fr with todo := k' } (fine_goto hk he) rfl (λu => by unfold stepG.exec; simp only [htd, he]; rfl)
      | none => exact gor_leave fr callers (some (.goto id)) w h _ (λhr => .inr ⟨_, λu => by unfold stepG.exec; simp only [htd, he, hr]; rfl⟩) (λl hr u => by unfold stepG.exec; simp only [htd, he, hr]; rfl)
    case refuse why => exact (gor_ended (o := .unsupported (Unsupported.elab why) (fr.pos P))).congr (λu => by unfold stepG.exec; simp only [htd])
    case region id ops draw =>
      cases draw with
      | false => exact go_ { fr with todo := .inRegion ops (List.range ops.size) :: k } (fineL.cons trivial hk) rfl (λu => by unfold stepG.exec; simp only [htd, Bool.not_false, if_true])
      | true =>
        refine gor_draw (.order fr.fn id) (λt => { frame := { fr with todo := .inRegion ops (Region.schedule (P.follows .mixedOrders) ops t) :: k }, callers, status := .running, dying := dy }) (λt => ⟨h.with (fineL.cons trivial hk) rfl, rfl, rfl⟩) (λu => ?_)
        unfold stepG.exec
        simp only [htd]
        rfl
    case rangeFunc f params a b =>
      refine GOr.run (pl_Instr_enterLoop fr.fn fr.tmps params a b fr.roundOf) (λx => match x with
        | (r, es) => GStep.after (seen P fr.fn es) (match r with
          | .ok (l, mark) w => stepG.apply P true { fr with todo := .inRangeFunc l :: k, defers := mark ++ fr.defers } callers dy (do
              let d <- resolve ({ fr with todo := .inRangeFunc l :: k, defers := mark ++ fr.defers } : Frame).eval { callee := .value f, args := #[.const (.func (.yield l) #[] #[])], argTypes := #[] } 0
              invoke d.target d.args) w
          | .halt _ w => .ended (.stuck "range over a function: no such loop" (fr.pos P)) w)) (λu => by unfold stepG.exec; simp only [htd]; rfl) (λ_ _ _ => trivial) (λr es hok hmk hb => ?_)
      cases r with
      | ok x w' =>
        obtain ⟨l, mark⟩ := x
        refine .inr ⟨_, λu => stepG.apply P true { fr with todo := .inRangeFunc l :: k, defers := mark ++ fr.defers } callers dy (do
              let d <- resolve ({ fr with todo := .inRangeFunc l :: k, defers := mark ++ fr.defers } : Frame).eval { callee := .value f, args := #[.const (.func (.yield l) #[] #[])], argTypes := #[] } 0
              invoke d.target d.args) u, seenE, λx => by rw [deaf_seen _ _ hmk]; exact hb trivial x, λ_ _ => rfl, rfl, gor_apply _ _ ?_ _ (h.with (fineL.cons trivial hk) rfl)⟩
        exact nx_bind (pl_resolve _ _ _) λ_ => nx_invoke hB _ _
      | halt hh w' => exact .inl trivial
  case inBlock id => exact go_ { fr with todo := k } hk rfl (λu => by unfold stepG.exec; simp only [htd])
  case inScope b => exact go_ { fr with todo := k } hk rfl (λu => by unfold stepG.exec; simp only [htd])
  case inLoop b => exact go_ { fr with todo := .code b :: .inLoop b :: k } (fineL.cons trivial (fineL.cons trivial hk)) rfl (λu => by unfold stepG.exec; simp only [htd])
  case inRegion ops l =>
    rcases l with _ | ⟨i, l⟩
    · exact go_ { fr with todo := k } hk rfl (λu => by unfold stepG.exec; simp only [htd])
    · cases hw : ((ops[i]?).map (Region.wanted · (yielded ops fr.tmps))).getD false with
      | true => exact (gor_oper hB fr callers w h).congr (λu => by conv => lhs; unfold stepG.exec; simp only [htd, hw, if_true])
      | false => exact go_ (fr.finish undef) (fine_finish hfr _) (finish_kind _ _) (λu => by unfold stepG.exec; simp only [htd, hw, Bool.false_eq_true, if_false])
  case inRangeFunc l => exact (gor_ended (o := .unsupported (.noEntry "a range function without a Go body that blocks") (fr.pos P))).congr (λu => by unfold stepG.exec; simp only [htd])
  case beginRound =>
    refine (gor_apply (P := P) (s := do fr.roundOf.elim (stuck "beginRound: no round") Instr.beginRound; pure .skip) fr callers ?_ w h).congr (λu => by unfold stepG.exec; simp only [htd])
    refine nx_bind ?_ λ_ => trivial
    cases fr.roundOf with
    | none => exact trivial
    | some l => exact pl_Instr_beginRound _
  case endRangeFunc l =>
    refine GOr.run (pl_Instr_endLoop l) (λx => match x with
        | (r, es) => GStep.after (seen P fr.fn es) (match r with
          | .ok jump w => .go { frame := { fr with todo := (jump.map Item.code).toList ++ k }, callers, status := .running, dying := dy } w
          | .halt (.panic v) w => .go { frame := fr.raise [{ v, recovered := false }], callers, status := .running, dying := dy } w
          | .halt _ w => .ended (.stuck "range over a function: no such loop" (fr.pos P)) w)) (λu => by unfold stepG.exec; simp only [htd]; rfl) (λ_ _ _ => trivial) (λr es hok hmk hb => ?_)
    cases r with
    | ok jump w' =>
      refine .inr ⟨_, λu => .go { frame := { fr with todo := (jump.map Item.code).toList ++ k }, callers, status := .running, dying := dy } u #[], seenE, λx => by rw [deaf_seen _ _ hmk]; exact hb trivial x, λ_ _ => rfl, rfl, GOr.go (h.with (fr' := { fr with todo := (jump.map Item.code).toList ++ k }) ?_ rfl) rfl rfl⟩
      cases jump with
      | none => exact hk
      | some c => exact fineL.cons trivial hk
    | halt hh w' =>
      cases hh
      case panic v => exact .inr ⟨_, λu => .go { frame := fr.raise [{ v, recovered := false }], callers, status := .running, dying := dy } u #[], seenE, λx => by rw [deaf_seen _ _ hmk]; exact hb trivial x, λ_ _ => rfl, rfl, GOr.go (h.raise _) rfl rfl⟩
      all_goals exact .inl trivial
  case call d wr re sv => exact (hf _ List.mem_cons_self).elim
  case extern row args =>
    have hrow : row = "runtime.print$piece" := hf _ List.mem_cons_self
    subst hrow
    exact (gor_apply fr callers (nx_piece #[] #[] args) w h).congr (λu => by unfold stepG.exec; simp only [htd, next_print]; rfl)
def gor_callDeferred{P}(hB:Bodied P) fr callers d w(h:fineS dy fr callers):GOr dy (λw=>callDeferred P fr callers dy d w) w:=by
 by_cases hnil:d.target=.nil/\∃c,fr.mode=.panicking c;refine(gor_ended (o:=.unsupported (.noEntry "machine/Return: a deferred call of a nil function value, made while the frame is unwinding") (fr.pos P))).congr (λu=>?_);obtain⟨h1,c,h2⟩:=hnil;unfold callDeferred;rw[if_pos];simp[h1,h2];apply GOr.run (nx_invoke hB d.target d.args);case hf=>intro u;unfold callDeferred;rw[if_neg];generalize(invoke d.target d.args).runT P u #[]=x;exact rfl;intro hh;rw[Bool.and_eq_true]at hh;obtain⟨h1,h2⟩:=hh;refine hnil ⟨?_,?_⟩;revert h1;cases d.target<;>simp;revert h2;cases fr.mode<;>simp
 case hlost=>intro x w' es;exact trivial
 case hbody=>
 intro r es hok hmk hbl;have hE:∀e∈seen P fr.fn es,e∈es:=seenE;have hB:Cont r->∀x,deafBehind x (seen P fr.fn es)=x:=λhcr x=>by rw[deaf_seen _ _ hmk];exact hbl hcr x
 cases r with
 |ok n w'=>
 have hn:=hok n w' rfl;replace hB:=hB trivial;cases n;case enter f args=>exact .inr ⟨_,λu=>.go _ u #[],hE,hB,λ_ _=>rfl,rfl,GOr.go (h.push (fine_enter _ _ _ _)) rfl rfl⟩
 case round l f t a b=>exact .inr ⟨_,λu=>.go _ u #[],hE,hB,λ_ _=>rfl,rfl,GOr.go (h.push (fine_round _ _ _ _ _ _)) rfl rfl⟩
 case row row args=>exact .inr ⟨_,λu=>.go _ u #[],hE,hB,λ_ _=>rfl,rfl,GOr.go (h.push (c:=Frame.ofRow P row args .deferred) (fineL.cons hn .nil)) rfl rfl⟩
 case recover=>
  dsimp only[reR,wR];generalize hx:tryRecover fr callers=x;generalize hm:fr.mode=m;cases m;case returning=>rcases x with _|⟨v,c⟩;exact .inr ⟨_,λu=>.go _ u #[],hE,hB,λ_ _=>rfl,rfl,GOr.go h rfl rfl⟩;exact .inr ⟨_,λu=>.go _ u #[],hE,hB,λ_ _=>rfl,rfl,GOr.go (h.recover hx) rfl rfl⟩
  all_goals rcases x with _|⟨v,c⟩<;>exact .inr ⟨_,λu=>.go _ u #[],hE,hB,λ_ _=>rfl,rfl,GOr.go h rfl rfl⟩
 case coroswitch c b=>have hb:b=true:=hn;subst hb;exact .inr ⟨_,λu=>.coroswitch _ _ _ u #[],hE,hB,λ_ _=>rfl,rfl,GOr.const rfl rfl ⟨h,rfl,rfl,rfl⟩ (λ_ _=>rfl)⟩
 case value v=>exact .inr ⟨_,λu=>.go _ u #[],hE,hB,λ_ _=>rfl,rfl,GOr.go h rfl rfl⟩
 case skip=>exact .inr ⟨_,λu=>.go _ u #[],hE,hB,λ_ _=>rfl,rfl,GOr.go h rfl rfl⟩
 case defer d=>exact .inr ⟨_,λu=>.go _ u #[],hE,hB,λ_ _=>rfl,rfl,GOr.go h rfl rfl⟩
 case comm a b c=>exact .inr ⟨_,λu=>.go _ u #[],hE,hB,λ_ _=>rfl,rfl,GOr.go h rfl rfl⟩
 case spawn d=>exact .inr ⟨_,λu=>.go _ u #[],hE,hB,λ_ _=>rfl,rfl,GOr.go h rfl rfl⟩
 all_goals exact hn.elim
 |halt hh w'=>
 cases hh;case panic v=>exact .inr ⟨_,λu=>.go _ u #[],hE,hB trivial,λ_ _=>rfl,rfl,GOr.go (h.raise _) rfl rfl⟩
 case goexit=>exact .inr ⟨_,λu=>.go _ u #[],hE,hB trivial,λ_ _=>rfl,rfl,GOr.go (h.raise _) rfl rfl⟩
 case blocked=>exact .inl (off_after (.inl (.inl rfl)))
 case waiting=>exact .inl (off_after (.inl (.inr (.inl rfl))))
 case fatal m=>exact .inl (off_after (off_fatal _ _ _ _ _ _))
 case throw m=>exact .inl (off_after (.inr ⟨rfl,_,rfl,λh=>by cases h⟩))
 all_goals exact .inl trivial
def pl_results{P} fn tmps:Pl P (Go.results fn tmps):=by unfold Go.results;refine pl_bind (pl_mapMA _ (λr=>?_) _) λvs=>trivial;cases r with|tmp t=>exact trivial|cell a t=>exact pl_bind (pl_asAddr _) λ_=>pl_loadVar _ _
def gor_unwind{P}(hB:Bodied P) fr callers w(h:fineS dy fr callers):GOr dy (λw=>unwind P true fr callers dy w) w:=by
 have go_:∀g:Goroutine,fineS dy g.frame g.callers->g.dying=dy->g.status=.running->(∀u,unwind P true fr callers dy u=.go g u #[])->GOr dy (λw=>unwind P true fr callers dy w) w:=λg h1 h2 h3 e=>(GOr.go h1 h2 h3).congr e;rcases hd:fr.defers with _|⟨d,ds⟩;cases hm:fr.mode with
 |run=>exact(gor_ended (o:=.stuck "unwind: the frame is running" (fr.pos P))).congr (λu=>by unfold unwind;simp only[hd,hm])|panicking chain=>
  cases hca:fr.catches P with
  |true=>exact(gor_ended (o:=.unsupported (.noEntry "a panic or Goexit out of a method that fmt calls behind a cut's door") (fr.pos P))).congr (λu=>by unfold unwind;simp only[hd,hm,hca,if_true])|false=>
  cases callers with
  |cons c cs=>exact go_ {frame:=c.raise chain,callers:=cs,status:=.running,dying:=dy} (h.pop.raise _) rfl rfl (λu=>by unfold unwind;simp only[hd,hm,hca,Bool.false_eq_true,if_false])|nil=>
  refine .inr ?_;unfold unwind;cases dy with
  |none=>simp only[hd,hm,hca,Bool.false_eq_true,if_false];by_cases hg:chain.head?.any (·.goexit)=true;rw[if_pos hg];exact .inl (.inr (.inr rfl));rw[if_neg hg];generalize(reportChain chain false).run P w=r;cases r with|ok t w'=>exact .inr ⟨rfl,_,rfl,λh=>by cases h⟩|halt hh w'=>cases hh<;>exact trivial
  |some d=>simp only[hd,hm,hca,Bool.false_eq_true,if_false];split;unfold endPrinting;dsimp only;split;exact .inr ⟨rfl,_,rfl,λh=>by cases h⟩;exact trivial;exact trivial
 |returning=>
  cases hfn:P.funcs[fr.fn]? with
  |none=>exact(gor_doReturn (P:=P) fr callers (fr.tmps.getD 0 undef) w h).congr (λu=>by unfold unwind;simp only[hd,hm,hfn])|some fn=>
  refine GOr.run (pl_results fn fr.tmps) (λx=>match x with
   |(r,es)=>GStep.after (seen P fr.fn es) (match r with
    |.ok v w=>doReturn P true fr callers dy v w
    |.halt (.stuck s) w=>.ended (.stuck s (fr.pos P)) w
    |.halt _ w=>.ended (.stuck "return: the result variables cannot be read" (fr.pos P)) w)) (λu=>by unfold unwind;simp only[hd,hm,hfn];rfl) (λ_ _ _=>trivial) (λr es hok hmk hb=>?_)
  cases r with|ok v w'=>exact .inr ⟨_,λu=>doReturn P true fr callers dy v u,seenE,λx=>by rw[deaf_seen _ _ hmk];exact hb trivial x,λ_ _=>rfl,rfl,gor_doReturn _ _ _ _ h⟩|halt hh w'=>cases hh<;>exact .inl trivial
 have h0:(∀u,unwind P true fr callers dy u=callDeferred P {fr with defers:=ds} callers dy d u)->GOr dy (λw=>unwind P true fr callers dy w) w:=λe=>(gor_callDeferred hB {fr with defers:=ds} callers d w (h.same rfl rfl)).congr e;obtain⟨t,args⟩:=d;cases t;case collected b=>
  refine GOr.run (pl_Instr_takeDeferred b) (λx=>match x with
    |(r,es)=>GStep.after (seen P fr.fn es) (match r with
     |.ok calls w=>.go {frame:={fr with defers:=calls++ds},callers,status:=.running,dying:=dy} w
     |.halt _ w=>.ended (.stuck "the deferred calls of a range-over-func loop have been taken" (fr.pos P)) w)) (λu=>by unfold unwind;simp only[hd];rfl) (λ_ _ _=>trivial) (λr es hok hmk hb=>?_)
  cases r with
  |ok v w'=>exact .inr ⟨_,λu=>.go {frame:={fr with defers:=v++ds},callers,status:=.running,dying:=dy} u #[],seenE,λx=>by rw[deaf_seen _ _ hmk];exact hb trivial x,λ_ _=>rfl,rfl,GOr.go (h.same (fr':={fr with defers:=v++ds}) rfl rfl) rfl rfl⟩
  |halt hh w'=>exact .inl trivial
 all_goals exact h0 (λu=>by unfold unwind;simp only[hd])
def gor_step{P}(hB:Bodied P) g w(hd:∀d,g.dying=some d->d.calling=true)(h:fineS g.dying g.frame g.callers):GOr g.dying (stepG P true g) w:=by
 obtain⟨fr,cs,st,dy,off⟩:=g;have hx:∀d:Dying,dy=some d->d.calling=true:=hd;cases hm:fr.mode with
 |run=>exact(gor_exec hB fr cs w h).congr (λu=>by cases dy with|none=>unfold stepG;simp only[hm]|some d=>obtain⟨a1,a2,a3,a4,a5,a6,a7⟩:=d;obtain rfl:a3=true:=hx _ rfl;unfold stepG;simp only[hm])
 |returning=>exact(gor_unwind hB fr cs w h).congr (λu=>by cases dy with|none=>unfold stepG;simp only[hm]|some d=>obtain⟨a1,a2,a3,a4,a5,a6,a7⟩:=d;obtain rfl:a3=true:=hx _ rfl;unfold stepG;simp only[hm])
 |panicking c=>exact(gor_unwind hB fr cs w h).congr (λu=>by cases dy with|none=>unfold stepG;simp only[hm]|some d=>obtain⟨a1,a2,a3,a4,a5,a6,a7⟩:=d;obtain rfl:a3=true:=hx _ rfl;unfold stepG;simp only[hm])
end Tp
namespace Rn
open Tp (seenE gE gW)
section
variable{P:Program}{E:Env}{X:List Nat}
def QX(E:Env):Operand->Prop
 |.tmp _=>True|.const v=>Clean v|.func f=>E.F f|.global _=>False
def Talk(E:Env)(o:Oper):Prop:=match o.op with
 |.send ch x=>QX E ch/\QX E x
 |.recv _ ch _=>QX E ch
 |.call c=>c.callee=.builtin .close/\∃x,c.args=#[x]/\QX E x
 |.go c=>(∃x,c.callee=.value x/\QX E x)/\c.args=#[]
 |_=>False
def OpX(P:Program)(E:Env)(o:Oper):Prop:=o.guard=none/\(OpOK P E (QX E) o∨Talk E o)
def CodeOK(P:Program)(E:Env):Code->Prop
 |.region _ ops _=>∀o∈ops,OpX P E o|.seq a b=>CodeOK P E a/\CodeOK P E b|.cond c a b=>QX E c/\CodeOK P E a/\CodeOK P E b|.block _ b|.loop b=>CodeOK P E b|.exit _|.ret|.skip|.refuse _=>True|_=>False
def ItemOK(P:Program)(E:Env):Item->Prop
 |.code c=>CodeOK P E c|.inBlock _=>True|.inLoop b=>CodeOK P E b|.inRegion ops _=>∀o∈ops,OpX P E o|_=>False
def ItemsOK(P:Program)(E:Env)(l:List Item):Prop:=∀x∈l,ItemOK P E x
structure FrR(P:Program)(E:Env)(X:List Nat)(fr fr':Frame):Prop where
 fn:fr'.fn=fr.fn
 todo:fr'.todo=fr.todo
 ok:ItemsOK P E fr.todo
 tmps:VA E X fr.tmps fr'.tmps
 defers:fr.defers=[]/\fr'.defers=[]
 mode:fr'.mode=fr.mode
 live:fr.mode=.run∨fr.mode=.returning
 kind:fr'.kind=fr.kind
 round:fr.roundOf=none/\fr'.roundOf=none
theorem FrR.app{fr fr'}(h:FrR P E X fr fr') Y:FrR P E (X++Y) fr fr':=⟨h.fn,h.todo,h.ok,h.tmps.app Y,h.defers,h.mode,h.live,h.kind,h.round⟩
def FrR.eval{fr fr'}(h:FrR P E X fr fr'):∀x,QX E x->V E X (fr.eval x) (fr'.eval x):=by
 intro x hx;cases x with
 |tmp t=>show V E X (fr.tmps.getD t undef) (fr'.tmps.getD t undef);rw[Array.getD_eq_getD_getElem?,Array.getD_eq_getD_getElem?];rcases h.tmps.get t with⟨v,v',e1,e2,hv⟩|⟨e1,e2⟩;rw[e1,e2];exact hv;rw[e1,e2];exact V.ofTuple (VA.empty X)
 |const v=>exact Clean.self hx X|func f=>exact .func f #[] #[] #[] #[] hx rfl (λi v v' h=>by simp at h) rfl (λi v v' h=>by simp at h)
 |global g=>exact hx.elim
def ItemsOK.tail{x k}(h:ItemsOK P E (x::k)):ItemsOK P E k:=λy hy=>h y (List.mem_cons_of_mem _ hy)
def ItemsOK.head{x k}(h:ItemsOK P E (x::k)):ItemOK P E x:=h x List.mem_cons_self
def ItemsOK.cons{x k}(h:ItemOK P E x)(hk:ItemsOK P E k):ItemsOK P E (x::k):=λy hy=>by rcases List.mem_cons.1 hy with rfl|hy;exact h;exact hk y hy
def FrR.to{fr fr'}(h:FrR P E X fr fr') k(hk:ItemsOK P E k):FrR P E X {fr with todo:=k} {fr' with todo:=k}:=⟨h.fn,rfl,hk,h.tmps,h.defers,h.mode,h.live,h.kind,h.round⟩
def FrR.finish{fr fr'}(h:FrR P E X fr fr'){v v'}(hv:V E X v v'):FrR P E X (fr.finish v) (fr'.finish v'):=by
 obtain⟨h1,h2,h3,h4,h5,h6,h7,h8,h9⟩:=h;obtain⟨fn,tmps,todo,defers,mode,kind,round⟩:=fr;obtain⟨fn',tmps',todo',defers',mode',kind',round'⟩:=fr';dsimp only at h1 h2 h3 h4 h5 h6 h7 h8 h9;subst h1 h2 h6 h8;obtain⟨rfl,rfl⟩:=h5;obtain⟨rfl,rfl⟩:=h9;unfold Frame.finish;dsimp only;cases todo' with
 |nil=>exact⟨rfl,rfl,h3,h4,⟨rfl,rfl⟩,rfl,h7,rfl,⟨rfl,rfl⟩⟩|cons x k=>
 cases x with
 |inRegion ops l=>cases l with|nil=>exact⟨rfl,rfl,h3,h4,⟨rfl,rfl⟩,rfl,h7,rfl,⟨rfl,rfl⟩⟩|cons i l=>refine⟨rfl,rfl,ItemsOK.cons (show ItemOK P E (.inRegion ops l)from h3.head) h3.tail,?_,⟨rfl,rfl⟩,rfl,h7,rfl,⟨rfl,rfl⟩⟩;dsimp only;cases(ops[i]?).bind (·.dst)with|none=>exact h4|some d=>exact h4.set d hv
 |code c=>exact⟨rfl,rfl,h3,h4,⟨rfl,rfl⟩,rfl,h7,rfl,⟨rfl,rfl⟩⟩|inBlock c=>exact⟨rfl,rfl,h3,h4,⟨rfl,rfl⟩,rfl,h7,rfl,⟨rfl,rfl⟩⟩
 |inLoop c=>exact⟨rfl,rfl,h3,h4,⟨rfl,rfl⟩,rfl,h7,rfl,⟨rfl,rfl⟩⟩|_=>exact h3.head.elim
inductive CsR(P:Program)(E:Env)(X:List Nat):List Frame->List Frame->Prop
 |nil:CsR P E X [] []
 |cons {c c':Frame} {cs cs':List Frame} (h:FrR P E X c c') (hs:CsR P E X cs cs'):CsR P E X (c::cs) (c'::cs')
def CsR.app{cs cs'}(h:CsR P E X cs cs') Y:CsR P E (X++Y) cs cs':=by induction h with|nil=>exact .nil|cons h _ ih=>exact .cons (h.app Y) ih
def wall:Frame:={fn:=0,tmps:=#[],todo:=[.code (.refuse "")],defers:=[],mode:=.run,kind:=.normal}
structure Lost(g:Goroutine):Prop where
 run:g.status=.running
 dy:g.dying=none
 defers:g.frame.defers=[]/\∀c∈g.callers,c.defers=[]
 bad:(∃ch,g.frame.mode=.panicking ch)∨(g.frame.mode=.run/\∃why k,g.frame.todo=.code (.refuse why)::k)
structure GR(P:Program)(E:Env)(X:List Nat)(R:List Frame)(g g':Goroutine):Prop where
 run:g.status=.running/\g'.status=.running
 dy:g.dying=none/\g'.dying=none
 frame:FrR P E X g.frame g'.frame
 callers:∃cs cs',g.callers=cs++[wall]/\g'.callers=cs'++R/\CsR P E X cs cs'
def CsR.defers{cs cs'}(h:CsR P E X cs cs'):∀c∈cs,c.defers=[]:=by
 induction h with
 |nil=>intro c hc;cases hc
 |cons h _ ih=>intro c hc;rcases List.mem_cons.1 hc with rfl|hc;exact h.defers.1;exact ih c hc
def Bad(g:Goroutine):Prop:=Lost g∨g.status≠.running∨g.dying≠none
def StepX(P:Program)(E:Env)(Sh:Nat->Prop)(X:List Nat)(R:List Frame)(w:World)(r r':GStep):Prop:=match r with
 |.go g1 v1 _=>Bad g1∨∃Y g1' w1 es',r'=.go g1' w1 es'/\GR P E (X++Y) R g1 g1'/\Out E Sh X w Y v1 w1/\∀e∈es',EvX (X++Y) Sh e
 |.ended _ _ _=>True
 |_=>False
def Off.stepX{Sh R w r r'}(h:Tp.Off r):StepX P E Sh X R w r r':=by
 cases r with
 |go g v es=>rcases h with h|⟨h1,d,h2,_⟩;exact .inl (.inr (.inl (by rcases h with h|h|h<;>rw[h]<;>simp)));exact .inl (.inr (.inr (by rw[h2];simp)))
 |ended o v es=>exact trivial|_=>exact h.elim
def CsR.clean{cs cs'}(h:CsR P E X cs cs'):∀c∈cs++[wall],c.defers=[]:=by intro c hc;rcases List.mem_append.1 hc with h1|h1;exact h.defers c h1;rw[List.mem_singleton]at h1;subst h1;rfl
def raise_defers(fr:Frame) l:(fr.raise l).defers=fr.defers:=by unfold Frame.raise;split<;>rfl
def raise_mode(fr:Frame) l:∃ch,(fr.raise l).mode=.panicking ch:=by unfold Frame.raise;split<;>exact⟨_,rfl⟩
def lost_raise{fr fr' cs cs'}(hfr:FrR P E X fr fr')(hcs:CsR P E X cs cs') l:Lost {frame:=fr.raise l,callers:=cs++[wall],status:=.running,dying:=none}:=⟨rfl,rfl,⟨by rw[raise_defers];exact hfr.defers.1,hcs.clean⟩,.inl (raise_mode fr l)⟩
def VA.replicate n:VA E X (Array.replicate n undef) (Array.replicate n undef):=⟨rfl,λi v v' h1 h2=>by rw[h1]at h2;cases h2;rw[Array.getElem?_replicate]at h1;split at h1;cases h1;exact V.ofTuple (VA.empty X);cases h1⟩
def FrR.enter(hF:∀f fn b,E.F f->P.funcs[f]? =some fn->fn.body=some b->CodeOK P E b) f(hf:E.F f){a a'}(ha:VA E X a a') k k'(hk:k'=k):FrR P E X (Frame.enter P f a k) (Frame.enter P f a' k'):=by
 subst hk;refine⟨rfl,rfl,?_,?_,⟨rfl,rfl⟩,rfl,.inl rfl,rfl,⟨rfl,rfl⟩⟩;refine ItemsOK.cons ?_ (λ_ h=>by cases h);show CodeOK P E _;cases h1:P.funcs[f]? with|none=>exact trivial|some fn=>cases h2:fn.body with|none=>simp only[Option.bind_some,h2];exact trivial|some b=>simp only[Option.bind_some,h2];exact hF f fn b hf h1 h2
 show VA E X (a++Array.replicate _ undef) (a'++Array.replicate _ undef);rw[<-ha.size];exact ha.append (VA.replicate _)
def apply_x{Sh}(hF:∀f fn b,E.F f->P.funcs[f]? =some fn->fn.body=some b->CodeOK P E b)(hB:Bod P E){R fr fr' cs cs' s s'}(hs:RG P E (NX E) X s s')(hfr:FrR P E X fr fr')(hcs:CsR P E X cs cs'){v w}(hw:WR E Sh X v w):StepX P E Sh X R w (stepG.apply P true fr (cs++[wall]) none s v) (stepG.apply P true fr' (cs'++R) none s' w):=by
 unfold stepG.apply;simp only[if_true];rcases hs.run #[] #[] hw with⟨h,v',es,hni,hr⟩|⟨a,v1,es1,Y,a',w1,es1',r1,r2,r3,r4,r5⟩;rw[hr];cases h with
 |panic x=>exact .inl (.inl (lost_raise hfr hcs _))|goexit=>exact .inl (.inl (lost_raise hfr hcs _))
 |blocked=>exact .inl (.inr (.inl (by simp)))|waiting=>exact .inl (.inr (.inl (by simp)))
 |exit c=>exact trivial|fatal m=>exact Off.stepX (Tp.off_after (Tp.off_fatal _ _ _ _ _ _))
 |throw m=>exact Off.stepX (Tp.off_after (.inr ⟨rfl,_,rfl,λh=>by cases h⟩))|unsupported u=>cases u<;>first|exact trivial|exact hni.elim
 |stuck m=>exact trivial
 rw[r1,r2];have hev:∀(e:Event)(b:Bool),e∈seen P fr'.fn (if b=true then #[]else es1')->EvX (X++Y) Sh e:=by intro e b he;have:=seenE _ he;split at this;simp at this;rcases r5 e this with h|h;simp at h;exact h
 have hfr2:=hfr.app Y;have hcs2:=hcs.app Y;cases r3 with|value x x' hx=>exact .inr ⟨Y,_,w1,_,rfl,⟨⟨rfl,rfl⟩,⟨rfl,rfl⟩,hfr2.finish hx,cs,cs',rfl,rfl,hcs2⟩,r4,λe he=>hev e (fr'.kind==.early) (by rwa[Array.append_empty]at he)⟩|skip=>exact .inr ⟨Y,_,w1,_,rfl,⟨⟨rfl,rfl⟩,⟨rfl,rfl⟩,hfr2.finish (V.ofTuple (VA.empty _)),cs,cs',rfl,rfl,hcs2⟩,r4,λe he=>hev e (fr'.kind==.early) (by rwa[Array.append_empty]at he)⟩|enter f a a' hf ha=>refine .inr ⟨Y,_,w1,_,rfl,⟨⟨rfl,rfl⟩,⟨rfl,rfl⟩,?_,fr::cs,fr'::cs',rfl,rfl,.cons hfr2 hcs2⟩,r4,λe he=>hev e (fr'.kind==.early) (by rwa[Array.append_empty]at he)⟩;exact FrR.enter hF f hf ha _ _ (by rw[hfr2.todo])
def step_x{Sh R v w}(hw:WR E Sh X v w){fr fr' cs cs'}(hfr:FrR P E X fr fr')(hcs:CsR P E X cs cs'):StepX P E Sh X R w (.go {frame:=fr,callers:=cs++[wall],status:=.running,dying:=none} v #[]) (.go {frame:=fr',callers:=cs'++R,status:=.running,dying:=none} w #[]):=.inr ⟨[],_,w,_,rfl,by rw[List.append_nil];exact⟨⟨rfl,rfl⟩,⟨rfl,rfl⟩,hfr,cs,cs',rfl,rfl,hcs⟩,.refl hw,λe he=>by simp at he⟩
theorem exit_sub{id}:∀ {k k':List Item},exitTo id k=some k'->ItemsOK P E k->ItemsOK P E k'
 |[],_,h,_=>by cases h
 |it::k,k',h,hk=>by unfold exitTo at h;split at h;rename_i hh;cases hh;split at h;cases h;exact hk.tail;exact exit_sub h hk.tail;rename_i hh;cases hh;exact exit_sub h hk.tail;cases h
def run_choose{Sh} q{v w}(hw:WR E Sh X v w):∃t v1 w1,(choose q).run P v=.ok t v1/\(choose q).run P w=.ok t w1/\Out E Sh X w [] v1 w1:=by
 rcases(re_choose (P:=P) (E:=E) (X:=X) q).run #[] #[] hw with⟨h,v',es,hni,hr⟩|⟨a,v1,es1,Y,a',w1,es1',r1,r2,r3,r4,r5⟩;rw[Sem.runT_eq]at hr;have:(choose q).run P v=.halt h v':=(Prod.mk.inj hr).1;unfold choose at this;rw[Sem.run]at this;split at this<;>cases this;rw[Sem.runT_eq]at r1 r2;obtain⟨rY,rfl⟩:=r3;have:Y=[]:=by simpa using rY
 subst this;exact⟨a,v1,w1,(Prod.mk.inj r1).1,(Prod.mk.inj r2).1,r4⟩
def exec_x{Sh}(hF:∀f fn b,E.F f->P.funcs[f]? =some fn->fn.body=some b->CodeOK P E b)(hB:Bod P E)(hG:P.globals.size<=E.G){R fr fr' cs cs'}(hfr:FrR P E X fr fr')(hcs:CsR P E X cs cs')(hm:fr.mode=.run) (hT:∀ops i l k o,fr.todo=.inRegion ops (i::l)::k->ops[i]? =some o->¬Talk E o) {v w} (hw:WR E Sh X v w) b b':StepX P E Sh X R w (stepG.exec P b true fr (cs++[wall]) none v) (stepG.exec P b' true fr' (cs'++R) none w):=by
 have htodo:=hfr.todo;have hok:=hfr.ok;unfold stepG.exec;simp only[htodo];cases ht:fr.todo with
 |nil=>simp only[hfr.round.1,hfr.round.2];refine step_x hw ⟨hfr.fn,rfl,(λ_ h=>by cases h),hfr.tmps,hfr.defers,rfl,.inr rfl,hfr.kind,⟨rfl,rfl⟩⟩ hcs|cons x k=>
 rw[ht]at hok;have hk:=hok.tail;cases x with
 |code c=>
  have hc:CodeOK P E c:=hok.head;cases c with
  |ret=>simp only[hfr.round.1,hfr.round.2];refine step_x hw ⟨hfr.fn,rfl,hok,hfr.tmps,hfr.defers,rfl,.inr rfl,hfr.kind,⟨rfl,rfl⟩⟩ hcs|skip=>exact step_x hw (hfr.to k hk) hcs
  |seq a b=>exact step_x hw (hfr.to _ (.cons (show ItemOK P E (.code a)from hc.1) (.cons (show ItemOK P E (.code b)from hc.2) hk))) hcs|cond x a b=>
   have hx:=hfr.eval x hc.1;dsimp only;revert hx;generalize fr.eval x=y;generalize fr'.eval x=y';intro hx;cases hx with
   |bool t=>refine step_x hw (hfr.to _ (.cons ?_ hk)) hcs;cases t;exact hc.2.2;exact hc.2.1
   |_=>exact trivial
  |block id b=>exact step_x hw (hfr.to _ (.cons (show ItemOK P E (.code b)from hc) (.cons (show ItemOK P E (.inBlock id)from trivial) hk))) hcs|loop b=>exact step_x hw (hfr.to _ (.cons (show ItemOK P E (.code b)from hc) (.cons (show ItemOK P E (.inLoop b)from hc) hk))) hcs
  |exit id=>cases he:exitTo id k with|none=>simp only[hfr.round.1,hfr.round.2,he,Option.elim_none,Bool.false_eq_true,if_false];exact trivial|some k'=>simp only[he,Option.elim_some];exact step_x hw (hfr.to _ (exit_sub he hk)) hcs
  |refuse why=>exact trivial|region id ops draw=>dsimp only;cases draw with|false=>exact step_x hw (hfr.to _ (.cons (show ItemOK P E (.inRegion ops _)from hc) hk)) hcs|true=>obtain⟨t,v1,w1,h1,h2,h3⟩:=run_choose (P:=P) (.order fr.fn id) hw;simp only[Bool.not_true,Bool.false_eq_true,if_false];rw[show Question.order fr'.fn id=.order fr.fn id by rw[hfr.fn],h1,h2];dsimp only;refine .inr ⟨[],_,w1,_,rfl,?_,h3,λe he=>by simp at he⟩;rw[List.append_nil];exact⟨⟨rfl,rfl⟩,⟨rfl,rfl⟩,hfr.to _ (.cons (show ItemOK P E (.inRegion ops _)from hc) hk),cs,cs',rfl,rfl,hcs⟩
  |scope b=>exact hc.elim|label l=>exact hc.elim
  |goto l=>exact hc.elim|rangeFunc a b c d=>exact hc.elim
 |inBlock id=>exact step_x hw (hfr.to k hk) hcs|inLoop b=>exact step_x hw (hfr.to _ (.cons (show ItemOK P E (.code b)from hok.head) (.cons (show ItemOK P E (.inLoop b)from hok.head) hk))) hcs
 |inRegion ops l=>
  have hops:∀o∈ops,OpX P E o:=hok.head;cases l with
  |nil=>exact step_x hw (hfr.to k hk) hcs|cons i l=>
  dsimp only;cases hi:ops[i]? with
  |none=>simp only[Option.map_none,Option.getD_none,Bool.false_eq_true,if_false];exact step_x hw (hfr.finish (V.ofTuple (VA.empty _))) hcs|some o=>
  have hox:=hops o (Array.mem_of_getElem? hi);have hwant:∀y,Region.wanted o y=true:=λy=>by unfold Region.wanted;rw[hox.1]
  simp only[Option.map_some,Option.getD_some,hwant,if_true];have hoo:OpOK P E (QX E) o:=by rcases hox.2 with h|h;exact h;exact absurd h (hT ops i l k o ht hi)
  have ho1:fr.oper? =some o:=by unfold Frame.oper?;rw[ht];exact hi
  have ho2:fr'.oper? =some o:=by unfold Frame.oper?;rw[htodo,ht];exact hi
  unfold stepG.oper;simp only[ho1,ho2,hfr.round.1,hfr.round.2];exact apply_x hF hB (rg_execOp hB hG hfr.eval o hoo) hfr hcs hw
 |_=>exact hok.head.elim
theorem re_mapV{γ} f f'(hf:∀a,RE P E (V E X) X (f a) (f' a)):∀l:List γ,RE P E (λr r'=>VA E X r.toArray r'.toArray) X (l.mapM f) (l.mapM f')
 |[]=>by rw[List.mapM_nil,List.mapM_nil];exact re_pure (VA.empty X)|a::l=>by rw[List.mapM_cons,List.mapM_cons];refine re_bind (hf a) λv v' hv=>re_bind (re_mapV f f' hf l) λr r' hr=>re_pure ?_;have:=(VA.one hv).append hr;simpa using this
def re_results fn{a a'}(ha:VA E X a a'):RE P E (V E X) X (results fn a) (results fn a'):=by
 have hget:∀t,V E X (a.getD t undef) (a'.getD t undef):=λt=>by rw[Array.getD_eq_getD_getElem?,Array.getD_eq_getD_getElem?];rcases ha.get t with⟨v,v',e1,e2,hv⟩|⟨e1,e2⟩;rw[e1,e2];exact hv;rw[e1,e2];exact V.ofTuple (VA.empty X)
 unfold results;rw[Array.mapM_eq_mapM_toList,Array.mapM_eq_mapM_toList];refine re_bind (R:=VA E X) (re_bind (re_mapV _ _ (λr=>?_) _) λr r' hr=>re_pure hr) λr r' hr=>?_;cases r with|tmp t=>exact re_pure (hget t)|cell a t=>exact re_bind (re_asAddr (hget a)) λb b' hb=>re_loadVar hb t
 refine re_pure ?_;by_cases h1:r.size=1;have h2:r'.size=1:=by rw[<-hr.size];exact h1
 rw[dif_pos h1,dif_pos h2];exact hr.el 0 _ _ (Array.getElem?_eq_getElem (by omega)) (Array.getElem?_eq_getElem (by omega));have h2:¬r'.size=1:=by rw[<-hr.size];exact h1
 rw[dif_neg h1,dif_neg h2];exact V.ofTuple hr
def wall_lost:Lost {frame:=wall,callers:=[],status:=.running,dying:=none}:=⟨rfl,rfl,⟨rfl,λ_ h=>by cases h⟩,.inr ⟨rfl,_,_,rfl⟩⟩
def doReturn_x{Sh R fr fr' cs cs'}(hfr:FrR P E X fr fr')(hcs:CsR P E X cs cs'){v w}(hw:WR E Sh X v w){x x'}(hx:V E X x x') b b':StepX P E Sh X R w (doReturn P b fr (cs++[wall]) none x v) (doReturn P b' fr' (cs'++R) none x' w):=by
 unfold doReturn;rw[hfr.kind];cases hcs with
 |nil=>simp only[List.nil_append];cases fr.kind with|normal=>exact .inl (.inl wall_lost)|wrapped=>exact .inl (.inl wall_lost)|early=>exact .inl (.inl wall_lost)|deferred=>exact .inl (.inl wall_lost)|report=>exact .inl (.inl wall_lost)
 |@cons c c' cs cs' hc hcs=>
 simp only[List.cons_append];cases fr.kind with
 |normal=>exact step_x hw (hc.finish hx) hcs|wrapped=>exact step_x hw (hc.finish hx) hcs
 |early=>exact step_x hw hc hcs|deferred=>rcases hc.live with h1|h1<;>(have h2:=hc.mode.trans h1;simp only[h1,h2];exact step_x hw hc hcs)
 |report=>rcases hc.live with h1|h1<;>(have h2:=hc.mode.trans h1;simp only[h1,h2];exact step_x hw hc hcs)
def unwind_x{Sh R fr fr' cs cs'}(hfr:FrR P E X fr fr')(hcs:CsR P E X cs cs')(hm:fr.mode=.returning){v w}(hw:WR E Sh X v w) b b':StepX P E Sh X R w (unwind P b fr (cs++[wall]) none v) (unwind P b' fr' (cs'++R) none w):=by
 have hm':fr'.mode=.returning:=hfr.mode.trans hm;unfold unwind;simp only[hfr.defers.1,hfr.defers.2,hm,hm',hfr.fn];cases hf:P.funcs[fr.fn]? with
 |none=>refine doReturn_x hfr hcs hw ?_ b b';rw[Array.getD_eq_getD_getElem?,Array.getD_eq_getD_getElem?];rcases hfr.tmps.get 0 with⟨v,v',e1,e2,hv⟩|⟨e1,e2⟩;rw[e1,e2];exact hv;rw[e1,e2];exact V.ofTuple (VA.empty X)
 |some fn=>
 dsimp only;rcases(re_results (P:=P) fn hfr.tmps).run #[] #[] hw with⟨h,v',es,hni,hr⟩|⟨a,v1,es1,Y,a',w1,es1',r1,r2,r3,r4,r5⟩;rw[hr];cases h<;>exact trivial;obtain⟨hY,ha⟩:=r3;have:Y=[]:=by simpa using hY
 subst this;rw[r1,r2];rw[List.append_nil]at r5;have hw1:WR E Sh X v1 w1:=by have:=r4.rel;rwa[List.append_nil]at this
 have hr:=doReturn_x (R:=R) hfr hcs hw1 ha b b';dsimp only;generalize doReturn P b fr (cs++[wall]) none a v1=q at hr;generalize doReturn P b' fr' (cs'++R) none a' w1=q' at hr;cases q with
 |go g0 u0 e0=>rcases hr with hr|⟨Y2,g1',w2,e2,rfl,h2,h3,h4⟩;exact .inl hr;refine .inr ⟨Y2,g1',w2,_,rfl,h2,by simpa using r4.trans (by simpa using h3),λe he=>?_⟩;rcases Array.mem_append.1 he with h5|h5;rcases r5 e (seenE _ h5)with h6|h6;simp at h6;exact h6.app Y2;exact h4 e h5
 |ended o u0 e0=>exact trivial|_=>exact hr.elim
def sim_step{Sh}(hF:∀f fn b,E.F f->P.funcs[f]? =some fn->fn.body=some b->CodeOK P E b)(hB:Bod P E)(hG:P.globals.size<=E.G){R g g'}(h:GR P E X R g g') (hT:g.frame.mode=.run->∀ops i l k o,g.frame.todo=.inRegion ops (i::l)::k->ops[i]? =some o->¬Talk E o) {v w} (hw:WR E Sh X v w) b b':StepX P E Sh X R w (stepG P b g v) (stepG P b' g' w):=by
 obtain⟨fr,cs,st,dy,off⟩:=g;obtain⟨fr',cs',st',dy',off'⟩:=g';obtain⟨h1,⟨rfl,rfl⟩,h3,⟨ds,ds',rfl,rfl,h4⟩⟩:=h;rcases h3.live with hm|hm;replace hm:fr.mode=.run:=hm;have hm':fr'.mode=.run:=h3.mode.trans hm;have e1:stepG P b ⟨fr,ds++[wall],st,none,off⟩ v=stepG.exec P b true fr (ds++[wall]) none v:=by unfold stepG;simp only[hm]
 have e2:stepG P b' ⟨fr',ds'++R,st',none,off'⟩ w=stepG.exec P b' true fr' (ds'++R) none w:=by unfold stepG;simp only[hm']
 rw[e1,e2];exact exec_x hF hB hG h3 h4 hm (hT hm) hw b b';replace hm:fr.mode=.returning:=hm;have hm':fr'.mode=.returning:=h3.mode.trans hm;have e1:stepG P b ⟨fr,ds++[wall],st,none,off⟩ v=unwind P b fr (ds++[wall]) none v:=by unfold stepG;simp only[hm]
 have e2:stepG P b' ⟨fr',ds'++R,st',none,off'⟩ w=unwind P b' fr' (ds'++R) none w:=by unfold stepG;simp only[hm']
 rw[e1,e2];exact unwind_x h3 h4 hm hw b b'
end
end Rn
namespace Tp
open Go.Conc
def NoOffers(gs:Array Goroutine):Prop:=∀r b,partners gs r b=[]
def noOffers_ph:NoOffers #[ph]:=λr b=>by simp[partners,ph]
def ways_none{gs gs'}(h:NoOffers gs)(h':NoOffers gs') w c:ways w gs c=ways w gs' c:=by unfold ways;simp only[h _ _,h' _ _]
def notPartner:Way->Prop
 |.partner _ _=>False|_=>True
def ways_notPartner{gs}(h:NoOffers gs) w c:∀x∈ways w gs c,notPartner x:=by
 unfold ways;simp only[h _ _];intro x hx;revert hx;repeat' split
 all_goals (intro hx;simp at hx;try(subst hx;exact trivial))
abbrev rest0:Rest:={timers:=#[],alone:=none,slice:=none}
def timerAhead_none sl mono cases:timerAhead {timers:=#[],alone:=none,slice:=sl} mono cases=false:=by unfold timerAhead;rw[Array.any_eq_false];intro k hk;split<;>simp
def waitingAt_none sl cases w:waitingAt {timers:=#[],alone:=none,slice:=sl} cases w=some w:=by unfold waitingAt;rw[timerAhead_none];rfl
def CommLeft(g g':Goroutine):Prop:=(g'.status=.blocked/\g'.frame=g.frame/\g'.callers=g.callers/\g'.dying=g.dying)∨(g'.status=.running/\g'.callers=g.callers/\g'.dying=g.dying/\((∃v,g'.frame=g.frame.finish v)∨∃l,g'.frame=g.frame.raise l))∨g'=g
def CommOps(ops:Array MemOp):Prop:=∀op∈ops,op.g=0/\op.act.touch? =none/\∀m,op.act≠.mark m
structure CommRe(P:Program)(g:Goroutine)(cases:Array CommCase)(blocking:Bool)(shape:CommShape)(w:World)(g':Goroutine)(w':World)(ops:Array MemOp)(k:Nat):Prop where
 drawn:w'.drawn=w.drawn+k
 tape:w'.tape=w.tape
 size:w.heap.size<=w'.heap.size
 left:CommLeft g g'
 acts:CommOps ops
 same:∀τ n,Agree w τ n k->∀(gs:Array Goroutine)(sl:Option (Nat×Nat)),NoOffers gs->communicate P {timers:=#[],alone:=none,slice:=sl} gs 0 g cases blocking shape (w.re τ n)=(.next (crowd (gs.setIfInBounds 0 g') (w'.re τ (n+k)) sl),ops)
def run_of_plain{P α Φ}{s:Sem α}(hs:Plain P Φ s) w:(∃k,(wR (s.run P w)).drawn=w.drawn+k/\(wR (s.run P w)).tape=w.tape/\w.heap.size<=(wR (s.run P w)).heap.size/\(∀a w',s.run P w=.ok a w'->Φ a)/\∀τ n,Agree w τ n k->s.run P (w.re τ n)=reR τ (n+k) (s.run P w))∨∃x w',s.run P w=.halt (.unsupported (.noEntry x)) w':=by rcases hs.run w #[]with⟨k,i⟩|⟨u,w',es',h⟩;refine .inl ⟨k,?_,?_,?_,?_,?_⟩;simpa only[Sem.runT_eq]using i.drawn;simpa only[Sem.runT_eq]using i.tape;simpa only[Sem.runT_eq]using i.size;intro a w' h;exact i.post a w' (by rw[Sem.runT_eq];exact h);intro τ n ha;have:=i.same τ n ha;simp only[Sem.runT_eq,Prod.mk.injEq]at this;exact this.1;refine .inr ⟨u,w',?_⟩;rw[Sem.runT_eq]at h;exact(Prod.mk.inj h).1
def pl_pick{P}(ready:List (Nat×CommCase×List Way))(h:∀x∈ready,∀y∈x.2.2,notPartner y) :
  Plain P (λx=>notPartner x.2.2) (do
   let a <-choose (.select ready.length);let(k,c,ws):=ready.getD a (0,default,[]);let b <-choose (.extern "which waiting goroutine is the partner" ws.length)
   pure (k,c,ws.getD b .closed):Sem (Nat×CommCase×Way)):=by
 intro a b;show notPartner ((ready.getD a (0,default,[])).2.2.getD b .closed);have hx:∀y∈(ready.getD a (0,default,[])).2.2,notPartner y:=by
  intro y hy;rw[List.getD_eq_getElem?_getD]at hy;cases hr:ready[a]? with
  |none=>rw[hr]at hy;cases hy
  |some x=>rw[hr]at hy;exact h x (List.mem_of_getElem? hr) y hy
 generalize ready.getD a (0,default,[])=x at hx|-;rw[List.getD_eq_getElem?_getD];cases hr:x.2.2[b]? with
 |none=>exact trivial
 |some y=>exact hx y (List.mem_of_getElem? hr)
def comm_alone P g cases blocking shape w(hg:g.status=.running){m' ops} (h:communicate P rest0 #[ph] 0 g cases blocking shape w=(.next m',ops)):∃g' w' k,m'=solo g' w'/\CommRe P g cases blocking shape w g' w' ops k:=by
 have hstay:∀(g':Goroutine)(gs:Array Goroutine)(u:World)(sl:Option (Nat×Nat)),({world:=u,gs:=gs.setIfInBounds 0 g',rest:={timers:=#[],alone:=none,slice:=sl}}:Machine)=crowd (gs.setIfInBounds 0 g') u sl:=λ_ _ _ _=>rfl;have hway:∀gs,NoOffers gs->∀(u:World)(hu:u.heap=w.heap),(cases.zipIdx.toList.map λ(c,k)=>(k,c,ways u gs c)).filter (λ(_,_,ws)=> !ws.isEmpty)=(cases.zipIdx.toList.map λ(c,k)=>(k,c,ways w #[ph] c)).filter (λ(_,_,ws)=> !ws.isEmpty):=by
  intro gs hgs u hu;congr 1;apply List.map_congr_left;rintro⟨c,k⟩_;have:ways u gs c=ways w #[ph] c:=by rw[ways_none hgs noOffers_ph];unfold ways;rw[hu]
  simp only[this]
 have hnp:∀x∈(cases.zipIdx.toList.map λ(c,k)=>(k,c,ways w #[ph] c)).filter (λ(_,_,ws)=> !ws.isEmpty),∀y∈x.2.2,notPartner y:=by intro x hx y hy;obtain⟨hx,_⟩:=List.mem_filter.1 hx;obtain⟨⟨c,k⟩,_,rfl⟩:=List.mem_map.1 hx;exact ways_notPartner noOffers_ph w c y hy
 have hre:∀τ n,(w.re τ n).heap=w.heap:=λ_ _=>rfl;have hp:=run_of_plain (pl_pick (P:=P) _ hnp) w;dsimp only at hp hway;unfold communicate at h;dsimp only at h;split at h;cases h;rename_i hill;split at h;rename_i hemp;split at h;rename_i hbl;subst hbl;rw[waitingAt_none]at h;cases h;refine⟨_,w,0,rfl,rfl,rfl,Nat.le_refl _,.inl ⟨rfl,rfl,rfl,rfl⟩,λop hop=>by simp at hop,λτ n _ gs sl hgs=>?_⟩;unfold communicate;dsimp only;simp only[hre,hway gs hgs (w.re τ n) rfl,waitingAt_none];rw[if_neg hill,if_pos hemp];rfl;rename_i hbl;cases h;refine⟨_,w,0,rfl,rfl,rfl,Nat.le_refl _,.inr (.inl ⟨rfl,rfl,rfl,.inl ⟨_,rfl⟩⟩),λop hop=>by simp at hop,λτ n _ gs sl hgs=>?_⟩;unfold communicate;dsimp only;simp only[hre,hway gs hgs (w.re τ n) rfl,waitingAt_none];rw[if_neg hill,if_pos hemp,if_neg hbl];rfl;rename_i hemp;split at h;cases h;rename_i kk c way w1 hpk;rw[hpk]at hp;rcases hp with⟨k,e1,e2,e3,e4,e5⟩|⟨x,w',hx⟩;case inr=>cases hx
 replace e1:w1.drawn=w.drawn+k:=e1;replace e2:w1.tape=w.tape:=e2;replace e3:w.heap.size<=w1.heap.size:=e3;have hnw:=e4 _ _ rfl;have hre1:∀τ n,(w1.re τ n).heap=w1.heap:=λ_ _=>rfl;have hpn:∀gs,NoOffers gs->∀r b,partners gs r b=[]:=λ_ h=>h;have hpan:∀u:World,Sem.run P (runtimePanic (.plain "send on closed channel"):Sem Unit) u=.halt (.panic (.iface P.rt.plainError (strVal "send on closed channel"))) u:=λu=>rfl;split at h;rw[hpan]at h;cases h;refine⟨_,w1,k,rfl,e1,e2,e3,.inr (.inl ⟨hg,rfl,rfl,.inr ⟨_,rfl⟩⟩),λop hop=>by simp at hop,λτ n ha gs sl hgs=>?_⟩;unfold communicate;dsimp only;simp only[hre,hway gs hgs (w.re τ n) rfl];rw[if_neg hill,if_neg hemp,e5 τ n ha];dsimp only[reR];rw[hpan];rfl;cases h;refine⟨_,w1,k,rfl,e1,e2,e3,.inr (.inl ⟨rfl,rfl,rfl,.inl ⟨_,rfl⟩⟩),λop hop=>?_,λτ n ha gs sl hgs=>?_⟩;simp at hop;subst hop;exact⟨rfl,rfl,λm=>by simp⟩;unfold communicate;dsimp only;simp only[hre,hway gs hgs (w.re τ n) rfl];rw[if_neg hill,if_neg hemp,e5 τ n ha];rfl;rename_i cap buf closed sent rcvd tm v hob hsd;cases h;refine⟨_,_,k,rfl,e1,e2,(by show w.heap.size<=(w1.heap.setIfInBounds _ _).size;simpa using e3),.inr (.inl ⟨rfl,rfl,rfl,.inl ⟨_,rfl⟩⟩),λop hop=>?_,λτ n ha gs sl hgs=>?_⟩;simp at hop;rcases hop with rfl|rfl<;>exact⟨rfl,rfl,λm=>by simp⟩;unfold communicate;dsimp only;simp only[hre,hway gs hgs (w.re τ n) rfl];rw[if_neg hill,if_neg hemp,e5 τ n ha];dsimp only[reR];simp only[hre1,hob,hsd];rfl;rename_i cap buf closed sent rcvd tm hob hsd;rw[noOffers_ph _ _]at h;cases h;refine⟨_,_,k,rfl,e1,e2,(by show w.heap.size<=(w1.heap.setIfInBounds _ _).size;simpa using e3),.inr (.inl ⟨rfl,rfl,rfl,.inl ⟨_,rfl⟩⟩),λop hop=>?_,λτ n ha gs sl hgs=>?_⟩;simp at hop;rcases hop with rfl|rfl<;>exact⟨rfl,rfl,λm=>by simp⟩;unfold communicate;dsimp only;simp only[hre,hway gs hgs (w.re τ n) rfl];rw[if_neg hill,if_neg hemp,e5 τ n ha];dsimp only[reR];simp only[hre1,hob,hsd,hpn gs hgs];rfl;exact hnw.elim;exact hnw.elim;cases h
structure Ld(g:Goroutine):Prop where
 run:g.status=.running
 dy:∀d,g.dying=some d->d.calling=true
 fine:fineS g.dying g.frame g.callers
def OffG(g:Goroutine):Prop:=(g.status=.blocked∨g.status=.waiting∨g.status=.finished)∨(g.status=.running/\Dead g)
def Calm(gs:Array Goroutine):Prop:=∀j x,0<j->gs[j]? =some x->x.status=.running∨x.status=.finished
def Calm.no{gs}(h:Calm gs):NoOffers (gs.setIfInBounds 0 ph):=λr b=>partners_nil λj g hj=>by rcases getElem?_stand gs 0 j g hj with⟨_,rfl⟩|⟨h0,hj⟩;exact offersAt_ph r b;exact offersAt_of_not_blocked (by rcases h j g (by omega) hj with e|e<;>rw[e]<;>simp) r b
def Calm.woken{P gs}(h:Calm gs) g g' w:(gs.map (woken P g g' w)).setIfInBounds 0 g'=gs.setIfInBounds 0 g':=by apply Array.ext_getElem?;intro j;by_cases hj:j=0;subst hj;by_cases hs:0<gs.size;rw[Array.getElem?_setIfInBounds_self_of_lt (by simpa using hs),Array.getElem?_setIfInBounds_self_of_lt hs];rw[Array.getElem?_eq_none (by simpa using hs),Array.getElem?_eq_none (by simpa using hs)];rw[Array.getElem?_setIfInBounds_ne (Ne.symm hj),Array.getElem?_setIfInBounds_ne (Ne.symm hj),Array.getElem?_map];cases hx:gs[j]? with|none=>rfl|some x=>rw[Option.map_some];unfold Go.Conc.woken;split;rw[again_running _ (h j x (by omega) hx)];rfl
structure MoveRe(P:Program)(g:Goroutine)(w:World)(g':Goroutine)(w':World)(ops:Array MemOp)(k:Nat):Prop where
 drawn:w'.drawn=w.drawn+k
 tape:w'.tape=w.tape
 size:w.heap.size<=w'.heap.size
 own:∀op∈ops,op.g=0
 deaf:∀t:Trace,Deaf (t++ops) 0=Deaf t 0
 same:∀τ n,Agree w τ n k->∀(gs:Array Goroutine)(sl:Option (Nat×Nat)),Calm gs->gs[0]? =some g->runT P (crowd gs (w.re τ n) sl) 0=(.next (crowd (gs.setIfInBounds 0 g') (w'.re τ (n+k)) sl),ops)
def deaf_ofEvents{fn pos es}(h:∀x,deafBehind x es=x) t:Deaf (t++MemOp.ofEvents 0 fn pos es) 0=Deaf t 0:=by rw[Deaf_own,h]
def deaf_acts{ops}(h:CommOps ops) t:Deaf (t++ops) 0=Deaf t 0:=by
 obtain⟨l⟩:=ops;rw[Deaf_append];generalize Deaf t 0=d;induction l with
 |nil=>rfl|cons y l ih=>
 have e:deafStep 0 d y=d:=by have:=(h y (by simp)).2.2;unfold deafStep;split;rename_i hh;exact absurd hh (this _);rename_i hh;exact absurd hh (this _);rfl
 rw[List.foldl_cons,e];exact ih (λop hop=>h op (by simp at hop|-;exact .inr hop))
def modify_out x n f:(#[x]:Array Goroutine).modify (n+1) f=#[x]:=by apply Array.ext_getElem?;intro j;rw[Array.getElem?_modify];by_cases hj:n+1=j;subst hj;simp;simp[hj]
def runT_crowd_coro{P gs w w1 sl g g2 c es}(hi:gs[0]? =some g)(h:stepG P true g w=.coroswitch g2 c true w1 es):(∃hh,w1.heap[c]? =some (.coro (some hh))/\runT P (crowd gs w sl) 0=(.next (crowd ((gs.setIfInBounds 0 {g2 with status:=.finished}).modify hh (λo=>{o with status:=.running})) {w1 with heap:=w1.heap.setIfInBounds c (.coro none)} sl),MemOp.ofEvents 0 g.frame.fn g.frame.place es))∨(w1.heap[c]? =some (.coro none)/\∃d,d.calling=false/\runT P (crowd gs w sl) 0=(.next (crowd (gs.setIfInBounds 0 {frame:=g2.frame,callers:=[],status:=.running,dying:=some d}) w1 sl),MemOp.ofEvents 0 g.frame.fn g.frame.place es))∨((∀hh,w1.heap[c]?≠some (.coro (some hh)))/\∃o w',runT P (crowd gs w sl) 0=(.ended o w',MemOp.ofEvents 0 g.frame.fn g.frame.place es)):=by
 obtain⟨hlt,rfl⟩:=Array.getElem?_eq_some_iff.1 hi;have hsw:=swapAt_of_lt hlt {(default:Goroutine)with status:=.finished};have hr:runT P (crowd gs w sl) 0=runT P {world:=w,gs:=gs,rest:={timers:=#[],alone:=none,slice:=sl}} 0:=rfl;rw[hr];unfold runT;simp only[hsw,h,GStep.es,set_setIfInBounds hlt,BEq.rfl];cases hh:w1.heap[c]? with
 |none=>exact .inr (.inr ⟨by simp,_,_,rfl⟩)|some o=>
 cases o with
 |coro x=>cases x with|none=>exact .inr (.inl ⟨rfl,_,rfl,rfl⟩)|some x=>exact .inl ⟨x,rfl,rfl⟩
 |_=>exact .inr (.inr ⟨by simp,_,_,rfl⟩)
inductive LoneStep(P:Program)(g:Goroutine)(w:World):Prop
 |over (h:∀m' ops,stepT P (solo g w)≠(.next m',ops))
 |many (m':Machine) (ops:Array MemOp) (h:stepT P (solo g w)=(.next m',ops)) (h2:2<=m'.gs.size)
 |off (g':Goroutine) (w':World) (ops:Array MemOp) (h:stepT P (solo g w)=(.next (solo g' w'),ops)) (h2:OffG g')
 |move (g':Goroutine) (w':World) (ops:Array MemOp) (k:Nat) (h:stepT P (solo g w)=(.next (solo g' w'),ops)) (h2:Ld g') (h3:g'.dying=g.dying) (h4:MoveRe P g w g' w' ops k)
def lone_step{P}(hB:Bodied P) g w(h:Ld g):LoneStep P g w:=by
 have h0:stepT P (solo g w)=runT P (solo g w) 0:=stepT_solo h.run;have hc0:∀u,solo g u=crowd #[g] u none:=λ_=>rfl;rcases gor_step hB g w h.dy h.fine with⟨k,i⟩|hoff
 ·have i1:=i.drawn;have i2:=i.tape;have i3:=i.size;have i5:=i.bal;have i6:=i.kind;have i7:=i.same;cases hs:stepG P true g w with
  |go g' w' es=>rw[hs]at i1 i2 i3 i5 i6 i7;refine .move g' w' _ k (h0.trans (runT_solo_go hs)) ⟨i6.2.2,by rw[i6.2.1];exact h.dy,by rw[i6.2.1];exact i6.1⟩ i6.2.1 ⟨i1,i2,i3,λop hop=>?_,deaf_ofEvents i5,λτ n ha gs sl hgs hg=>?_⟩;obtain⟨e,_,rfl⟩:=Go.Conc.mem_ofEvents hop;rfl;have:=runT_crowd_go (P:=P) (w:=w.re τ n) (sl:=sl) (i:=0) hg (i7 τ n ha);rw[hgs.woken]at this;exact this
  |comm g2 cs bl sh w1 es=>
   rw[hs]at i1 i2 i3 i5 i6 i7;obtain⟨f1,f2,f3⟩:=i6;have hr:=runT_crowd_comm (P:=P) (gs:=#[g]) (sl:=none) (i:=0) (by rfl) hs;cases hcm:communicate P rest0 #[ph] 0 g2 cs bl sh w1 with|mk r acts=>
   have hr2:stepT P (solo g w)=(r,MemOp.ofEvents 0 g.frame.fn g.frame.place es++acts):=by rw[h0,hc0,hr,show(#[g].setIfInBounds 0 ph:Array Goroutine)=#[ph]from rfl,show(crowd #[g] w none).rest=rest0 from rfl,hcm]
   cases r with
   |ended o w'=>exact .over (λm' ops=>by rw[hr2];simp)|next m'=>
   obtain⟨g',w',k2,rfl,c⟩:=comm_alone P g2 cs bl sh w1 f3 hcm;have hmv:∀(_:True),MoveRe P g w g' w' (MemOp.ofEvents 0 g.frame.fn g.frame.place es++acts) (k+k2):=λ_=>by refine⟨by rw[c.drawn];show(gW (GStep.comm g2 cs bl sh w1 es)).drawn+k2=_;rw[i1];omega,c.tape.trans i2,Nat.le_trans i3 c.size,λop hop=>?_,λt=>?_,λτ n ha gs sl hgs hg=>?_⟩;rcases Array.mem_append.1 hop with hop|hop;obtain⟨e,_,rfl⟩:=Go.Conc.mem_ofEvents hop;rfl;exact(c.acts op hop).1;rw[<-Array.append_assoc];exact(deaf_acts c.acts _).trans (deaf_ofEvents i5 t);have:=runT_crowd_comm (P:=P) (gs:=gs) (sl:=sl) (i:=0) hg (i7 τ n (ha.mono (by omega)));rw[this];have h2:=c.same τ (n+k) (λj hj=>by have:=ha (k+j) (by omega);rw[Nat.add_assoc,this];show w.tape _=w1.tape _;rw[show w1.tape=w.tape from i2,show w1.drawn=w.drawn+k from i1,Nat.add_assoc]) (gs.setIfInBounds 0 ph) sl hgs.no;rw[show(crowd gs (w.re τ n) sl).rest={timers:=#[],alone:=none,slice:=sl}from rfl,h2,set_stand,Nat.add_assoc]
   rcases c.left with⟨l1,_,_,_⟩|⟨l1,l2,l3,l4⟩|rfl;exact .off g' w' _ hr2 (.inl (.inl l1));refine .move g' w' _ (k+k2) hr2 ⟨l1,by rw[l3,f2];exact h.dy,?_⟩ (l3.trans f2) (hmv trivial);rw[l3,l2,f2];rcases l4 with⟨v,e⟩|⟨l,e⟩;rw[e];exact f1.finish v;rw[e];exact f1.raise l;exact .move _ w' _ (k+k2) hr2 ⟨f3,by rw[f2];exact h.dy,by rw[f2];exact f1⟩ f2 (hmv trivial)
  |spawn g2 c w1 es=>exact .many _ _ (h0.trans (runT_solo_spawn hs)) (by simp[duo])|coroswitch g2 c b w1 es=>
   rw[hs]at i1 i2 i3 i5 i6 i7;obtain⟨f1,f2,f3,rfl⟩:=i6;rcases runT_crowd_coro (P:=P) (gs:=#[g]) (sl:=none) (by rfl) hs with⟨hh,hr⟩|⟨hh,d,hd,hr⟩|⟨o,hr⟩;cases hh0:hh with
   |zero=>
   subst hh0;refine .move {g2 with status:=.running} {w1 with heap:=w1.heap.setIfInBounds c (.coro none)} (MemOp.ofEvents 0 g.frame.fn g.frame.place es) k (by rw[h0,hc0,hr.2,modify_eq_set _ 0 _ {g2 with status:=.finished} rfl];rfl) ⟨rfl,by show∀d,g2.dying=_->_;rw[f2];exact h.dy,by show fineS g2.dying _ _;rw[f2];exact f1⟩ f2 ⟨i1,i2,(by show w.heap.size<=(w1.heap.setIfInBounds _ _).size;rw[Array.size_setIfInBounds];exact i3),λop hop=>?_,deaf_ofEvents i5,λτ n ha gs sl hgs hg=>?_⟩;obtain⟨e,_,rfl⟩:=Go.Conc.mem_ofEvents hop;rfl;rcases runT_crowd_coro (P:=P) (w:=w.re τ n) (gs:=gs) (sl:=sl) hg (i7 τ n ha)with⟨h2,r1,r2⟩|⟨h2,d,hd,r2⟩|⟨hno,_⟩;rw[show(w1.re τ (n+k)).heap=w1.heap from rfl,hr.1]at r1;cases r1;rw[r2];have hlt:0<gs.size:=(Array.getElem?_eq_some_iff.1 hg).1;have:(gs.setIfInBounds 0 {g2 with status:=.finished}).modify 0 (λo=>{o with status:=.running})=gs.setIfInBounds 0 {g2 with status:=.running}:=by apply Array.ext_getElem?;intro j;rw[Array.getElem?_modify];by_cases hj:0=j;subst hj;simp[hlt];simp[hj]
   rw[this];rfl;rw[show(w1.re τ (n+k)).heap=w1.heap from rfl,hr.1]at h2;cases h2;exact absurd (show(w1.re τ (n+k)).heap[c]? =some (.coro (some 0))from hr.1) (hno 0)
   |succ n=>refine .off {g2 with status:=.finished} {w1 with heap:=w1.heap.setIfInBounds c (.coro none)} (MemOp.ofEvents 0 g.frame.fn g.frame.place es) (by rw[h0,hc0,hr.2,hh0,show(#[g].setIfInBounds 0 {g2 with status:=.finished}:Array Goroutine)=#[{g2 with status:=.finished}]from rfl,modify_out];rfl) (.inl (.inr (.inr rfl)))
   exact .off {frame:=g2.frame,callers:=[],status:=.running,dying:=some d} w1 (MemOp.ofEvents 0 g.frame.fn g.frame.place es) (by rw[h0,hc0,hr];rfl) (.inr ⟨rfl,d,rfl,λh=>by rw[hd]at h;cases h⟩);refine .over (λm' ops=>?_);obtain⟨o,w',e⟩:=hr;rw[h0,hc0,e];simp
  |ended o w' es=>refine .over (λm' ops=>?_);rw[h0,hc0,runT_many_ended (i:=0) (by rfl) hs];simp|count _ _ _=>rw[hs]at i6;exact i6.elim
  |timer _ _ _ _=>rw[hs]at i6;exact i6.elim|alone _ _ _ _=>rw[hs]at i6;exact i6.elim
  |newcoro _ _ _ _ _=>rw[hs]at i6;exact i6.elim|collect _ _ _=>rw[hs]at i6;exact i6.elim
  |watch _ _ _=>rw[hs]at i6;exact i6.elim
 replace hoff:Off (stepG P true g w):=hoff;cases hs:stepG P true g w with|go g' w' es=>rw[hs]at hoff;exact .off g' w' _ (h0.trans (runT_solo_go hs)) hoff|ended o w' es=>refine .over (λm' ops=>?_);rw[h0,hc0,runT_many_ended (i:=0) (by rfl) hs];simp|_=>rw[hs]at hoff;exact hoff.elim
end Tp
namespace Tp
open Go.Conc
def off_die p fr d w(hd:d.calling=false):Off (die p fr d w):=by have hdead:∀(fr:Frame)(cs:List Frame)(d:Dying),d.calling=false->Off (.go {frame:=fr,callers:=cs,status:=.running,dying:=some d} w #[]):=λfr cs d h=>.inr ⟨rfl,d,rfl,λh2=>by rw[h]at h2;cases h2⟩;unfold die;split;rename_i f hf;unfold writeOn;dsimp only;split;exact trivial;split;exact .inr ⟨rfl,_,rfl,λh=>by rw[hd]at h;cases h⟩;exact .inl (.inl rfl);exact trivial;exact trivial;split;split;exact .inl (.inl rfl);unfold endWith;dsimp only;split;split<;>exact trivial;exact trivial;exact trivial;dsimp only;split;exact .inr ⟨rfl,_,rfl,λh=>by rw[hd]at h;cases h⟩;split;exact .inr ⟨rfl,_,rfl,λh=>by rw[hd]at h;cases h⟩;exact trivial;apply off_after;split;exact .inr ⟨rfl,_,rfl,λ_=>⟨fine_enter _ _ _ _,(λ_ h=>by cases h),λ_=>rfl⟩⟩;exact .inr ⟨rfl,_,rfl,λh=>by rw[hd]at h;cases h⟩;exact trivial;unfold endPrinting;dsimp only;split;exact .inr ⟨rfl,_,rfl,λh=>by cases h⟩;exact trivial;exact trivial;exact trivial
def BadM(m:Machine):Prop:=2<=m.gs.size∨∃g w,m=solo g w/\OffG g
def idle_solo{P g w}(h:g.status=.blocked∨g.status=.waiting∨g.status=.finished){m' ops}(hs:stepT P (solo g w)=(.next m',ops)):m'=solo g w:=by
 have hm:move P (solo g w)=askOn P (solo g w):=by simp[move,ask,solo]
 have hr:runnable (solo g w).gs (solo g w).world.os.mono=[]:=by rcases h with h|h|h<;>simp[solo,runnable_eq,Goroutine.canRun,h,List.range_succ]
 have ha:∀b,ahead (solo g w) b=none:=λb=>by rcases h with h|h|h<;>simp[ahead,solo,h]
 have hd:due (solo g w).rest.timers (solo g w).world.os.mono=[]:=by simp[due,solo]
 unfold stepT at hs;rw[hm]at hs;unfold askOn at hs;simp only[hr,hd,ha,List.isEmpty_nil,if_true,pure,Sem.run]at hs;split at hs
 ·rename_i m2 i2 hx;revert hx;repeat' split
  all_goals (intro hx;cases hx)
 rename_i s ops2 hx;cases hs;revert hx;simp only[List.length_nil,Nat.not_lt_zero,if_false];split;intro hx;cases hx;rfl;split;intro hx;cases hx;intro hx;cases hx
def off_stays{P}(hB:Bodied P){g w}(h:OffG g){m' ops}(hs:stepT P (solo g w)=(.next m',ops)):BadM m':=by
 rcases h with h|⟨hr,d,hd,hf⟩;exact .inr ⟨g,w,idle_solo h hs,.inl h⟩;cases hc:d.calling with
 |false=>
  have h0:stepT P (solo g w)=runT P (solo g w) 0:=stepT_solo hr;have hg:stepG P true g w=die P g.frame d w:=by obtain⟨fr,cs,st,dy,off⟩:=g;obtain rfl:dy=some d:=hd;obtain⟨a1,a2,a3,a4,a5,a6,a7⟩:=d;obtain rfl:a3=false:=hc;rfl
  have hoff:=off_die P g.frame d w hc;rw[<-hg]at hoff;cases hst:stepG P true g w with
  |go g' w' es=>rw[hst]at hoff;rw[h0,runT_solo_go hst]at hs;cases hs;exact .inr ⟨g',w',rfl,hoff⟩
  |ended o w' es=>rw[h0,show solo g w=crowd #[g] w none from rfl,runT_many_ended (i:=0) (by rfl) hst]at hs;cases hs
  |_=>rw[hst]at hoff;exact hoff.elim
 |true=>
 have hld:Ld g:=⟨hr,λd' hd'=>by rw[hd]at hd';cases hd';exact hc,by rw[hd];exact hf hc⟩;cases lone_step hB g w hld with
 |over hx=>exact absurd hs (hx _ _)|many m2 ops2 h1 h2=>rw[h1]at hs;cases hs;exact .inl h2
 |off g' w' ops2 h1 h2=>rw[h1]at hs;cases hs;exact .inr ⟨g',w',rfl,h2⟩
 |move g' w' ops2 k h1 h2 h3 h4=>rw[h1]at hs;cases hs;exact .inr ⟨g',w',rfl,.inr ⟨h2.run,d,h3.trans hd,λ_=>by have:=h2.fine;rw[h3,hd]at this;exact this⟩⟩
theorem bad_runs{P}(hB:Bodied P):∀N {m m':Machine},BadM m->runN P N m=.next m'->BadM m'
 |0,m,m',h,hr=>by cases hr;exact h
 |N+1,m,m',h,hr=>by
  simp only[runN]at hr;cases hs:stepT P m with
  |mk r ops=>
  have hst:step P m=r:=by unfold step;rw[hs]
  rw[hst]at hr;cases r with
  |ended o w=>cases hr
  |next m2=>refine bad_runs hB N ?_ hr;rcases h with h|⟨g,w,rfl,ho⟩;exact .inl (Nat.le_trans h (stepT_size P m m2 true (by rw[hs])));exact off_stays hB ho hs
def solo_inj{g g' w w'}(h:solo g w=solo g' w'):g=g'/\w=w':=by unfold solo at h;injection h with h1 h2 h3;exact⟨by simpa using h2,h1⟩
def Good0(g:Goroutine):Prop:=g.status=.running/\g.dying=none
def not_bad{g w}(h:Good0 g):¬BadM (solo g w):=by rintro(h2|⟨g',w',e,ho⟩);simp[solo]at h2;obtain⟨rfl,rfl⟩:=solo_inj e;rcases ho with ho|⟨_,d,hd,_⟩;rcases ho with ho|ho|ho<;>rw[h.1]at ho<;>cases ho;rw[h.2]at hd;cases hd
def good_step{P}(hB:Bodied P){g gS w wS}(h:Ld g)(hd:g.dying=none){N}(hr:runN P (N+1) (solo g w)=.next (solo gS wS))(hg:Good0 gS):∃g' w' ops k,Ld g'/\g'.dying=none/\MoveRe P g w g' w' ops k/\runN P N (solo g' w')=.next (solo gS wS):=by
 simp only[runN]at hr;have hst:step P (solo g w)=(stepT P (solo g w)).1:=rfl;rw[hst]at hr;cases lone_step hB g w h with
 |over hx=>
  cases hs:stepT P (solo g w)with
  |mk r ops=>
  rw[hs]at hr;cases r with
  |ended o w'=>cases hr
  |next m=>exact absurd hs (hx _ _)
 |many m2 ops h1 h2=>rw[h1]at hr;exact absurd (bad_runs hB N (.inl h2) hr) (not_bad hg)|off g' w' ops h1 h2=>rw[h1]at hr;exact absurd (bad_runs hB N (.inr ⟨g',w',rfl,h2⟩) hr) (not_bad hg)
 |move g' w' ops k h1 h2 h3 h4=>rw[h1]at hr;exact⟨g',w',ops,k,h2,h3.trans hd,h4,hr⟩
def calm_one g:Calm #[g]:=λj x hj hx=>by
 have:j<1:=by simpa using(Array.getElem?_eq_some_iff.1 hx).1
 omega
def MoveRe.solo{P g g' w w' ops k}(h:MoveRe P g w g' w' ops k)(hr:g.status=.running) τ n(ha:Agree w τ n k):stepT P (solo g (w.re τ n))=(.next (solo g' (w'.re τ (n+k))),ops):=by rw[stepT_solo hr];exact h.same τ n ha #[g] none (calm_one g) rfl
def runN_move{P m m1 ops}(h:stepT P m=(.next m1,ops)) N:runN P (N+1) m=runN P N m1:=by simp only[runN];have hst:step P m=(stepT P m).1:=rfl;rw[hst,h]
theorem run_re{P}(hB:Bodied P):∀N {g gS:Goroutine}{w wS:World},Ld g->g.dying=none->runN P N (solo g w)=.next (solo gS wS)->Good0 gS->∀τ n,(∀i,τ (n+i)=w.tape (w.drawn+i))->∃j,runN P N (solo g (w.re τ n))=.next (solo gS (wS.re τ (n+j)))
 |0,g,gS,w,wS,_,_,hr,_,τ,n,_=>by simp only[runN]at hr;injection hr with hr;obtain⟨rfl,rfl⟩:=solo_inj hr;exact⟨0,rfl⟩
 |N+1,g,gS,w,wS,h,hd,hr,hg,τ,n,ht=>by obtain⟨g',w',ops,k,h1,h2,h3,h4⟩:=good_step hB h hd hr hg;have hm:=h3.solo h.run τ n (λj _=>ht j);obtain⟨j,hj⟩:=run_re hB N h1 h2 h4 hg τ (n+k) (λi=>by rw[h3.tape,h3.drawn,Nat.add_assoc,Nat.add_assoc];exact ht (k+i));exact⟨k+j,by rw[runN_move hm,hj,Nat.add_assoc]⟩
inductive Term(P:Program)(Stop:Goroutine->World->Prop):Goroutine->World->Prop
 |stop {g:Goroutine} {w:World} (h:Stop g w):Term P Stop g w
 |next {g:Goroutine} {w:World} (nx:(Nat->Question->Nat)->Nat->Goroutine×World) (h1:∀τ n,∃ops k,MoveRe P g (w.re τ n) (nx τ n).1 (nx τ n).2 ops k) (h2:∀τ n,Ld (nx τ n).1/\(nx τ n).1.dying=none) (h3:∀τ n,Term P Stop (nx τ n).1 (nx τ n).2):Term P Stop g w
def Term.step{P Stop g w}(h:∀τ n,∃g' w' ops k,MoveRe P g (w.re τ n) g' w' ops k/\Ld g'/\g'.dying=none/\Term P Stop g' w'):Term P Stop g w:=by
 have h':∀τ n,∃x:Goroutine×World,∃ops k,MoveRe P g (w.re τ n) x.1 x.2 ops k/\Ld x.1/\x.1.dying=none/\Term P Stop x.1 x.2:=λτ n=>let⟨g',w',ops,k,h⟩:=h τ n;⟨(g',w'),ops,k,h⟩
 refine .next (λτ n=>Classical.choose (h' τ n)) (λτ n=>?_) (λτ n=>?_) (λτ n=>?_);obtain⟨ops,k,h1,_⟩:=Classical.choose_spec (h' τ n);exact⟨ops,k,h1⟩;obtain⟨ops,k,_,h2,h3,_⟩:=Classical.choose_spec (h' τ n);exact⟨h2,h3⟩;obtain⟨ops,k,_,_,_,h4⟩:=Classical.choose_spec (h' τ n);exact h4
def Runs(P:Program)(Stop:Goroutine->World->Prop)(g:Goroutine)(w:World):Prop:=∀τ n,∃N gS wS,runN P N (solo g (w.re τ n))=.next (solo gS wS)/\Good0 gS/\Stop gS wS
structure St(P:Program)(Stop:Goroutine->World->Prop) where
 g:Goroutine
 w:World
 ld:Ld g
 dy:g.dying=none
 bad:¬Term P Stop g w
 runs:Runs P Stop g w
section
variable{P:Program}{Stop:Goroutine->World->Prop}
def Runs.next(hB:Bodied P)(hS:∀g w τ n,Stop g w->Stop g (w.re τ n)){g g' w w' ops k}(h:Runs P Stop g w)(hl:Ld g)(hns:¬Stop g w)(hm:MoveRe P g w g' w' ops k)(hl':Ld g')(hd':g'.dying=none):Runs P Stop g' w':=by
 intro τ n;let τ':Nat->Question->Nat:=λi=>if i<k then w.tape (w.drawn+i)else τ (n+(i-k))
 obtain⟨N,gS,wS,h1,h2,h3⟩:=h τ' 0;cases N with
 |zero=>simp only[runN]at h1;injection h1 with h1;obtain⟨rfl,rfl⟩:=solo_inj h1;exact absurd (by have:=hS _ _ w.tape w.drawn h3;exact this) hns
 |succ N=>have hs:=hm.solo hl.run τ' 0 (λi hi=>by show τ' (0+i)=_;rw[Nat.zero_add];exact if_pos hi);rw[runN_move hs]at h1;obtain⟨j,hj⟩:=run_re hB N (w:=w'.re τ' (0+k)) hl' hd' h1 h2 τ n (λi=>by show _=τ' (0+k+i);rw[show τ' (0+k+i)=τ (n+(0+k+i-k))from if_neg (by omega)];congr 1;omega);exact⟨N,gS,_,hj,h2,hS _ _ _ _ h3⟩
def St.next(hB:Bodied P)(hS:∀g w τ n,Stop g w->Stop g (w.re τ n))(s:St P Stop):∃(s':St P Stop)(τ:Nat->Question->Nat)(n:Nat)(ops:Array MemOp)(k:Nat),MoveRe P s.g (s.w.re τ n) s'.g s'.w ops k:=by
 obtain⟨g,w,ld,dy,bad,runs⟩:=s;have hns:¬Stop g w:=λh=>bad (.stop h);have:¬∀τ n,∃g' w' ops k,MoveRe P g (w.re τ n) g' w' ops k/\Ld g'/\g'.dying=none/\Term P Stop g' w':=λh=>bad (.step h);obtain⟨τ,h2⟩:=Classical.not_forall.1 this;obtain⟨n,h3⟩:=Classical.not_forall.1 h2;obtain⟨N,gS,wS,h1,hg,hst⟩:=runs τ n;cases N with
 |zero=>simp only[runN]at h1;injection h1 with h1;obtain⟨rfl,rfl⟩:=solo_inj h1;exact absurd (by have:=hS _ _ w.tape w.drawn hst;exact this) hns
 |succ N=>obtain⟨g',w',ops,k,a1,a2,a3,a4⟩:=good_step hB ld dy h1 hg;have runs2:Runs P Stop g (w.re τ n):=λτ2 n2=>runs τ2 n2;refine⟨⟨g',w',a1,a2,λht=>h3 ⟨g',w',ops,k,a3,a1,a2,ht⟩,runs2.next hB hS ld (λh=>hns (by have:=hS _ _ w.tape w.drawn h;exact this)) a3 a1 a2⟩,τ,n,ops,k,a3⟩
def chain_false(hB:Bodied P)(hS:∀g w τ n,Stop g w->Stop g (w.re τ n))(s0:St P Stop):False:=by
 classical
 have hn:∀s:St P Stop,∃x:St P Stop× (Nat->Question->Nat)×Nat×Array MemOp×Nat,MoveRe P s.g (s.w.re x.2.1 x.2.2.1) x.1.g x.1.w x.2.2.2.1 x.2.2.2.2:=λs=>let⟨s',τ,n,ops,k,h⟩:=s.next hB hS;⟨⟨s',τ,n,ops,k⟩,h⟩
 let nx:St P Stop->St P Stop× (Nat->Question->Nat)×Nat×Array MemOp×Nat:=λs=>Classical.choose (hn s)
 have hnx:∀s:St P Stop,MoveRe P s.g (s.w.re (nx s).2.1 (nx s).2.2.1) (nx s).1.g (nx s).1.w (nx s).2.2.2.1 (nx s).2.2.2.2:=λs=>Classical.choose_spec (hn s);let f:Nat->St P Stop:=λi=>Nat.rec s0 (λ_ s=>(nx s).1) i
 have hf:∀i,f (i+1)=(nx (f i)).1:=λ_=>rfl;let kk:Nat->Nat:=λi=>(nx (f i)).2.2.2.2
 let c:Nat->Nat:=λi=>Nat.rec 0 (λj x=>x+kk j) i
 have hc:∀i,c (i+1)=c i+kk i:=λ_=>rfl;have hmono:∀i j,i<=j->c i<=c j:=by intro i j h;induction h with|refl=>exact Nat.le_refl _|step _ ih=>rw[hc];omega
 let σ:Nat->Question->Nat:=λx=>if h:∃i,c i<=x/\x<c (i+1)then(nx (f (Classical.choose h))).2.1 ((nx (f (Classical.choose h))).2.2.1+(x-c (Classical.choose h)))else λ_=>0
 have hσ:∀i j,j<kk i->σ (c i+j)=(nx (f i)).2.1 ((nx (f i)).2.2.1+j):=by
  intro i j hj;have hex:∃i',c i'<=c i+j/\c i+j<c (i'+1):=⟨i,by omega,by rw[hc];omega⟩;have hi:Classical.choose hex=i:=by have h12:c (Classical.choose hex)<=c i+j/\c i+j<c (Classical.choose hex+1):=Classical.choose_spec hex;generalize Classical.choose hex=i0 at h12|-;obtain⟨h1,h2⟩:=h12;have e1:=hc i;have e2:=hc i0;rcases Nat.lt_trichotomy i0 i with h|h|h;have:c (i0+1)<=c i:=hmono _ _ h;omega;exact h;have:c (i+1)<=c i0:=hmono _ _ h;omega
  show(if h:∃i',c i'<=c i+j/\c i+j<c (i'+1)then _ else _)=_;rw[dif_pos hex];have hi2:c hex.choose=c i:=congrArg c hi;have hi3:f hex.choose=f i:=congrArg f hi;show(nx (f hex.choose)).2.1 ((nx (f hex.choose)).2.2.1+(c i+j-c hex.choose))=_;rw[hi2,hi3,show c i+j-c i=j by omega]
 have hrun:∀i,runN P i (solo s0.g (s0.w.re σ 0))=.next (solo (f i).g ((f i).w.re σ (c i))):=by intro i;induction i with|zero=>rfl|succ i ih=>rw[runN_add P i 1,ih];have hm:=(hnx (f i)).solo (f i).ld.run σ (c i) (λj hj=>hσ i j hj);have:=runN_move hm 0;dsimp only;rw[show(f i).w.re σ (c i)=((f i).w.re (nx (f i)).2.1 (nx (f i)).2.2.1).re σ (c i)from rfl,this];rfl
 obtain⟨N,gS,wS,h1,h2,h3⟩:=s0.runs σ 0;rw[hrun N]at h1;injection h1 with h1;obtain⟨rfl,rfl⟩:=solo_inj h1;have:=hS _ _ (f N).w.tape (f N).w.drawn h3;exact(f N).bad (.stop this)
def term_of_runs(hB:Bodied P)(hS:∀g w τ n,Stop g w->Stop g (w.re τ n)){g w}(hl:Ld g)(hd:g.dying=none)(h:Runs P Stop g w):Term P Stop g w:=Classical.byContradiction λhn=>chain_false hB hS ⟨g,w,hl,hd,hn,h⟩
end
end Tp
namespace Tp
open Go.Conc
open Go.ConcN (sumTo upd sumTo_upd upd_ne upd_same)
structure Past2(t:Trace):Prop where
 clean:∀said,¬Race said t
 known:∀i a,touchAt t i=some a->a.loc.isMemory=true->Knows t 0 i
 over:t.HandedOver
 hears:Deaf t 0=0
def past2_nil:Past2 #[]:=⟨λsaid=>by rintro⟨i,j,_,⟨a,b,ha,_⟩,_⟩;simp[Trace.act?]at ha,λi a ha=>by simp[touchAt,Trace.act?]at ha,λi g hg=>by simp[Trace.g?]at hg,rfl⟩
section
variable{t u:Trace}
def Past2.app0(h:Past2 t)(hu:∀op∈u,op.g=0)(hd:Deaf (t++u) 0=Deaf t 0):Past2 (t++u):=by refine⟨λsaid=>noRace_append (h.clean said) hu λi a ha op hop b hb hc=>h.known i a ha hc.2.1,λi a ha hm=>?_,handedOver_app h.over λop hop=>.inl (hu op hop),hd.trans h.hears⟩;obtain⟨x,hx,hxa⟩:=touch_of ha;rcases getElem?_append_cases hx with⟨_,hx'⟩|⟨_,hxu⟩;exact(h.known i a (by rw[touchAt_of hx'];exact hxa) hm).app u;have:=knows_own hx;rw[hu x hxu]at this;exact this
def Past2.appMute{g}(h:Past2 t)(hg:g≠0)(hu:∀op∈u,op.g=g)(hn:∀op∈u,op.act.touch? =none):Past2 (t++u):=by refine⟨λsaid=>noRace_append (h.clean said) hu λi a _ op hop b hb _=>(by rw[hn op hop]at hb;cases hb),λi a ha hm=>?_,handedOver_app h.over λop hop=>.inr (hn op hop),(Deaf_other t hg u hu).trans h.hears⟩;obtain⟨x,hx,hxa⟩:=touch_of ha;rcases getElem?_append_cases hx with⟨_,hx'⟩|⟨_,hxu⟩;exact(h.known i a (by rw[touchAt_of hx'];exact hxa) hm).app u;rw[hn x hxu]at hxa;cases hxa
theorem Past2.mute(h:Past2 t){g}(hg:g≠0){fn pos es}(hm:∀e∈es,e.mute=true):Past2 (t++MemOp.ofEvents g fn pos es):=h.appMute hg (λop hop=>by obtain⟨e,_,rfl⟩:=Go.Conc.mem_ofEvents hop;rfl) (λop hop=>by obtain⟨e,he,rfl⟩:=Go.Conc.mem_ofEvents hop;exact touch_mute (hm e he))
end
def leavers_calm{P t gs q}(h:Leavers P t gs q):Calm gs:=λj x hj hx=>(h.old j x hj hx).status
def leavers_own{P t u gs q}(h:Leavers P t gs q) g'(h0:0<gs.size)(hu:∀op∈u,op.g=0):Leavers P (t++u) (gs.setIfInBounds 0 g') q:=⟨λj x hj hx=>by
 rw[Array.getElem?_setIfInBounds_ne (by omega)]at hx;rw[Deaf_other t (g:=j) (g':=0) (by omega) _ hu];exact h.old j x hj hx,λj hj=>by
 rw[Array.size_setIfInBounds]at hj;rw[Deaf_other t (g:=j) (g':=0) (by omega) _ hu];exact h.above j hj⟩
def slip{P t gs q w sl i a g}(hL:Leavers P t gs q)(hP:Past2 t)(h0:gs[0]? =some a)(ha:a.status=.running)(hi:gs[i]? =some g)(hpos:0<i)(hg:g.status=.running):∃gs' ops q',runT P (crowd gs w sl) i=(.next (crowd gs' w sl),ops)/\gs'[0]? =some a/\gs'.size=gs.size/\Leavers P (t++ops) gs' q'/\Past2 (t++ops)/\sumTo gs'.size q'<sumTo gs.size q:=by
 have hq:=hL.old i g hpos hi;have hi0:(i==0)=false:=by simp;omega
 have hlt:i<gs.size:=(Array.getElem?_eq_some_iff.1 hi).1;cases hqi:q i with
 |zero=>rw[hqi]at hq;rw[hq.1]at hg;cases hg
 |succ k=>
 rw[hqi]at hq;rcases hq with⟨hf,_⟩|⟨_,g',es,hm,hstp,hq'⟩;rw[hf]at hg;cases hg;have hrunT:=runT_crowd_go (P:=P) (w:=w) (sl:=sl) (i:=i) hi (by rw[hi0];exact hstp w);have hsz:((gs.map (woken P g g' w)).setIfInBounds i g').size=gs.size:=by simp
 have hsum:sumTo gs.size (upd q i k)+(k+1)=sumTo gs.size q+k:=by have:=sumTo_upd q k id hlt;simpa[hqi]using this
 refine⟨_,_,upd q i k,hrunT,?_,hsz,⟨λj x hj hx=>?_,λj hj=>?_⟩,hP.mute (by omega) hm,by rw[hsz];omega⟩;have hne:i≠0:=by omega
 rw[Array.getElem?_setIfInBounds_ne hne,Array.getElem?_map,h0];simp[woken_run ha];by_cases hji:i=j;subst hji;rw[Array.getElem?_setIfInBounds_self_of_lt (by simpa using hlt)]at hx;obtain rfl:=Option.some.inj hx;rw[upd_same,Deaf_own];exact hq';rw[Array.getElem?_setIfInBounds_ne hji,Array.getElem?_map]at hx;obtain⟨y,hy,rfl⟩:=Option.map_eq_some_iff.1 hx;have hqj:=hL.old j y hj hy;rw[woken_quitsD hqj,upd_ne q k (Ne.symm hji),Deaf_other t hji _ (λop hop=>by obtain⟨e,_,rfl⟩:=Go.Conc.mem_ofEvents hop;rfl)];exact hqj;rw[Deaf_other t (g':=i) (by simp at hj;omega) _ (λop hop=>by obtain⟨e,_,rfl⟩:=Go.Conc.mem_ofEvents hop;rfl)];exact hL.above j (by simpa using hj)
def awake_all{P t gs q a}(hL:Leavers P t gs q)(h0:gs[0]? =some a)(ha:a.status=.running):∀g∈gs,awake g:=by
 intro g hg;obtain⟨i,hi,rfl⟩:=Array.mem_iff_getElem.1 hg;rcases Nat.eq_zero_or_pos i with rfl|hpos;have:gs[0]=a:=by simpa[Array.getElem?_eq_getElem hi]using h0
 rw[this];exact awake_of (.inl ha);exact awake_of ((hL.old i _ hpos (Array.getElem?_eq_getElem hi)).status.elim .inl λx=>.inr (.inr x))
def Bes(P:Program)(Stop:Goroutine->World->Prop)(a:Goroutine)(w:World):Prop:=∀(gs:Array Goroutine)(sl:Option (Nat×Nat))(t:Trace)(q:Nat->Nat),gs[0]? =some a->Leavers P t gs q->Past2 t->∃(N:Nat)(gs':Array Goroutine)(a':Goroutine)(w':World)(sl':Option (Nat×Nat))(t':Trace)(q':Nat->Nat),runNT P N (crowd gs w sl) t=(.next (crowd gs' w' sl'),t')/\gs'[0]? =some a'/\Leavers P t' gs' q'/\Past2 t'/\Stop a' w'
section
variable{P:Program}{Stop Stop':Goroutine->World->Prop}{a:Goroutine}{w:World}
def Bes.stop(h:Stop a w):Bes P Stop a w:=λgs sl t q h0 hL hP=>⟨0,gs,a,w,sl,t,q,rfl,h0,hL,hP,h⟩
def Bes.trans(h:Bes P Stop a w)(h':∀a' w',Stop a' w'->Bes P Stop' a' w'):Bes P Stop' a w:=by intro gs sl t q h0 hL hP;obtain⟨N,gs1,a1,w1,sl1,t1,q1,r1,h1,L1,P1,s1⟩:=h gs sl t q h0 hL hP;obtain⟨N2,gs2,a2,w2,sl2,t2,q2,r2,h2,L2,P2,s2⟩:=h' a1 w1 s1 gs1 sl1 t1 q1 h1 L1 P1;exact⟨N+N2,gs2,a2,w2,sl2,t2,q2,by rw[runNT_add,r1];exact r2,h2,L2,P2,s2⟩
def Bes.mono(h:Bes P Stop a w)(h':∀a' w',Stop a' w'->Stop' a' w'):Bes P Stop' a w:=h.trans λa' w' s=>.stop (h' a' w' s)
def Bes.step(hr:a.status=.running)(h:∀d,∃a' w' ops,(∀op∈ops,op.g=0)/\(∀t,Deaf (t++ops) 0=Deaf t 0)/\(∀gs sl,Calm gs->gs[0]? =some a->runT P (crowd gs (w.at d) sl) 0=(.next (crowd (gs.setIfInBounds 0 a') w' sl),ops))/\Bes P Stop a' w'):Bes P Stop a w:=by
 have key:∀(M:Nat)(gs:Array Goroutine)(sl:Option (Nat×Nat))(t:Trace)(q:Nat->Nat)(e:Nat),sumTo gs.size q<=M->gs[0]? =some a->Leavers P t gs q->Past2 t->∃(N:Nat)(gs':Array Goroutine)(a':Goroutine)(w':World)(sl':Option (Nat×Nat))(t':Trace)(q':Nat->Nat),runNT P N (crowd gs (w.at e) sl) t=(.next (crowd gs' w' sl'),t')/\gs'[0]? =some a'/\Leavers P t' gs' q'/\Past2 t'/\Stop a' w':=by
  intro M;induction M with
  |zero=>
  intro gs sl t q e hM h0 hL hP;obtain⟨i,g,d,sl',hi,hg,hst⟩:=crowd_pick (P:=P) (w:=w.at e) (sl:=sl) (awake_all hL h0 hr) ⟨0,a,h0,hr⟩;rcases Nat.eq_zero_or_pos i with rfl|hpos;obtain rfl:g=a:=by rw[h0]at hi;exact(Option.some.inj hi).symm
  obtain⟨a',w',ops,b1,b2,b3,b4⟩:=h d;have hr1:=hst.trans (b3 gs sl' (leavers_calm hL) h0);have hlt:0<gs.size:=(Array.getElem?_eq_some_iff.1 h0).1;obtain⟨N,gs2,a2,w2,sl2,t2,q2,r2,h2,L2,P2,s2⟩:=b4 (gs.setIfInBounds 0 a') sl' (t++ops) q (by simp[hlt]) (leavers_own hL a' hlt b1) (hP.app0 b1 (b2 t));exact⟨N+1,gs2,a2,w2,sl2,t2,q2,by simp only[runNT,hr1];exact r2,h2,L2,P2,s2⟩;obtain⟨gs',ops,q',c1,c2,c3,c4,c5,c6⟩:=slip (w:=(w.at e).at d) (sl:=sl') hL hP h0 hr hi hpos hg;omega
  |succ M ih=>
  intro gs sl t q e hM h0 hL hP;obtain⟨i,g,d,sl',hi,hg,hst⟩:=crowd_pick (P:=P) (w:=w.at e) (sl:=sl) (awake_all hL h0 hr) ⟨0,a,h0,hr⟩;rcases Nat.eq_zero_or_pos i with rfl|hpos;obtain rfl:g=a:=by rw[h0]at hi;exact(Option.some.inj hi).symm
  obtain⟨a',w',ops,b1,b2,b3,b4⟩:=h d;have hr1:=hst.trans (b3 gs sl' (leavers_calm hL) h0);have hlt:0<gs.size:=(Array.getElem?_eq_some_iff.1 h0).1;obtain⟨N,gs2,a2,w2,sl2,t2,q2,r2,h2,L2,P2,s2⟩:=b4 (gs.setIfInBounds 0 a') sl' (t++ops) q (by simp[hlt]) (leavers_own hL a' hlt b1) (hP.app0 b1 (b2 t));exact⟨N+1,gs2,a2,w2,sl2,t2,q2,by simp only[runNT,hr1];exact r2,h2,L2,P2,s2⟩;obtain⟨gs',ops,q',c1,c2,c3,c4,c5,c6⟩:=slip (w:=(w.at e).at d) (sl:=sl') hL hP h0 hr hi hpos hg;obtain⟨N,gs2,a2,w2,sl2,t2,q2,r2,h2,L2,P2,s2⟩:=ih gs' sl' (t++ops) q' d (by omega) c2 c4 c5;exact⟨N+1,gs2,a2,w2,sl2,t2,q2,by simp only[runNT,hst.trans c1];exact r2,h2,L2,P2,s2⟩
 intro gs sl t q h0 hL hP;exact key _ gs sl t q w.drawn (Nat.le_refl _) h0 hL hP
def bes_of_term(hS:∀g w τ n,Stop g w->Stop g (w.re τ n))(h:Term P Stop a w):Ld a->∀τ n,Bes P Stop a (w.re τ n):=by induction h with|stop h=>exact λ_ τ n=>.stop (hS _ _ _ _ h)|next nx h1 h2 h3 ih=>intro hl τ n;refine Bes.step hl.run λd=>?_;obtain⟨ops,k,hm⟩:=h1 τ d;refine⟨_,_,ops,hm.own,hm.deaf,λgs sl hc h0=>hm.same τ d (λ_ _=>rfl) gs sl hc h0,?_⟩;exact ih τ d (h2 τ d).1 τ (d+k)
def bes_of_runs(hB:Bodied P)(hS:∀g w τ n,Stop g w->Stop g (w.re τ n))(hl:Ld a)(hd:a.dying=none)(h:Runs P Stop a w):Bes P Stop a w:=bes_of_term hS (term_of_runs hB hS hl hd h) hl w.tape w.drawn
end
end Tp
