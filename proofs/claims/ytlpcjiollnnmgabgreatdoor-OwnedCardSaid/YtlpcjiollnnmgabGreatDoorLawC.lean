/-
  The state of a script's world: receivers on both sides, lists that were handed out; what keeps it.
-/
import Derived.Test.YtlpcjiollnnmgabGreatDoorLawB
set_option maxRecDepth 100000
namespace Go.Proofs.YtlpcjiollnnmgabGreatDoor
open Nums
open Go.RowKit
namespace Lw
/-- a receiver on both sides: the program's, its map, the reference's; the pool; the reference's list -/
structure PR where
  r : Nat
  m : Nat
  q : Nat
  P : List Mp.B
  pv : Value
def pairCells (ps : List PR) : List Value := ps.flatMap fun p => [.pointer (some ⟨p.r, 0, none⟩), .pointer (some ⟨p.q, 0, none⟩)]
theorem pairCells_length : ∀ ps : List PR, (pairCells ps).length = ps.length * 2
  | [] => rfl
  | p :: l => by
    have := pairCells_length l
    unfold pairCells at *
    rw [List.flatMap_cons, List.length_append, this]; simp; omega
theorem pairCells_get : ∀ (ps : List PR) (i : Nat) (p : PR), ps[i]? = some p → (pairCells ps)[i * 2]? = some (.pointer (some ⟨p.r, 0, none⟩)) ∧ (pairCells ps)[i * 2 + 1]? = some (.pointer (some ⟨p.q, 0, none⟩))
  | [], _, _, h => by simp at h
  | p :: l, 0, p', h => by
    obtain rfl : p = p' := by simpa using h
    exact ⟨rfl, rfl⟩
  | p :: l, i + 1, p', h => by
    have := pairCells_get l i p' (by simpa using h)
    have e : pairCells (p :: l) = .pointer (some ⟨p.r, 0, none⟩) :: .pointer (some ⟨p.q, 0, none⟩) :: pairCells l := rfl
    rw [e, show (i + 1) * 2 = i * 2 + 1 + 1 from by omega, show i * 2 + 1 + 1 + 1 = (i * 2 + 1) + 1 + 1 from rfl]
    simpa using this
theorem pairCells_set : ∀ (ps : List PR) (i : Nat) (p p' : PR), ps[i]? = some p → p'.r = p.r → p'.q = p.q → pairCells (ps.set i p') = pairCells ps
  | [], _, _, _, h, _, _ => by simp at h
  | a :: l, 0, p, p', h, h1, h2 => by
    obtain rfl : a = p := by simpa using h
    unfold pairCells; simp [h1, h2]
  | a :: l, i + 1, p, p', h, h1, h2 => by
    have := pairCells_set l i p p' (by simpa using h) h1 h2
    unfold pairCells at *; simp [this]
theorem pairCells_snoc (ps : List PR) (p : PR) : pairCells (ps ++ [p]) = pairCells ps ++ [.pointer (some ⟨p.r, 0, none⟩), .pointer (some ⟨p.q, 0, none⟩)] := by
  unfold pairCells; simp
/-- one receiver on both sides; whose blocks are whose -/
structure PairAt (w : World) (t B : Nat) (τ : Nat → Nat) (i : Nat) (p : PR) : Prop where
  row : Row w p.r (Mp.rcv p.m)
  map : Mp.Map w p.m p.P
  ref : Row w p.q (Rp.mrc t p.pv)
  own : w.ownsRow B 9 1 p.pv p.P.length (wt p.P)
  tr : τ p.r = 4 + 4 * i
  tm : τ p.m = 5 + 4 * i
  tq : τ p.q = 6 + 4 * i
  tg : ∀ g, p.pv.ownBlock = some g → τ g = 7 + 4 * i
structure UpSt (w1 w : World) (t Wb : Nat) (τ : Nat → Nat) (ps : List PR) (ls : List Value) (rsv lsv : Value) : Prop where
  bel : Below w1.heap.size w1 w
  low : ∀ b, b < w1.heap.size → τ b = 3
  wrow : Row w Wb (wc t rsv lsv)
  tW : τ Wb = 0
  rs : w.ownsRow w1.heap.size 122 2 rsv ps.length (pairCells ps)
  trs : ∀ g, rsv.ownBlock = some g → τ g = 1
  lso : w.ownsRow w1.heap.size 28 1 lsv ls.length ls
  tls : ∀ g, lsv.ownBlock = some g → τ g = 2
  pairs : ∀ (i : Nat) (p : PR), ps[i]? = some p → PairAt w t w1.heap.size τ i p
  lists : ∀ (k : Nat) (v : Value), ls[k]? = some v → Marked w v k ∧ ∀ g, v.ownBlock = some g → g < w.heap.size ∧ τ g = 3
variable {w w' w1 : World} {t Wb B : Nat} {τ τ' : Nat → Nat} {S : Nat → Prop}
theorem marked_fr {v : Value} {k : Nat} (h : Marked w v k) (hF : Fr w.heap.size S w w') (hS : ∀ g, v.ownBlock = some g → ¬ S g) : Marked w' v k := by
  obtain ⟨n, a, c, h1, rfl, h2⟩ := h
  refine ⟨n, a, c, h1, rfl, ?_⟩
  rcases h2 with h2 | ⟨b, o, cap, h3, h4, h5⟩
  · exact .inl h2
  · refine .inr ⟨b, o, cap, h3, Nat.lt_of_lt_of_le h4 hF.size, fun j hj => ?_⟩
    rw [← h5 j hj]
    exact World.cell?_of_block (w := w) (hF.block b h4 (hS b (by rw [h3]; rfl)))
theorem PairAt.fr {i : Nat} {p : PR} (h : PairAt w t B τ i p) (hF : Fr w.heap.size S w w') (hS : ∀ k, S k → k < w.heap.size → τ k ≠ 4 + 4 * i ∧ τ k ≠ 5 + 4 * i ∧ τ k ≠ 6 + 4 * i ∧ τ k ≠ 7 + 4 * i) : PairAt w' t B τ i p where
  row := hF.row h.row h.row.lt (fun hs => (hS _ hs h.row.lt).1 h.tr)
  map := h.map.block (hF.block _ h.map.lt (fun hs => (hS _ hs h.map.lt).2.1 h.tm))
  ref := hF.row h.ref h.ref.lt (fun hs => (hS _ hs h.ref.lt).2.2.1 h.tq)
  own := hF.own h.own (fun g hg => ⟨(h.own.lt g hg).2, fun hs => (hS _ hs (h.own.lt g hg).2).2.2.2 (h.tg g hg)⟩)
  tr := h.tr
  tm := h.tm
  tq := h.tq
  tg := h.tg
theorem PairAt.retag {i : Nat} {p : PR} (h : PairAt w t B τ i p) (hτ : ∀ b, b < w.heap.size → τ' b = τ b) : PairAt w t B τ' i p :=
  ⟨h.row, h.map, h.ref, h.own, (hτ _ h.row.lt).trans h.tr, (hτ _ h.map.lt).trans h.tm, (hτ _ h.ref.lt).trans h.tq, fun g hg => (hτ _ (h.own.lt g hg).2).trans (h.tg g hg)⟩
theorem UpSt.retag {ps : List PR} {ls : List Value} {rsv lsv : Value} (h : UpSt w1 w t Wb τ ps ls rsv lsv) (hτ : ∀ b, b < w.heap.size → τ' b = τ b) : UpSt w1 w t Wb τ' ps ls rsv lsv where
  bel := h.bel
  low := fun b hb => (hτ b (Nat.lt_of_lt_of_le hb h.bel.size)).trans (h.low b hb)
  wrow := h.wrow
  tW := (hτ _ h.wrow.lt).trans h.tW
  rs := h.rs
  trs := fun g hg => (hτ _ (h.rs.lt g hg).2).trans (h.trs g hg)
  lso := h.lso
  tls := fun g hg => (hτ _ (h.lso.lt g hg).2).trans (h.tls g hg)
  pairs := fun i p hp => (h.pairs i p hp).retag hτ
  lists := fun k v hv => ⟨(h.lists k v hv).1, fun g hg => ⟨((h.lists k v hv).2 g hg).1, (hτ _ ((h.lists k v hv).2 g hg).1).trans ((h.lists k v hv).2 g hg).2⟩⟩
/-- nothing but new blocks -/
theorem UpSt.below {ps : List PR} {ls : List Value} {rsv lsv : Value} (h : UpSt w1 w t Wb τ ps ls rsv lsv) (hb : Below w.heap.size w w') : UpSt w1 w' t Wb τ ps ls rsv lsv := by
  have hF : Fr w.heap.size (fun _ => False) w w' := Fr.of_below hb
  exact ⟨h.bel.trans (hb.mono h.bel.size), h.low, h.wrow.below hb h.wrow.lt, h.tW, ownN_below h.rs hb (Nat.le_refl _), h.trs, ownN_below h.lso hb (Nat.le_refl _), h.tls, fun i p hp => (h.pairs i p hp).fr hF (fun _ h => h.elim),
    fun k v hv => ⟨marked_fr (h.lists k v hv).1 hF (fun _ _ h => h), fun g hg => ⟨Nat.lt_of_lt_of_le ((h.lists k v hv).2 g hg).1 hb.size, ((h.lists k v hv).2 g hg).2⟩⟩⟩
/-- one receiver's pool has turned, on both sides -/
theorem UpSt.turn {ps : List PR} {ls : List Value} {rsv lsv : Value} (h : UpSt w1 w t Wb τ ps ls rsv lsv) {i : Nat} {p p' : PR} (hp : ps[i]? = some p) (hr : p'.r = p.r) (hm : p'.m = p.m) (hq : p'.q = p.q)
    (hF : Fr w.heap.size (fun k => k = p.m ∨ k = p.q) w w') (hmap : Mp.Map w' p.m p'.P) (href : Row w' p.q (Rp.mrc t p'.pv)) (hown : w'.ownsRow w1.heap.size 9 1 p'.pv p'.P.length (wt p'.P))
    (hpv : p'.pv = p.pv ∨ ∀ g, p'.pv.ownBlock = some g → w.heap.size ≤ g) : UpSt w1 w' t Wb (fun b => if b < w.heap.size then τ b else 7 + 4 * i) (ps.set i p') ls rsv lsv := by
  have hpi := h.pairs i p hp
  have htag : ∀ k, (k = p.m ∨ k = p.q) → τ k = 5 + 4 * i ∨ τ k = 6 + 4 * i := fun k hk => by
    rcases hk with rfl | rfl
    · exact .inl hpi.tm
    · exact .inr hpi.tq
  have hlow : ∀ k, (k = p.m ∨ k = p.q) → w1.heap.size ≤ k := fun k hk => by
    rcases Nat.lt_or_ge k w1.heap.size with h1 | h1
    · have := h.low k h1
      rcases htag k hk with h2 | h2 <;> omega
    · exact h1
  have hτ : ∀ b, b < w.heap.size → (if b < w.heap.size then τ b else 7 + 4 * i) = τ b := fun b hb => if_pos hb
  refine ⟨h.bel.trans (hF.below h.bel.size hlow), fun b hb => (hτ b (Nat.lt_of_lt_of_le hb h.bel.size)).trans (h.low b hb), hF.row h.wrow h.wrow.lt (fun hs => by have := h.tW; rcases htag _ hs with h2 | h2 <;> omega), (hτ _ h.wrow.lt).trans h.tW,
    ?_, fun g hg => (hτ _ (h.rs.lt g hg).2).trans (h.trs g hg), hF.own h.lso (fun g hg => ⟨(h.lso.lt g hg).2, fun hs => by have := h.tls g hg; rcases htag _ hs with h2 | h2 <;> omega⟩), fun g hg => (hτ _ (h.lso.lt g hg).2).trans (h.tls g hg), fun j p2 hj => ?_,
    fun k v hv => ⟨marked_fr (h.lists k v hv).1 hF (fun g hg hs => by have := ((h.lists k v hv).2 g hg).2; rcases htag _ hs with h2 | h2 <;> omega), fun g hg => ⟨Nat.lt_of_lt_of_le ((h.lists k v hv).2 g hg).1 hF.size, (hτ _ ((h.lists k v hv).2 g hg).1).trans ((h.lists k v hv).2 g hg).2⟩⟩⟩
  · rw [List.length_set, pairCells_set ps i p p' hp hr hq]
    exact hF.own h.rs (fun g hg => ⟨(h.rs.lt g hg).2, fun hs => by have := h.trs g hg; rcases htag _ hs with h2 | h2 <;> omega⟩)
  · by_cases hij : i = j
    · subst hij
      have hil : i < ps.length := (List.getElem?_eq_some_iff.1 hp).1
      rw [List.getElem?_set_self hil] at hj
      obtain rfl := Option.some.inj hj
      refine ⟨?_, ?_, ?_, hown, ?_, ?_, ?_, fun g hg => ?_⟩
      · rw [hr, hm]; exact hF.row hpi.row hpi.row.lt (fun hs => by have := hpi.tr; rcases htag _ hs with h2 | h2 <;> omega)
      · rw [hm]; exact hmap
      · rw [hq]; exact href
      · rw [hr]; exact (hτ _ hpi.row.lt).trans hpi.tr
      · rw [hm]; exact (hτ _ hpi.map.lt).trans hpi.tm
      · rw [hq]; exact (hτ _ hpi.ref.lt).trans hpi.tq
      · rcases hpv with h1 | h1
        · rw [h1] at hg; exact (hτ _ (hpi.own.lt g hg).2).trans (hpi.tg g hg)
        · exact if_neg (by have := h1 g hg; omega)
    · rw [List.getElem?_set_ne hij] at hj
      exact ((h.pairs j p2 hj).retag (τ' := fun b => if b < w.heap.size then τ b else 7 + 4 * i) hτ).fr hF (fun k hs hk => by
        have := (hτ k hk)
        rcases htag k hs with h2 | h2 <;> rw [this, h2] <;> omega)
/-- a list was handed out, and marked -/
theorem UpSt.list {ps : List PR} {ls : List Value} {rsv lsv lv lsv' : Value} {n : Nat} (h : UpSt w1 w t Wb τ ps ls rsv lsv) (hn : n ≤ 2000) (hF : Fr w.heap.size (fun k => k = Wb ∨ lsv.ownBlock = some k) w w') (hW : Row w' Wb (wc t rsv lsv'))
    (hl : w'.ownsRow w.heap.size 9 1 lv n (wt (List.replicate n (Lw.mk ls.length)))) (hs : w'.ownsRow w1.heap.size 28 1 lsv' (ls.length + 1) (ls ++ [lv])) (hls : lsv'.ownBlock = lsv.ownBlock ∨ ∃ g, lsv'.ownBlock = some g ∧ w.heap.size ≤ g)
    (hne : ∀ g, lv.ownBlock = some g → lsv'.ownBlock ≠ some g) : UpSt w1 w' t Wb (fun b => if b < w.heap.size then τ b else if lsv'.ownBlock = some b then 2 else 3) ps (ls ++ [lv]) rsv lsv' := by
  have htag : ∀ k, (k = Wb ∨ lsv.ownBlock = some k) → τ k = 0 ∨ τ k = 2 := fun k hk => by
    rcases hk with rfl | hk
    · exact .inl h.tW
    · exact .inr (h.tls k hk)
  have hlow : ∀ k, (k = Wb ∨ lsv.ownBlock = some k) → w1.heap.size ≤ k := fun k hk => by
    rcases Nat.lt_or_ge k w1.heap.size with h1 | h1
    · have := h.low k h1
      rcases htag k hk with h2 | h2 <;> omega
    · exact h1
  have hτ : ∀ b, b < w.heap.size → (if b < w.heap.size then τ b else if lsv'.ownBlock = some b then 2 else 3) = τ b := fun b hb => if_pos hb
  refine ⟨h.bel.trans (hF.below h.bel.size hlow), fun b hb => (hτ b (Nat.lt_of_lt_of_le hb h.bel.size)).trans (h.low b hb), hW, (hτ _ h.wrow.lt).trans h.tW, hF.own h.rs (fun g hg => ⟨(h.rs.lt g hg).2, fun hs => by have := h.trs g hg; rcases htag _ hs with h2 | h2 <;> omega⟩),
    fun g hg => (hτ _ (h.rs.lt g hg).2).trans (h.trs g hg), by rw [List.length_append]; exact hs, fun g hg => ?_, fun i p hp => ?_, fun k v hv => ?_⟩
  · rcases hls with h1 | ⟨g', h1, h2⟩
    · rw [h1] at hg; exact (hτ _ (h.lso.lt g hg).2).trans (h.tls g hg)
    · rw [h1] at hg; cases hg
      show (if g < w.heap.size then τ g else if lsv'.ownBlock = some g then 2 else 3) = 2
      rw [if_neg (by omega), if_pos h1]
  · exact ((h.pairs i p hp).retag (τ' := fun b => if b < w.heap.size then τ b else if lsv'.ownBlock = some b then 2 else 3) hτ).fr hF (fun k hs hk => by
      have := (hτ k hk)
      rcases htag k hs with h2 | h2 <;> rw [this, h2] <;> omega)
  · by_cases hk : k < ls.length
    · rw [List.getElem?_append_left hk] at hv
      obtain ⟨h1, h2⟩ := h.lists k v hv
      exact ⟨marked_fr h1 hF (fun g hg hs => by have := (h2 g hg).2; rcases htag _ hs with h2 | h2 <;> omega), fun g hg => ⟨Nat.lt_of_lt_of_le (h2 g hg).1 hF.size, (hτ _ (h2 g hg).1).trans (h2 g hg).2⟩⟩
    · have hke : k = ls.length := by
        have := (List.getElem?_eq_some_iff.1 hv).1
        rw [List.length_append] at this
        simp at this; omega
      subst hke
      rw [List.getElem?_append_right (Nat.le_refl _), Nat.sub_self] at hv
      obtain rfl : lv = v := by simpa using hv
      obtain ⟨a, c, rfl⟩ := own_lenN hl
      refine ⟨⟨n, a, c, hn, rfl, own_texts hl (by rw [List.length_replicate])⟩, fun g hg => ⟨(hl.lt g hg).2, ?_⟩⟩
      have h1 := (hl.lt g hg).1
      show (if g < w.heap.size then τ g else if lsv'.ownBlock = some g then 2 else 3) = 3
      rw [if_neg (by omega), if_neg (hne g hg)]
/-- one receiver more -/
theorem UpSt.more {ps : List PR} {ls : List Value} {rsv rsv' lsv : Value} (h : UpSt w1 w t Wb τ ps ls rsv lsv) (r m q : Nat) (hF : Fr w.heap.size (fun k => k = Wb ∨ rsv.ownBlock = some k) w w') (hW : Row w' Wb (wc t rsv' lsv)) (hrow : Row w' r (Mp.rcv m)) (hmap : Mp.Map w' m [])
    (href : Row w' q (Rp.mrc t (.slice none 0 0))) (hrs : w'.ownsRow w1.heap.size 122 2 rsv' (ps.length + 1) (pairCells ps ++ [.pointer (some ⟨r, 0, none⟩), .pointer (some ⟨q, 0, none⟩)])) (hrs' : rsv'.ownBlock = rsv.ownBlock ∨ ∃ g, rsv'.ownBlock = some g ∧ w.heap.size ≤ g)
    (h1 : w.heap.size ≤ r) (h2 : w.heap.size ≤ m) (h3 : w.heap.size ≤ q) (h4 : r ≠ m) (h5 : r ≠ q) (h6 : m ≠ q) (h7 : ∀ g, rsv'.ownBlock = some g → g ≠ r ∧ g ≠ m ∧ g ≠ q) :
    UpSt w1 w' t Wb (fun b => if b < w.heap.size then τ b else if b = r then 4 + 4 * ps.length else if b = m then 5 + 4 * ps.length else if b = q then 6 + 4 * ps.length else 1) (ps ++ [⟨r, m, q, [], .slice none 0 0⟩]) ls rsv' lsv := by
  have htag : ∀ k, (k = Wb ∨ rsv.ownBlock = some k) → τ k = 0 ∨ τ k = 1 := fun k hk => by
    rcases hk with rfl | hk
    · exact .inl h.tW
    · exact .inr (h.trs k hk)
  have hlow : ∀ k, (k = Wb ∨ rsv.ownBlock = some k) → w1.heap.size ≤ k := fun k hk => by
    rcases Nat.lt_or_ge k w1.heap.size with h1 | h1
    · have := h.low k h1
      rcases htag k hk with h2 | h2 <;> omega
    · exact h1
  obtain ⟨τ', ht⟩ : ∃ τ', (fun b => if b < w.heap.size then τ b else if b = r then 4 + 4 * ps.length else if b = m then 5 + 4 * ps.length else if b = q then 6 + 4 * ps.length else 1) = τ' := ⟨_, rfl⟩
  have hτ : ∀ b, b < w.heap.size → τ' b = τ b := fun b hb => by rw [← ht]; exact if_pos hb
  have hr : τ' r = 4 + 4 * ps.length := by rw [← ht]; show (if r < w.heap.size then τ r else _) = _; rw [if_neg (by omega), if_pos rfl]
  have hm : τ' m = 5 + 4 * ps.length := by rw [← ht]; show (if m < w.heap.size then τ m else _) = _; rw [if_neg (by omega), if_neg (by omega), if_pos rfl]
  have hq : τ' q = 6 + 4 * ps.length := by rw [← ht]; show (if q < w.heap.size then τ q else _) = _; rw [if_neg (by omega), if_neg (by omega), if_neg (by omega), if_pos rfl]
  have hg1 : ∀ g, rsv'.ownBlock = some g → w.heap.size ≤ g → τ' g = 1 := fun g hg hgw => by
    obtain ⟨a1, a2, a3⟩ := h7 g hg
    rw [← ht]; show (if g < w.heap.size then τ g else _) = _; rw [if_neg (by omega), if_neg a1, if_neg a2, if_neg a3]
  rw [ht]
  refine ⟨h.bel.trans (hF.below h.bel.size hlow), fun b hb => (hτ b (Nat.lt_of_lt_of_le hb h.bel.size)).trans (h.low b hb), hW, (hτ _ h.wrow.lt).trans h.tW, by rw [List.length_append, pairCells_snoc]; exact hrs, fun g hg => ?_,
    hF.own h.lso (fun g hg => ⟨(h.lso.lt g hg).2, fun hs => by have := h.tls g hg; rcases htag _ hs with h2 | h2 <;> omega⟩), fun g hg => (hτ _ (h.lso.lt g hg).2).trans (h.tls g hg), fun j p2 hj => ?_,
    fun k v hv => ⟨marked_fr (h.lists k v hv).1 hF (fun g hg hs => by have := ((h.lists k v hv).2 g hg).2; rcases htag _ hs with h2 | h2 <;> omega), fun g hg => ⟨Nat.lt_of_lt_of_le ((h.lists k v hv).2 g hg).1 hF.size, (hτ _ ((h.lists k v hv).2 g hg).1).trans ((h.lists k v hv).2 g hg).2⟩⟩⟩
  · rcases hrs' with h8 | ⟨g', h8, h9⟩
    · rw [h8] at hg; exact (hτ _ (h.rs.lt g hg).2).trans (h.trs g hg)
    · have : g = g' := Option.some.inj (hg.symm.trans h8)
      subst this; exact hg1 g hg h9
  · by_cases hjl : j < ps.length
    · rw [List.getElem?_append_left hjl] at hj
      exact ((h.pairs j p2 hj).retag hτ).fr hF (fun k hs hk => by
        have := (hτ k hk)
        rcases htag k hs with h2 | h2 <;> rw [this, h2] <;> omega)
    · have hje : j = ps.length := by
        have := (List.getElem?_eq_some_iff.1 hj).1
        rw [List.length_append] at this
        simp at this; omega
      subst hje
      rw [List.getElem?_append_right (Nat.le_refl _), Nat.sub_self] at hj
      obtain rfl : (⟨r, m, q, [], .slice none 0 0⟩ : PR) = p2 := by simpa using hj
      exact ⟨hrow, hmap, href, World.ownsRow_nil _ _ _ _, hr, hm, hq, fun g hg => by cases hg⟩
end Lw
end Go.Proofs.YtlpcjiollnnmgabGreatDoor
