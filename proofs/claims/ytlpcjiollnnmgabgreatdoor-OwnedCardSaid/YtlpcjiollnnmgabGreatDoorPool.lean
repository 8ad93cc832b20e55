/-
  A POOL AS A LIST THAT RISES BY ITS KEYS. Plain Lean; nothing of the program.
-/
import Derived.Test.YtlpcjiollnnmgabGreatDoorNums
import Derived.Sort.Walk0
namespace Go.Proofs.YtlpcjiollnnmgabGreatDoor
namespace Pl
abbrev B := List UInt8
theorem lt_irr (a : B) : ¬ a < a := List.lt_irrefl a
theorem lt_tr {a b c : B} (h : a < b) (k : b < c) : a < c := List.lt_trans h k
theorem lt_tri (a b : B) : a < b ∨ a = b ∨ b < a := by
  by_cases h : a < b
  · exact .inl h
  · by_cases k : b < a
    · exact .inr (.inr k)
    · exact .inr (.inl (List.le_antisymm (List.not_lt.1 k) (List.not_lt.1 h)))
variable (key : B → B)
/-- where a key stands, or would stand; whether it is there -/
def at' (id : B) : List B → Nat × Bool
  | [] => (0, false)
  | x :: l => if key x < id then ((at' id l).1 + 1, (at' id l).2) else (0, key x == id)
def Up (l : List B) : Prop := l.Pairwise fun x y => key x < key y
def ins (t : B) (l : List B) : List B := l.take (at' key (key t) l).1 ++ [t] ++ l.drop (at' key (key t) l).1
def del (id : B) (l : List B) : List B := if (at' key id l).2 then l.take (at' key id l).1 ++ l.drop ((at' key id l).1 + 1) else l
theorem at_le (id : B) : ∀ l, (at' key id l).1 ≤ l.length
  | [] => Nat.le_refl _
  | x :: l => by
    have := at_le id l
    rw [at']; split
    · simp; omega
    · simp
theorem at_lt (id : B) : ∀ l, (at' key id l).2 = true → (at' key id l).1 < l.length
  | [], h => by simp [at'] at h
  | x :: l, h => by
    rw [at'] at h ⊢
    by_cases hx : key x < id
    · rw [if_pos hx] at h ⊢; have := at_lt id l h; simp; omega
    · rw [if_neg hx]; simp
/-- is the key there? -/
theorem at_mem (id : B) : ∀ l, Up key l → ((at' key id l).2 = true ↔ ∃ t ∈ l, key t = id)
  | [], _ => by simp [at']
  | x :: l, h => by
    obtain ⟨h1, h2⟩ := List.pairwise_cons.1 h
    rw [at']
    by_cases hx : key x < id
    · rw [if_pos hx]
      dsimp only
      rw [at_mem id l h2]
      constructor
      · rintro ⟨t, ht, e⟩; exact ⟨t, List.mem_cons_of_mem _ ht, e⟩
      · rintro ⟨t, ht, e⟩
        rcases List.mem_cons.1 ht with rfl | ht
        · rw [e] at hx; exact absurd hx (lt_irr _)
        · exact ⟨t, ht, e⟩
    · rw [if_neg hx]
      dsimp only
      rw [beq_iff_eq]
      constructor
      · intro e; exact ⟨x, List.mem_cons_self, e⟩
      · rintro ⟨t, ht, e⟩
        rcases List.mem_cons.1 ht with rfl | ht
        · exact e
        · exact absurd (e ▸ h1 t ht) hx
theorem ins_nil (t : B) : ins key t [] = [t] := rfl
theorem ins_cons (t x : B) (l : List B) : ins key t (x :: l) = if key x < key t then x :: ins key t l else t :: x :: l := by
  unfold ins
  rw [at']
  split
  · simp
  · simp
theorem mem_ins (t : B) : ∀ (l : List B) (x : B), x ∈ ins key t l ↔ x = t ∨ x ∈ l
  | [], x => by simp [ins_nil]
  | y :: l, x => by
    rw [ins_cons]
    split
    · rw [List.mem_cons, mem_ins t l, List.mem_cons]
      constructor
      · rintro (h | h | h)
        · exact .inr (.inl h)
        · exact .inl h
        · exact .inr (.inr h)
      · rintro (h | h | h)
        · exact .inr (.inl h)
        · exact .inl h
        · exact .inr (.inr h)
    · rw [List.mem_cons]
theorem ins_len (t : B) : ∀ l, (ins key t l).length = l.length + 1
  | [] => rfl
  | x :: l => by
    rw [ins_cons]; split
    · simp [ins_len t l]
    · simp
/-- one whose key is not there -/
theorem ins_up (t : B) : ∀ l, Up key l → (at' key (key t) l).2 = false → Up key (ins key t l)
  | [], _, _ => by rw [ins_nil]; exact List.pairwise_singleton _ _
  | x :: l, h, hn => by
    obtain ⟨h1, h2⟩ := List.pairwise_cons.1 h
    rw [ins_cons]
    rw [at'] at hn
    by_cases hx : key x < key t
    · rw [if_pos hx] at hn ⊢
      refine List.pairwise_cons.2 ⟨fun y hy => ?_, ins_up t l h2 hn⟩
      rcases (mem_ins key t l y).1 hy with rfl | hy
      · exact hx
      · exact h1 y hy
    · rw [if_neg hx] at hn ⊢
      have hne : key x ≠ key t := by simpa using hn
      have hlt : key t < key x := by
        rcases lt_tri (key x) (key t) with h | h | h
        · exact absurd h hx
        · exact absurd h hne
        · exact h
      refine List.pairwise_cons.2 ⟨fun y hy => ?_, h⟩
      rcases List.mem_cons.1 hy with rfl | hy
      · exact hlt
      · exact lt_tr hlt (h1 y hy)
theorem del_nil (id : B) : del key id [] = [] := rfl
theorem del_cons (id x : B) (l : List B) : del key id (x :: l) = if key x < id then x :: del key id l else if key x = id then l else x :: l := by
  unfold del
  rw [at']
  by_cases hx : key x < id
  · rw [if_pos hx, if_pos hx]
    dsimp only
    cases (at' key id l).2 <;> simp
  · rw [if_neg hx, if_neg hx]
    by_cases he : key x = id
    · rw [if_pos he]; simp [he]
    · rw [if_neg he]; simp [he]
theorem mem_del (id : B) : ∀ l, Up key l → ∀ x, x ∈ del key id l ↔ x ∈ l ∧ key x ≠ id
  | [], _, x => by simp [del_nil]
  | y :: l, h, x => by
    obtain ⟨h1, h2⟩ := List.pairwise_cons.1 h
    rw [del_cons]
    by_cases hy : key y < id
    · rw [if_pos hy, List.mem_cons, mem_del id l h2, List.mem_cons]
      constructor
      · rintro (rfl | ⟨h, k⟩)
        · exact ⟨.inl rfl, fun e => by rw [e] at hy; exact lt_irr _ hy⟩
        · exact ⟨.inr h, k⟩
      · rintro ⟨h | h, k⟩
        · exact .inl h
        · exact .inr ⟨h, k⟩
    · rw [if_neg hy]
      by_cases he : key y = id
      · rw [if_pos he]
        constructor
        · intro hx; exact ⟨List.mem_cons_of_mem _ hx, fun e => by have := h1 x hx; rw [he, e] at this; exact lt_irr _ this⟩
        · rintro ⟨hx, k⟩
          rcases List.mem_cons.1 hx with rfl | hx
          · exact absurd he k
          · exact hx
      · rw [if_neg he]
        have hlt : id < key y := by
          rcases lt_tri (key y) id with h | h | h
          · exact absurd h hy
          · exact absurd h he
          · exact h
        constructor
        · intro hx
          refine ⟨hx, fun e => ?_⟩
          rcases List.mem_cons.1 hx with rfl | hx
          · exact he e
          · have := lt_tr hlt (h1 x hx); rw [e] at this; exact lt_irr _ this
        · exact fun hx => hx.1
theorem del_sub (id : B) (l : List B) : (del key id l).Sublist l := by
  unfold del
  split
  · have h : l.take (at' key id l).1 ++ l.drop (at' key id l).1 = l := List.take_append_drop _ _
    conv => rhs; rw [← h]
    refine List.Sublist.append (List.Sublist.refl _) ?_
    rw [← List.drop_drop]
    exact List.drop_sublist _ _
  · exact List.Sublist.refl _
theorem del_up (id : B) (l : List B) (h : Up key l) : Up key (del key id l) := List.Pairwise.sublist (del_sub key id l) h
theorem del_len (id : B) (l : List B) (h : (at' key id l).2 = true) : (del key id l).length + 1 = l.length := by
  have := at_lt key id l h
  unfold del
  rw [if_pos h, List.length_append, List.length_take, List.length_drop]; omega
/-- the keys rise -/
theorem keys_up (l : List B) (h : Up key l) : (l.map key).Pairwise (· < ·) := List.pairwise_map.2 h
/-- what holds just the same keys, and rises, is the same -/
theorem up_unique {a b : List B} (ha : a.Pairwise (· < ·)) (hb : b.Pairwise (· < ·)) (h : ∀ x, x ∈ a ↔ x ∈ b) : a = b := by
  induction a generalizing b with
  | nil =>
    cases b with
    | nil => rfl
    | cons y b => have := (h y).2 List.mem_cons_self; cases this
  | cons x a ih =>
    cases b with
    | nil => have := (h x).1 List.mem_cons_self; cases this
    | cons y b =>
      obtain ⟨a1, a2⟩ := List.pairwise_cons.1 ha
      obtain ⟨b1, b2⟩ := List.pairwise_cons.1 hb
      have e : x = y := by
        rcases List.mem_cons.1 ((h x).1 List.mem_cons_self) with e | hx
        · exact e
        · rcases List.mem_cons.1 ((h y).2 List.mem_cons_self) with e | hy
          · exact e.symm
          · exact absurd (lt_tr (b1 x hx) (a1 y hy)) (lt_irr _)
      subst e
      congr 1
      refine ih a2 b2 fun z => ⟨fun hz => ?_, fun hz => ?_⟩
      · rcases List.mem_cons.1 ((h z).1 (List.mem_cons_of_mem _ hz)) with rfl | h'
        · exact absurd (a1 z hz) (lt_irr _)
        · exact h'
      · rcases List.mem_cons.1 ((h z).2 (List.mem_cons_of_mem _ hz)) with rfl | h'
        · exact absurd (b1 z hz) (lt_irr _)
        · exact h'
end Pl
end Go.Proofs.YtlpcjiollnnmgabGreatDoor
