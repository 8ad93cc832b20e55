/-
  A BUFFER OF BYTES THAT THE CALL OWNS, AT ANY OFFSET OF ITS BLOCK: append onto it; a piece of it. Plain; nothing of the program.
-/
import Derived.Test.YtlpcjiollnnmgabGreatDoorRows2
import Derived.ArgAppend
namespace Go.Proofs.YtlpcjiollnnmgabGreatDoor
open Nums Go.RowKit
/-- of the blocks of w, none but those of O has turned -/
structure Keep (O : Nat → Prop) (w w' : World) : Prop where
  os : w'.os = w.os
  tape : w'.tape = w.tape
  output : w'.output = w.output
  size : w.heap.size ≤ w'.heap.size
  block : ∀ k, k < w.heap.size → ¬ O k → w'.heap[k]? = w.heap[k]?
namespace Keep
variable {O O' : Nat → Prop} {w w' w'' : World}
theorem refl (O : Nat → Prop) (w : World) : Keep O w w := ⟨rfl, rfl, rfl, Nat.le_refl _, fun _ _ _ => rfl⟩
theorem trans (h : Keep O w w') (k : Keep O w' w'') : Keep O w w'' :=
  ⟨k.os.trans h.os, k.tape.trans h.tape, k.output.trans h.output, Nat.le_trans h.size k.size, fun i hi ho => (k.block i (Nat.lt_of_lt_of_le hi h.size) ho).trans (h.block i hi ho)⟩
theorem weaken (h : Keep O w w') (ho : ∀ k, k < w.heap.size → O k → O' k) : Keep O' w w' := ⟨h.os, h.tape, h.output, h.size, fun k hk hn => h.block k hk fun hh => hn (ho k hk hh)⟩
theorem of_below (h : Below w.heap.size w w') : Keep O w w' := ⟨h.os, h.tape, h.output, h.size, fun k hk _ => h.block k hk⟩
theorem of_but {S : Nat} (h : But w.heap.size S w w') (hS : O S) : Keep O w w' := ⟨h.os, h.tape, h.output, h.size, fun k hk ho => h.block k hk fun he => ho (he ▸ hS)⟩
theorem set (h : Keep O w w') (a : Addr) (v : Value) (ho : O a.block) : Keep O w (w'.setCell a v) :=
  ⟨h.os, h.tape, h.output, by have := h.size; simp [World.setCell]; omega, fun k hk hn => (Below.heap_setCell _ _ _ _ (by intro he; apply hn; first | rw [he]; exact ho | rw [← he]; exact ho)).trans (h.block k hk hn)⟩
theorem alloc (h : Keep O w w') (o : Obj) : Keep O w (w'.alloc o) := h.trans (of_below ((Below.refl _ _).alloc (Nat.le_refl _) o))
theorem drew (h : Keep O w w') : Keep O w w'.drew := h.trans (of_below (Below.refl _ _).drew)
theorem drewN (h : Keep O w w') (n : Nat) : Keep O w (w'.drewN n) := h.trans (of_below (below_drewN (Below.refl _ _) n))
theorem row {b : Nat} {l : List Value} (h : Keep O w w') (hr : Row w b l) (hb : ¬ O b) : Row w' b l := by
  obtain ⟨T, hT⟩ := hr
  exact ⟨T, by rw [h.block b (Array.getElem?_eq_some_iff.1 hT).1 hb, hT]⟩
theorem but {B S : Nat} (h : Keep (fun k => k = S ∨ O k) w w') (hB : B ≤ w.heap.size) (ho : ∀ k, O k → B ≤ k) : But B S w w' :=
  ⟨h.os, h.tape, h.output, h.size, fun k hk hs => h.block k (by omega) fun hh => hh.elim hs fun hO => by have := ho k hO; omega⟩
end Keep
/-- rv is a slice of the bytes l, its block one of O; every place up to its capacity is there and not frozen -/
def Buf (w : World) (O : Nat → Prop) (rv : Value) (l : List UInt8) : Prop :=
  (rv = .slice none 0 0 ∧ l = []) ∨ ∃ g off cap, rv = .slice (some ⟨g, off, none⟩) l.length cap ∧ l.length ≤ cap ∧ O g ∧ g < w.heap.size ∧ Bytes w g off l ∧
    ∀ j, j < cap → (w.cell? ⟨g, off + j, none⟩).isSome = true ∧ w.frozen? ⟨g, off + j, none⟩ = false
namespace Buf
variable {w w' : World} {O : Nat → Prop} {rv : Value} {l : List UInt8}
theorem nil (w : World) (O : Nat → Prop) : Buf w O (.slice none 0 0) [] := .inl ⟨rfl, rfl⟩
/-- no block at or above B has turned -/
theorem same (h : Buf w O rv l) (hs : w.heap.size ≤ w'.heap.size) (hk : ∀ k, O k → k < w.heap.size → w'.heap[k]? = w.heap[k]?) : Buf w' O rv l := by
  rcases h with h | ⟨g, off, cap, h1, h2, h3, h4, h5, h6⟩
  · exact .inl h
  · have hb := hk g h3 h4
    refine .inr ⟨g, off, cap, h1, h2, h3, by omega, fun j hj => ?_, fun j hj => ?_⟩
    · rw [← h5 j hj]; exact World.cell?_of_block (w := w) hb
    · rw [World.cell?_of_block (w := w) (w' := w') (a := ⟨g, off + j, none⟩) hb, World.frozen?_of_block (w := w) (w' := w') (a := ⟨g, off + j, none⟩) hb]; exact h6 j hj
theorem alloc (h : Buf w O rv l) (o : Obj) : Buf (w.alloc o) O rv l := h.same (by simp) fun k _ hk => Below.heap_alloc _ _ _ hk
theorem drew (h : Buf w O rv l) : Buf w.drew O rv l := h
theorem drewN (h : Buf w O rv l) (n : Nat) : Buf (w.drewN n) O rv l := h
theorem other (h : Buf w O rv l) {a : Addr} (ha : ¬ O a.block) (v : Value) : Buf (w.setCell a v) O rv l := h.same (by simp [World.setCell]) fun k hk _ => Below.heap_setCell _ _ _ _ (fun he => ha (he ▸ hk))
/-- what a callee leaves that turns block S alone below the heap's end -/
theorem but {S : Nat} (h : Buf w O rv l) (hb : But w.heap.size S w w') (hS : ¬ O S) : Buf w' O rv l := h.same hb.size fun k hk hl => hb.block k hl (fun he => hS (he ▸ hk))
/-- 'rest[n:]' where the slice is not nil and n is within it, and the address moves on -/
theorem len (h : Buf w O rv l) : ∃ a cap, rv = .slice a l.length cap ∧ l.length ≤ cap := by
  rcases h with ⟨h, rfl⟩ | ⟨g, off, cap, h1, h2, _⟩
  · exact ⟨none, 0, h, by simp⟩
  · exact ⟨_, cap, h1, h2⟩
end Buf
theorem w8_length (l : List UInt8) : (w8 l).length = l.length := by simp [w8]
theorem w8_one (l : List UInt8) : ∀ u ∈ w8 l, u.oneCell' = true := by
  intro u hu; obtain ⟨x, _, rfl⟩ := List.mem_map.1 hu; rfl
theorem nth_append_left (l m : List UInt8) (j : Nat) (h : j < l.length) : nth (l ++ m) j = nth l j := by
  unfold nth; rw [List.getD_eq_getElem?_getD, List.getD_eq_getElem?_getD, List.getElem?_append_left h]
theorem nth_append_right (l m : List UInt8) (j : Nat) (h : l.length ≤ j) : nth (l ++ m) j = nth m (j - l.length) := by
  unfold nth; rw [List.getD_eq_getElem?_getD, List.getD_eq_getElem?_getD, List.getElem?_append_right h]

theorem setCells_rest (b : Nat) : ∀ (vs : List Value) (o : Nat) (w : World), (w.setCells b o vs).heap.size = w.heap.size ∧ (∀ k, k ≠ b → (w.setCells b o vs).heap[k]? = w.heap[k]?) ∧ (w.setCells b o vs).os = w.os ∧ (w.setCells b o vs).tape = w.tape ∧ (w.setCells b o vs).output = w.output
  | [], _, _ => ⟨rfl, fun _ _ => rfl, rfl, rfl, rfl⟩
  | v :: r, o, w => by
    obtain ⟨h1, h2, h3, h4, h5⟩ := setCells_rest b r (o + 1) (w.setCell ⟨b, o, none⟩ v)
    rw [World.setCells]
    exact ⟨by rw [h1]; simp [World.setCell], fun k hk => by rw [h2 k hk]; exact Below.heap_setCell _ _ _ _ hk, h3, h4, h5⟩

/-- 'append(rest, b...)': b somewhere -/
theorem wpList_append_buf {P : Program} (w : World) {ops : Array Oper} {rest : List Oper} {o : Oper} {a : Act} {Q : Exit → Act → World → Prop}
    (hg : o.guard = none) (s x : Operand) (t : TypeId) (hop : o.op = Op.call { callee := Callee.builtin Builtin.append, args := #[s, x], argTypes := #[t, t] })
    (e : TypeId) (i : TypeInfo) (h1 : P.underlying t = some (.slice e)) (h2 : P.info? e = some i) (h3 : i.zero = some (.int .u8 0)) (h4 : i.size = 1) (h5 : i.bytes = 1)
    (O : Nat → Prop) (rv : Value) (l b : List UInt8) (hs : a.eval s = rv) (hbuf : Buf w O rv l) (hB : ∀ k, w.heap.size ≤ k → O k) (gb ob c : Nat) (hx : a.eval x = .slice (some ⟨gb, ob, none⟩) b.length c) (hby : Bytes w gb ob b)
    (hm : l.length + b.length ≤ 140737488355328)
    (hK : ∀ v' w', Buf w' O v' (l ++ b) → Keep O w w' → wpList P ops Q rest (a.put o.dst v') w') :
    wpList P ops Q (o :: rest) a w := by
  have hmax : l.length + b.length ≤ maxLen := by unfold maxLen; omega
  have hnews : ∀ (j : Nat) (u : Value), (w8 b)[j]? = some u → w.cell? (Addr.add ⟨gb, ob, none⟩ j) = some u := fun j u hu => by
    have hj : j < b.length := by have := (List.getElem?_eq_some_iff.1 hu).1; rwa [w8_length] at this
    rw [Addr.add_lit, hby j hj, ← hu, w8_get b j hj]
  have hgrown : ∀ v' w', w'.ownsRow w.heap.size e 1 v' (l.length + b.length) (w8 l ++ w8 b) → w.grownBy w' none → 0 < l.length + b.length → Buf w' O v' (l ++ b) ∧ Keep O w w' := by
    intro v' w' hown hgr hpos
    obtain ⟨hlen, hor⟩ := hown
    rcases hor with ⟨_, h0⟩ | ⟨g, cap, cur, rfl, hgg, hblk, hcap, _, hcs, htake⟩
    · omega
    · refine ⟨.inr ⟨g, 0, cap, by rw [List.length_append], by rw [List.length_append]; exact hcap, hB _ (by omega), (Array.getElem?_eq_some_iff.1 hblk).1, fun j hj => ?_, fun j hj => ?_⟩, Keep.of_below ((Below.refl w.heap.size w).grown hgr (Nat.le_refl _) (fun k hk => by cases hk))⟩
      · rw [Nat.zero_add]
        have hj' : j < l.length + b.length := by rw [List.length_append] at hj; exact hj
        have e1 : (w8 (l ++ b))[j]? = some (.int .u8 (Y (nth (l ++ b) j))) := w8_get _ j hj
        have e2 : w8 (l ++ b) = w8 l ++ w8 b := by simp [w8]
        rw [e2, ← htake, Nat.mul_one, List.getElem?_take_of_lt hj'] at e1
        simpa [World.cell?, hblk] using e1
      · have hj' : j < cur.size := by rw [hcs]; omega
        simp [World.cell?, World.frozen?, hblk, hj']
  rcases hbuf with ⟨rfl, rfl⟩ | ⟨g, off, cap, rfl, hcap, hgB, hgs, hold, hroom⟩
  · by_cases hb0 : b = []
    · subst hb0
      refine wpList_plain hg fun K hK' => ?_
      have hrun : (Builtin.append_ #[t, t] o.type #[.slice none 0 0, .slice (some ⟨gb, ob, none⟩) 0 c]).run P w = .ok (.slice none 0 0) w := by
        have hfc := run_firstCells_some (P := P) w i.size 0 ⟨gb, ob, none⟩ 0 c [] (by simp) (by simp)
        simp [Builtin.append_, run_underlying h1, sizeOf, typeInfo, h2, Builtin.lenOf, hfc]
      unfold Oper.wp
      have hx' : a.eval x = .slice (some ⟨gb, ob, none⟩) 0 c := hx
      simp [execOp, hop, resolve, invoke, builtin, hs, hx', hrun, Result.andThen]
      exact hK' _ _ (hK _ _ (Buf.nil w O) (Keep.refl O w))
    · have hpos : 0 < b.length := List.length_pos_iff.2 hb0
      refine wpList_append_grows w hg s x t hop e i _ 1 1 h1 h2 h3 h4 h5 rfl (by decide) none 0 0 [] hs (fun _ => ⟨rfl, rfl⟩) rfl (fun _ h => by cases h) ⟨gb, ob, none⟩ b.length c (w8 b) hx (by rw [w8_length, Nat.mul_one]) hnews (w8_one b) (by omega) (by simpa using hmax) (by simp at hm ⊢; omega) ?_
      intro v' w' hown hgr
      have := hgrown v' w' (by simpa [w8] using hown) hgr (by simp; omega)
      exact hK v' w' this.1 this.2
  · refine wpList_append_arg w hg s x t hop e i _ 1 1 h1 h2 h3 h4 h5 rfl (by decide) g off l.length cap (w8 l) hs (by rw [w8_length, Nat.mul_one]) (fun j u hu => ?_) ⟨gb, ob, none⟩ b.length c (w8 b) hx (by rw [w8_length, Nat.mul_one]) hnews (w8_one b)
      (fun hfit j hj => ?_) hmax (by omega) (fun hfit => ?_) (fun hfull v' w' hown hgr => ?_)
    · have hj : j < l.length := by have := (List.getElem?_eq_some_iff.1 hu).1; rwa [w8_length] at this
      rw [hold j hj, ← hu, w8_get l j hj]
    · rw [w8_length] at hj
      rw [Nat.mul_one, Nat.add_assoc]; exact hroom _ (by omega)
    · rw [Nat.mul_one]
      have hsome : ∀ j, j < (w8 b).length → (w.cell? ⟨g, off + l.length + j, none⟩).isSome = true := fun j hj => by
        rw [w8_length] at hj; rw [Nat.add_assoc]; exact (hroom _ (by omega)).1
      have hin := World.cell?_setCells_in g (w8 b) (off + l.length) w hsome
      have hout := World.cell?_setCells_out g (w8 b) (off + l.length) w
      have hfr := World.frozen?_setCells g (w8 b) (off + l.length) w
      obtain ⟨k1, k2, k3, k4, k5⟩ := setCells_rest g (w8 b) (off + l.length) w
      generalize w.setCells g (off + l.length) (w8 b) = w' at hin hout hfr k1 k2 k3 k4 k5 ⊢
      have hlo : ∀ j, j < l.length → w'.cell? ⟨g, off + j, none⟩ = w.cell? ⟨g, off + j, none⟩ := fun j hj => hout _ (fun _ _ => Or.inl (by show off + j < off + l.length; omega))
      have hhi : ∀ j, l.length ≤ j → j < l.length + b.length → w'.cell? ⟨g, off + j, none⟩ = some (.int .u8 (Y (nth b (j - l.length)))) := fun j h1 h2 => by
        have hj : j - l.length < (w8 b).length := by rw [w8_length]; omega
        have := hin (j - l.length) hj
        rw [show off + l.length + (j - l.length) = off + j by omega] at this
        rw [this]
        have e := w8_get b (j - l.length) (by omega)
        rw [List.getElem?_eq_getElem hj] at e
        exact e
      refine hK _ w' (.inr ⟨g, off, cap, by rw [List.length_append], by rw [List.length_append]; omega, hgB, by omega, fun j hj => ?_, fun j hj => ?_⟩) ⟨k3, k4, k5, by omega, fun k _ hn => k2 k (fun he => hn (he ▸ hgB))⟩
      · rw [List.length_append] at hj
        by_cases hl : j < l.length
        · rw [hlo j hl, nth_append_left _ _ _ hl]; exact hold j hl
        · rw [hhi j (by omega) hj, nth_append_right _ _ _ (by omega)]
      · refine ⟨?_, by rw [hfr]; exact (hroom j hj).2⟩
        by_cases hl : j < l.length
        · rw [hlo j hl]; exact (hroom j hj).1
        · by_cases h2 : j < l.length + b.length
          · rw [hhi j (by omega) h2]; rfl
          · rw [hout ⟨g, off + j, none⟩ (fun _ _ => Or.inr (by show off + l.length + (w8 b).length ≤ off + j; rw [w8_length]; omega))]; exact (hroom j hj).1
    · have := hgrown v' w' hown hgr (by omega)
      exact hK v' w' this.1 this.2
end Go.Proofs.YtlpcjiollnnmgabGreatDoor
