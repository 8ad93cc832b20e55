/-
  A slice of numbers, wherever it lies; as an argument.
-/
import Derived.Test.YtlpcjiollnnmgabDoorShaTop
import Derived.Test.YtlpcjiollnnmgabDoorEnd
namespace Go.Proofs.YtlpcjiollnnmgabDoor
open Nums
open Go.ChangeShapes Go.WideShapes Go.ChangeAt Go.RowKit
/-- an argument of type []int -/
def IntsAt (w : World) (v : Value) (al : List Int) : Prop :=
  (∃ a cap, v = .slice a 0 cap ∧ al = []) ∨ ∃ b o cap, v = .slice (some ⟨b, o, none⟩) al.length cap ∧ b < w.heap.size ∧ ∀ j, j < al.length → w.cell? ⟨b, o + j, none⟩ = some (.int .i64 (al.getD j 0))
theorem IntsAt.below {w w' : World} {v : Value} {al : List Int} {B : Nat} (h : IntsAt w v al) (hb : Below B w w') (hB : w.heap.size ≤ B) : IntsAt w' v al := by
  rcases h with h | ⟨b, o, cap, rfl, hlt, hc⟩
  · exact .inl h
  · refine .inr ⟨b, o, cap, rfl, Nat.lt_of_lt_of_le hlt hb.size, fun j hj => ?_⟩
    rw [← hc j hj]; exact World.cell?_of_block (w := w) (hb.block b (by omega))
theorem IntsAt.form {w : World} {v : Value} {al : List Int} (h : IntsAt w v al) : ∃ a cap, v = .slice a al.length cap := by
  rcases h with ⟨a, cap, rfl, rfl⟩ | ⟨b, o, cap, rfl, _⟩
  · exact ⟨a, cap, rfl⟩
  · exact ⟨_, cap, rfl⟩
theorem IntsAt.at {w : World} {a : Option Addr} {n cap : Nat} {al : List Int} (h : IntsAt w (.slice a n cap) al) (hn : 0 < al.length) : ∃ b o, a = some ⟨b, o, none⟩ ∧ b < w.heap.size ∧ ∀ j, j < al.length → w.cell? ⟨b, o + j, none⟩ = some (.int .i64 (al.getD j 0)) := by
  rcases h with ⟨a', cap', h1, rfl⟩ | ⟨b, o, cap', h1, hb, hc⟩
  · simp at hn
  · cases h1; exact ⟨b, o, rfl, hb, hc⟩
theorem cellsInt : Tryd.prog.cellsOf 3 = 1 := by kernel_rfl
/-- an argument of type []int -/
theorem ints_of_arg {H : Type} {enc : TypeId × Value → H} {W : World} {a0 : Option Addr} {n0 c0 : Nat} {d : DataW H} {ps : List MemPlace} (h : DataW.Trod enc Tryd.prog W 0 (fun _ => true) true 22 (.slice a0 n0 c0) d ps) :
    ∃ al, IntsAt W (.slice a0 n0 c0) al ∧ ∀ j, j < al.length → -9223372036854775808 ≤ al.getD j 0 ∧ al.getD j 0 ≤ 9223372036854775807 := by
  obtain ⟨fuel, hf⟩ := h
  rcases open_ints Tryd.underlying22 Tryd.underlying3 cellsInt hf with ⟨hcs, _⟩ | ⟨a, len, cap, zs, hcs, _, hl, hcm, hzl, _, hcell, hwf⟩
  · simp [Value.cells] at hcs
    obtain ⟨rfl, rfl, rfl⟩ := hcs
    exact ⟨[], .inl ⟨none, 0, rfl, rfl⟩, fun j hj => by simp at hj⟩
  · simp [Value.cells] at hcs
    obtain ⟨rfl, rfl, rfl⟩ := hcs
    have hle : n0 ≤ zs.length := by rw [hzl]; simp; exact hl
    by_cases h0 : n0 = 0
    · subst h0; exact ⟨[], .inl ⟨some a, _, rfl, rfl⟩, fun j hj => by simp at hj⟩
    · obtain ⟨b, off, spot⟩ := a
      have hspot : spot = none := by simpa [Addr.add] using World.cell?_spot (hcell 0 (by omega))
      subst hspot
      have hlen : (zs.take n0).length = n0 := by rw [List.length_take]; omega
      have hget : ∀ j, j < n0 → (zs.take n0).getD j 0 = zs.getD j 0 := fun j hj => by
        rw [List.getD_eq_getElem?_getD, List.getD_eq_getElem?_getD, List.getElem?_take_of_lt hj]
      refine ⟨zs.take n0, .inr ⟨b, off, _, by rw [hlen], ?_, fun j hj => ?_⟩, fun j hj => ?_⟩
      · have := World.block_lt_of_cell? _ _ (hcell 0 (by omega))
        simpa [Addr.add] using this
      · rw [hlen] at hj
        rw [hget j hj, ← Addr.add_lit]
        exact hcell j (by omega)
      · rw [hlen] at hj
        rw [hget j hj]
        have hm : zs.getD j 0 ∈ zs := by rw [List.getD_eq_getElem?_getD, List.getElem?_eq_getElem (show j < zs.length by omega)]; exact List.getElem_mem _
        have := hwf _ hm
        simp [Lit.wf, IntKind.min, IntKind.max, IntKind.signed, IntKind.bits] at this
        rw [List.getD_eq_getElem?_getD]
        omega
end Go.Proofs.YtlpcjiollnnmgabDoor
