/-
  THE ROW's END WITH A SLICE OF TEXTS AMONG THE ARGUMENTS: what stands below the heap's end at the entry reads as before. Nothing of one function.
-/
import Derived.Test.YtlpcjiollnnmgabGreatDoorLaid
import Derived.Test.YtlpcjiollnnmgabGreatDoorRRoot
import Derived.Deep.Strs
import Derived.Carry
namespace Go.Proofs.YtlpcjiollnnmgabGreatDoor
open Nums
open Go.ChangeShapes Go.WideShapes Go.ChangeAt Go.RowKit
theorem post_of_below2 {H : Type} {enc : TypeId × Value → H} {P : Program} {f : Func} {s : ChangeSpec} {apart fresh handsOn : Bool} {W W' : World} {args : Array Value} {v : Value} {ds gs : List (DataW H)} {before pa pv : List MemPlace}
    (hW : DataW.Whole enc P f.params.toList s.vars apart W args.toList ds gs before)
    (hres : ∀ (b : Nat) (sp : Nat → Bool) (hd : Bool), DataW.TrodAll enc P W' b sp hd f.resultTypes.toList (v.resultList f.resultTypes.size) (s.fn H (ds ++ gs)).results [])
    (hargs : DataW.TrodAll enc P W' 0 (fun b => decide (b < W.heap.size)) true f.params.toList args.toList (s.fn H (ds ++ gs)).args pa)
    (hvars : DataW.TrodVars enc P W' (fun b => decide (b < W.heap.size)) s.vars (s.fn H (ds ++ gs)).vars pv)
    (hps : before = pa ++ pv) (hb : Below W.heap.size W W') :
    s.post enc P f apart fresh handsOn false W args v W' := by
  refine ⟨ds, gs, before, [], pa, pv, hW, hres _ _ _, hargs, hvars, World.keptBut_mono (fun p hp => ⟨hp, ?_⟩) (hb.frame (· ∈ before)), fun h => by cases h⟩
  rw [hps, List.mem_append] at hp
  exact Or.inr hp
theorem Tryz.laidOut' : laidOutB Tryz.prog = true := by kernel_rfl
theorem cellsStr : Tryz.prog.cellsOf 9 = 1 := by kernel_rfl
/-- an argument of type []string -/
theorem texts_of_arg {H : Type} {enc : TypeId × Value → H} {W : World} {a0 : Option Addr} {n0 c0 : Nat} {d : DataW H} {ps : List MemPlace} (h : DataW.Trod enc Tryz.prog W 0 (fun _ => true) true 28 (.slice a0 n0 c0) d ps) : ∃ ss, Texts W (.slice a0 n0 c0) ss ∧ ss.length ≤ maxLen := by
  obtain ⟨fuel, hf⟩ := h
  rcases Deep.open_strs Tryz.underlying28 Tryz.underlying9 cellsStr hf with ⟨hcs, _⟩ | ⟨a, len, cap, m, Sx, hcs, _, hl, hcm, hmm, _, hcell⟩
  · simp [Value.cells] at hcs
    obtain ⟨rfl, rfl, rfl⟩ := hcs
    exact ⟨[], .inl ⟨none, 0, rfl, rfl⟩, by simp⟩
  · simp [Value.cells] at hcs
    obtain ⟨rfl, rfl, rfl⟩ := hcs
    by_cases h0 : n0 = 0
    · subst h0; exact ⟨[], .inl ⟨some a, _, rfl, rfl⟩, by simp⟩
    · have hlm : n0 ≤ m := by rw [hmm]; simp; exact hl
      obtain ⟨b, off, spot⟩ := a
      have hspot : spot = none := by simpa [Addr.add] using World.cell?_spot (hcell 0 (by omega)).1
      subst hspot
      refine ⟨(List.range n0).map fun i => (Sx i).toList, .inr ⟨b, off, _, by rw [List.length_map, List.length_range], ?_, fun j hj => ?_⟩, by rw [List.length_map, List.length_range]; omega⟩
      · have := World.block_lt_of_cell? _ _ (hcell 0 (by omega)).1
        simpa [Addr.add] using this
      · have hj' : j < n0 := by simpa using hj
        have e : ((List.range n0).map fun i => (Sx i).toList).getD j [] = (Sx j).toList := by simp [hj']
        rw [e, str_of, ← Addr.add_lit]
        exact (hcell j (by omega)).1
end Go.Proofs.YtlpcjiollnnmgabGreatDoor
