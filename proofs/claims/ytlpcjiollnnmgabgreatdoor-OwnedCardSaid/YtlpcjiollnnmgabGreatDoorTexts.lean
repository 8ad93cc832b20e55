/-
  Texts as cells.
-/
import Derived.Test.YtlpcjiollnnmgabGreatDoorShaTop
namespace Go.Proofs.YtlpcjiollnnmgabGreatDoor
open Nums
open Go.RowKit
/-- the texts l, as cells -/
def wt (l : List (List UInt8)) : List Value := l.map fun s => Value.string (str s)
theorem wt_length (l : List (List UInt8)) : (wt l).length = l.length := by simp [wt]
theorem wt_one (l : List (List UInt8)) : ∀ u ∈ wt l, u.oneCell' = true := by
  intro u hu; obtain ⟨x, _, rfl⟩ := List.mem_map.1 hu; rfl
theorem wt_get (l : List (List UInt8)) (i : Nat) (h : i < l.length) : (wt l)[i]? = some (.string (str (l.getD i []))) := by
  unfold wt; rw [List.getElem?_map, List.getD_eq_getElem?_getD, List.getElem?_eq_getElem h]; rfl
theorem wt_snoc (l : List (List UInt8)) (s : List UInt8) : wt l ++ [.string (str s)] = wt (l ++ [s]) := by simp [wt]
theorem infoStr : (Tryz.prog.info? 9).map (fun i => (i.zero, i.size, i.bytes)) = some (some (.string ByteArray.empty), 1, 16) := by kernel_rfl
end Go.Proofs.YtlpcjiollnnmgabGreatDoor
