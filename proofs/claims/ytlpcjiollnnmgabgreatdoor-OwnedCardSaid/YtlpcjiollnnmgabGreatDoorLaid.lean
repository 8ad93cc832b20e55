/-
  THE LISTED VARIABLES (SHA-256's tables) AS THE WALKS TAKE THEM ('Tabs'), AND A WORLD FOR THE ROWS' WITNESS.
-/
import Derived.Test.YtlpcjiollnnmgabGreatDoorCards
import Derived.Test.YtlpcjiollnnmgabGreatDoorTie
import Derived.Test.YtlpcjiollnnmgabGreatDoorShaTop
import Derived.Test.YtlpcjiollnnmgabGreatDoorEnd
import Derived.WalkKit
import Derived.ProofKit
import Derived.OpenShut
import Derived.ShutString
import Derived.Deep.DeepHandedRow
import Derived.Lib.LaidTab
namespace Go.Proofs.YtlpcjiollnnmgabGreatDoor
open Nums
open Go.ChangeShapes Go.WideShapes Go.ChangeAt Go.RowKit
open Go.ChangeMaps (open_string shut_string)
theorem Tryz.ownKnob : Go.ownKnob Tryz.prog.godebug = none := by kernel_rfl
theorem gBegin : Tryz.prog.globalNamed "compact/hash.begin" = some 0 := by kernel_rfl
theorem gRounds : Tryz.prog.globalNamed "compact/hash.rounds" = some 1 := by kernel_rfl
theorem gBeginType : (Tryz.prog.globals[0]?).map (·.type) = some 169 := by kernel_rfl
theorem gRoundsType : (Tryz.prog.globals[1]?).map (·.type) = some 209 := by kernel_rfl
theorem cellsA8 : Tryz.prog.cellsOf 169 = 8 := by kernel_rfl
theorem cellsA64 : Tryz.prog.cellsOf 209 = 64 := by kernel_rfl
theorem cellsU32 : Tryz.prog.cellsOf 168 = 1 := by kernel_rfl
/-- the block of the list's first table -/
theorem row_of_head {P : Program} {W : World} {name : String} {k : IntKind} {zs : List Int} {rest : List (String × DataW Unit)} {g : Nat} {t e : TypeId} {n : Nat} (hz : zs ≠ [])
    (hg : P.globalNamed name = some g) (hty : (P.globals[g]?).map (·.type) = some t) (ht : P.underlying t = some (.array n e)) (he : P.underlying e = some (.int k)) (hce : P.cellsOf e = 1) (hct : P.cellsOf t = n)
    (h : laidMet P ((name, Lib.tabData k zs) :: rest) W) : Row W g (zs.map fun z => Value.int k z) := by
  have ht' := Lib.tabIs_of_head hg hty ht he hce hct h
  obtain ⟨ps, ⟨g', t', cs, fuel, p, q, hg', _, hvar, _, _, rfl⟩, _, hall⟩ := h
  obtain rfl := Option.some.inj (hg.symm.trans hg')
  unfold Lib.TabIs at ht'
  rw [hvar] at ht'
  obtain rfl := Option.some.inj ht'
  have hm : MemPlace.cell g 0 ∈ MemPlace.row ⟨g, 0, none⟩ ((zs.map fun z => Value.int k z).toArray).size ++ p ++ q := by
    refine List.mem_append_left _ (List.mem_append_left _ ?_)
    cases zs with
    | nil => exact absurd rfl hz
    | cons z zs => simp [MemPlace.row]
  obtain ⟨⟨c, T, hc⟩, _⟩ := hall g 0 hm
  refine ⟨T, ?_⟩
  have hv := hvar
  unfold World.var? at hv
  rw [hg] at hv
  simp only [Option.bind_some, hc, Option.some.injEq] at hv
  rw [hc, hv]
theorem laid_tail {P : Program} {W : World} {x : String × DataW Unit} {rest : List (String × DataW Unit)} (h : laidMet P (x :: rest) W) : laidMet P rest W := by
  obtain ⟨name, d⟩ := x
  obtain ⟨ps, ⟨g, t, cs, fuel, p, q, _, _, _, _, hr, rfl⟩, hn, hall⟩ := h
  exact ⟨q, hr, (List.nodup_append.1 hn).2.1, fun b off hb => hall b off (List.mem_append_right _ hb)⟩
def beginInts : List Int := [1779033703, 3144134277, 1013904242, 2773480762, 1359893119, 2600822924, 528734635, 1541459225]
def roundsInts : List Int := Sha.rounds.map V
theorem begin_ints : (beginInts.map fun z => Value.int .u32 z) = w32 (H8l Sha.begin) := by kernel_rfl
theorem rounds_ints : (roundsInts.map fun z => Value.int .u32 z) = w32 Sha.rounds := by simp [roundsInts, w32]
theorem begin_data : (Rows.laid_compact_hash_begin : DataW Unit) = Lib.tabData .u32 beginInts := by kernel_rfl
theorem rounds_data : (Rows.laid_compact_hash_rounds : DataW Unit) = Lib.tabData .u32 roundsInts := by kernel_rfl
theorem tabs_of_laid {W : World} (h : laidMet Tryz.prog [("compact/hash.begin", Rows.laid_compact_hash_begin), ("compact/hash.rounds", Rows.laid_compact_hash_rounds)] W) : Tabs W := by
  rw [begin_data, rounds_data] at h
  refine ⟨?_, ?_⟩
  · rw [← begin_ints]
    exact row_of_head (by decide) gBegin gBeginType Tryz.underlying169 Tryz.underlying168 cellsU32 cellsA8 h
  · rw [← rounds_ints]
    exact row_of_head (by decide) gRounds gRoundsType Tryz.underlying209 Tryz.underlying168 cellsU32 cellsA64 (laid_tail h)
def layCells (l : List Value) : Obj → Obj
  | .cells _ t frozen => .cells l.toArray t frozen
  | o => o
/-- a world for the witness: the settled one, its two tables laid -/
noncomputable def laidWorld (os : Os) : World :=
  { World.holding Tryz.prog os ⟨#[], #[], []⟩ with heap := ((World.holding Tryz.prog os ⟨#[], #[], []⟩).heap.modify 0 (layCells (beginInts.map fun z => Value.int .u32 z))).modify 1 (layCells (roundsInts.map fun z => Value.int .u32 z)) }
end Go.Proofs.YtlpcjiollnnmgabGreatDoor
