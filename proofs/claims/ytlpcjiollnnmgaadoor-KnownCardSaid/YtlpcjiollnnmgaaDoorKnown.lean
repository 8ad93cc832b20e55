/-
  PROVED: the tied card of compactkeep.Known: errors of both (closed). Conditions: the two tables as the program's text lays them.
-/
import Derived.Test.YtlpcjiollnnmgaaDoorBlk
import Derived.Test.YtlpcjiollnnmgaaDoorEnc
import Derived.Test.YtlpcjiollnnmgaaDoorEncC
import Derived.Test.YtlpcjiollnnmgaaDoorEnd2
import Derived.Test.YtlpcjiollnnmgaaDoorLaid
set_option maxRecDepth 100000
namespace Go.Proofs.YtlpcjiollnnmgaaDoor
open Nums
namespace Kn
def ts : List (List UInt8) := [Keeps.tx 1, Keeps.tx 2, Keeps.tx 3]
def B : List UInt8 := Keeps.blk ts 4
def ls : List (List Int) := [[], [1], [0, 0], [0, 2, 1], [3], [0, -1], [1, 3], [0, 2], [0, 1, 2]]
def es : List Nat := [11, 11, 11, 11, 4, 4, 4, 0, 0]
def okTx (t : List UInt8) : Bool := decide (t.length ≤ 610) && match Wr.readTx t with
  | .ok a _ => a == t
  | .bad _ => false
def nm : List UInt8 := Sha.sum (Sha.sum (B.take 80))
def rs : List (List UInt8) := [nm ++ [1, 0], nm ++ [1, 2], nm ++ [3, 0, 0, 0], nm ++ [1, 3], nm ++ [1, 16], nm ++ [0], nm ++ [1], nm ++ [1, 0, 0], nm.tail ++ [120, 1, 0], nm.tail ++ [120, 1, 3], nm.tail ++ [120, 1, 16], nm ++ [17]]
def fs : List Nat := [0, 0, 0, 4, 4, 3, 1, 5, 6, 6, 4, 3]
def right (p : List UInt8 × Nat) (e : Nat) : Bool := p.2 == e && (p.1.isEmpty == (p.2 != 0))
theorem txs_ok : ts.all okTx = true := by decide +kernel
theorem twins : (Mk.root (Keeps.ids ts) false).2 = false := by decide +kernel
theorem B_len : B.length ≤ 2000 ∧ 100 ≤ B.length := by decide +kernel
theorem enc_ok : (List.range 9).all (fun i => right (En.encode B 9223372036854775808 (ls.getD i [])) (es.getD i 0)) = true := by decide +kernel
theorem encx : (En.encode (B ++ [120]) 0 [9]).2 = 5 := by decide +kernel
theorem srv_ok : (List.range 12).all (fun i => right (En.serve B (rs.getD i [])) (fs.getD i 0)) = true := by decide +kernel
theorem srvx : (En.serve (B.take 100) nm).2 = 1 := by decide +kernel
end Kn
end Go.Proofs.YtlpcjiollnnmgaaDoor
namespace Go.Proofs.YtlpcjiollnnmgaaDoor.known
open Nums
open Go.RowKit
theorem ints_row {w : World} {g n : Nat} {zs : List Int} (hr : Row w g (zs.map (.int .i64))) (hn : zs.length = n) : IntsAt w (.slice (some ⟨g, 0, none⟩) n n) zs := by
  subst hn
  refine .inr ⟨g, 0, _, rfl, hr.lt, fun j hj => ?_⟩
  rw [Nat.zero_add, hr.cell, List.getElem?_map, List.getD_eq_getElem?_getD, List.getElem?_eq_getElem hj]; rfl
set_option maxHeartbeats 4000000 in
theorem lay (w : World) : Row (((((((((w.alloc (.cells #[.int .i64 1] 3)).alloc (.cells #[.int .i64 0, .int .i64 0] 3)).alloc (.cells #[.int .i64 0, .int .i64 2, .int .i64 1] 3)).alloc (.cells #[.int .i64 3] 3)).alloc (.cells #[.int .i64 0, .int .i64 (-1)] 3)).alloc (.cells #[.int .i64 1, .int .i64 3] 3)).alloc (.cells #[.int .i64 0, .int .i64 2] 3)).alloc (.cells #[.int .i64 0, .int .i64 1, .int .i64 2] 3)).alloc (.cells #[.slice none 0 0, .int .i64 11, .slice (some ⟨w.heap.size, 0, none⟩) 1 1, .int .i64 11, .slice (some ⟨w.heap.size + 1, 0, none⟩) 2 2, .int .i64 11, .slice (some ⟨w.heap.size + 1 + 1, 0, none⟩) 3 3, .int .i64 11, .slice (some ⟨w.heap.size + 1 + 1 + 1, 0, none⟩) 1 1, .int .i64 4, .slice (some ⟨w.heap.size + 1 + 1 + 1 + 1, 0, none⟩) 2 2, .int .i64 4, .slice (some ⟨w.heap.size + 1 + 1 + 1 + 1 + 1, 0, none⟩) 2 2, .int .i64 4, .slice (some ⟨w.heap.size + 1 + 1 + 1 + 1 + 1 + 1, 0, none⟩) 2 2, .int .i64 0, .slice (some ⟨w.heap.size + 1 + 1 + 1 + 1 + 1 + 1 + 1, 0, none⟩) 3 3, .int .i64 0] 51)) (w.heap.size + 1 + 1 + 1 + 1 + 1 + 1 + 1 + 1) [.slice none 0 0, .int .i64 11, .slice (some ⟨w.heap.size, 0, none⟩) 1 1, .int .i64 11, .slice (some ⟨w.heap.size + 1, 0, none⟩) 2 2, .int .i64 11, .slice (some ⟨w.heap.size + 1 + 1, 0, none⟩) 3 3, .int .i64 11, .slice (some ⟨w.heap.size + 1 + 1 + 1, 0, none⟩) 1 1, .int .i64 4, .slice (some ⟨w.heap.size + 1 + 1 + 1 + 1, 0, none⟩) 2 2, .int .i64 4, .slice (some ⟨w.heap.size + 1 + 1 + 1 + 1 + 1, 0, none⟩) 2 2, .int .i64 4, .slice (some ⟨w.heap.size + 1 + 1 + 1 + 1 + 1 + 1, 0, none⟩) 2 2, .int .i64 0, .slice (some ⟨w.heap.size + 1 + 1 + 1 + 1 + 1 + 1 + 1, 0, none⟩) 3 3, .int .i64 0] ∧ (∀ i, i < 9 → IntsAt (((((((((w.alloc (.cells #[.int .i64 1] 3)).alloc (.cells #[.int .i64 0, .int .i64 0] 3)).alloc (.cells #[.int .i64 0, .int .i64 2, .int .i64 1] 3)).alloc (.cells #[.int .i64 3] 3)).alloc (.cells #[.int .i64 0, .int .i64 (-1)] 3)).alloc (.cells #[.int .i64 1, .int .i64 3] 3)).alloc (.cells #[.int .i64 0, .int .i64 2] 3)).alloc (.cells #[.int .i64 0, .int .i64 1, .int .i64 2] 3)).alloc (.cells #[.slice none 0 0, .int .i64 11, .slice (some ⟨w.heap.size, 0, none⟩) 1 1, .int .i64 11, .slice (some ⟨w.heap.size + 1, 0, none⟩) 2 2, .int .i64 11, .slice (some ⟨w.heap.size + 1 + 1, 0, none⟩) 3 3, .int .i64 11, .slice (some ⟨w.heap.size + 1 + 1 + 1, 0, none⟩) 1 1, .int .i64 4, .slice (some ⟨w.heap.size + 1 + 1 + 1 + 1, 0, none⟩) 2 2, .int .i64 4, .slice (some ⟨w.heap.size + 1 + 1 + 1 + 1 + 1, 0, none⟩) 2 2, .int .i64 4, .slice (some ⟨w.heap.size + 1 + 1 + 1 + 1 + 1 + 1, 0, none⟩) 2 2, .int .i64 0, .slice (some ⟨w.heap.size + 1 + 1 + 1 + 1 + 1 + 1 + 1, 0, none⟩) 3 3, .int .i64 0] 51)) ([.slice none 0 0, .int .i64 11, .slice (some ⟨w.heap.size, 0, none⟩) 1 1, .int .i64 11, .slice (some ⟨w.heap.size + 1, 0, none⟩) 2 2, .int .i64 11, .slice (some ⟨w.heap.size + 1 + 1, 0, none⟩) 3 3, .int .i64 11, .slice (some ⟨w.heap.size + 1 + 1 + 1, 0, none⟩) 1 1, .int .i64 4, .slice (some ⟨w.heap.size + 1 + 1 + 1 + 1, 0, none⟩) 2 2, .int .i64 4, .slice (some ⟨w.heap.size + 1 + 1 + 1 + 1 + 1, 0, none⟩) 2 2, .int .i64 4, .slice (some ⟨w.heap.size + 1 + 1 + 1 + 1 + 1 + 1, 0, none⟩) 2 2, .int .i64 0, .slice (some ⟨w.heap.size + 1 + 1 + 1 + 1 + 1 + 1 + 1, 0, none⟩) 3 3, .int .i64 0].getD (2 * i) undef) (Kn.ls.getD i [])) ∧ Below w.heap.size w (((((((((w.alloc (.cells #[.int .i64 1] 3)).alloc (.cells #[.int .i64 0, .int .i64 0] 3)).alloc (.cells #[.int .i64 0, .int .i64 2, .int .i64 1] 3)).alloc (.cells #[.int .i64 3] 3)).alloc (.cells #[.int .i64 0, .int .i64 (-1)] 3)).alloc (.cells #[.int .i64 1, .int .i64 3] 3)).alloc (.cells #[.int .i64 0, .int .i64 2] 3)).alloc (.cells #[.int .i64 0, .int .i64 1, .int .i64 2] 3)).alloc (.cells #[.slice none 0 0, .int .i64 11, .slice (some ⟨w.heap.size, 0, none⟩) 1 1, .int .i64 11, .slice (some ⟨w.heap.size + 1, 0, none⟩) 2 2, .int .i64 11, .slice (some ⟨w.heap.size + 1 + 1, 0, none⟩) 3 3, .int .i64 11, .slice (some ⟨w.heap.size + 1 + 1 + 1, 0, none⟩) 1 1, .int .i64 4, .slice (some ⟨w.heap.size + 1 + 1 + 1 + 1, 0, none⟩) 2 2, .int .i64 4, .slice (some ⟨w.heap.size + 1 + 1 + 1 + 1 + 1, 0, none⟩) 2 2, .int .i64 4, .slice (some ⟨w.heap.size + 1 + 1 + 1 + 1 + 1 + 1, 0, none⟩) 2 2, .int .i64 0, .slice (some ⟨w.heap.size + 1 + 1 + 1 + 1 + 1 + 1 + 1, 0, none⟩) 3 3, .int .i64 0] 51)) := by
  have S1 : (w.alloc (.cells #[.int .i64 1] 3)).heap.size = w.heap.size + 1 := by simp
  have S2 : ((w.alloc (.cells #[.int .i64 1] 3)).alloc (.cells #[.int .i64 0, .int .i64 0] 3)).heap.size = w.heap.size + 1 + 1 := by simp
  have S3 : (((w.alloc (.cells #[.int .i64 1] 3)).alloc (.cells #[.int .i64 0, .int .i64 0] 3)).alloc (.cells #[.int .i64 0, .int .i64 2, .int .i64 1] 3)).heap.size = w.heap.size + 1 + 1 + 1 := by simp
  have S4 : ((((w.alloc (.cells #[.int .i64 1] 3)).alloc (.cells #[.int .i64 0, .int .i64 0] 3)).alloc (.cells #[.int .i64 0, .int .i64 2, .int .i64 1] 3)).alloc (.cells #[.int .i64 3] 3)).heap.size = w.heap.size + 1 + 1 + 1 + 1 := by simp
  have S5 : (((((w.alloc (.cells #[.int .i64 1] 3)).alloc (.cells #[.int .i64 0, .int .i64 0] 3)).alloc (.cells #[.int .i64 0, .int .i64 2, .int .i64 1] 3)).alloc (.cells #[.int .i64 3] 3)).alloc (.cells #[.int .i64 0, .int .i64 (-1)] 3)).heap.size = w.heap.size + 1 + 1 + 1 + 1 + 1 := by simp
  have S6 : ((((((w.alloc (.cells #[.int .i64 1] 3)).alloc (.cells #[.int .i64 0, .int .i64 0] 3)).alloc (.cells #[.int .i64 0, .int .i64 2, .int .i64 1] 3)).alloc (.cells #[.int .i64 3] 3)).alloc (.cells #[.int .i64 0, .int .i64 (-1)] 3)).alloc (.cells #[.int .i64 1, .int .i64 3] 3)).heap.size = w.heap.size + 1 + 1 + 1 + 1 + 1 + 1 := by simp
  have S7 : (((((((w.alloc (.cells #[.int .i64 1] 3)).alloc (.cells #[.int .i64 0, .int .i64 0] 3)).alloc (.cells #[.int .i64 0, .int .i64 2, .int .i64 1] 3)).alloc (.cells #[.int .i64 3] 3)).alloc (.cells #[.int .i64 0, .int .i64 (-1)] 3)).alloc (.cells #[.int .i64 1, .int .i64 3] 3)).alloc (.cells #[.int .i64 0, .int .i64 2] 3)).heap.size = w.heap.size + 1 + 1 + 1 + 1 + 1 + 1 + 1 := by simp
  have S8 : ((((((((w.alloc (.cells #[.int .i64 1] 3)).alloc (.cells #[.int .i64 0, .int .i64 0] 3)).alloc (.cells #[.int .i64 0, .int .i64 2, .int .i64 1] 3)).alloc (.cells #[.int .i64 3] 3)).alloc (.cells #[.int .i64 0, .int .i64 (-1)] 3)).alloc (.cells #[.int .i64 1, .int .i64 3] 3)).alloc (.cells #[.int .i64 0, .int .i64 2] 3)).alloc (.cells #[.int .i64 0, .int .i64 1, .int .i64 2] 3)).heap.size = w.heap.size + 1 + 1 + 1 + 1 + 1 + 1 + 1 + 1 := by simp
  have N1 : Row (w.alloc (.cells #[.int .i64 1] 3)) (w.heap.size) [.int .i64 1] := by
    have h := Row.new w [.int .i64 1] 3
    exact h
  have N2 : Row ((w.alloc (.cells #[.int .i64 1] 3)).alloc (.cells #[.int .i64 0, .int .i64 0] 3)) (w.heap.size + 1) [.int .i64 0, .int .i64 0] := by
    have h := Row.new (w.alloc (.cells #[.int .i64 1] 3)) [.int .i64 0, .int .i64 0] 3
    rwa [S1] at h
  have N3 : Row (((w.alloc (.cells #[.int .i64 1] 3)).alloc (.cells #[.int .i64 0, .int .i64 0] 3)).alloc (.cells #[.int .i64 0, .int .i64 2, .int .i64 1] 3)) (w.heap.size + 1 + 1) [.int .i64 0, .int .i64 2, .int .i64 1] := by
    have h := Row.new ((w.alloc (.cells #[.int .i64 1] 3)).alloc (.cells #[.int .i64 0, .int .i64 0] 3)) [.int .i64 0, .int .i64 2, .int .i64 1] 3
    rwa [S2] at h
  have N4 : Row ((((w.alloc (.cells #[.int .i64 1] 3)).alloc (.cells #[.int .i64 0, .int .i64 0] 3)).alloc (.cells #[.int .i64 0, .int .i64 2, .int .i64 1] 3)).alloc (.cells #[.int .i64 3] 3)) (w.heap.size + 1 + 1 + 1) [.int .i64 3] := by
    have h := Row.new (((w.alloc (.cells #[.int .i64 1] 3)).alloc (.cells #[.int .i64 0, .int .i64 0] 3)).alloc (.cells #[.int .i64 0, .int .i64 2, .int .i64 1] 3)) [.int .i64 3] 3
    rwa [S3] at h
  have N5 : Row (((((w.alloc (.cells #[.int .i64 1] 3)).alloc (.cells #[.int .i64 0, .int .i64 0] 3)).alloc (.cells #[.int .i64 0, .int .i64 2, .int .i64 1] 3)).alloc (.cells #[.int .i64 3] 3)).alloc (.cells #[.int .i64 0, .int .i64 (-1)] 3)) (w.heap.size + 1 + 1 + 1 + 1) [.int .i64 0, .int .i64 (-1)] := by
    have h := Row.new ((((w.alloc (.cells #[.int .i64 1] 3)).alloc (.cells #[.int .i64 0, .int .i64 0] 3)).alloc (.cells #[.int .i64 0, .int .i64 2, .int .i64 1] 3)).alloc (.cells #[.int .i64 3] 3)) [.int .i64 0, .int .i64 (-1)] 3
    rwa [S4] at h
  have N6 : Row ((((((w.alloc (.cells #[.int .i64 1] 3)).alloc (.cells #[.int .i64 0, .int .i64 0] 3)).alloc (.cells #[.int .i64 0, .int .i64 2, .int .i64 1] 3)).alloc (.cells #[.int .i64 3] 3)).alloc (.cells #[.int .i64 0, .int .i64 (-1)] 3)).alloc (.cells #[.int .i64 1, .int .i64 3] 3)) (w.heap.size + 1 + 1 + 1 + 1 + 1) [.int .i64 1, .int .i64 3] := by
    have h := Row.new (((((w.alloc (.cells #[.int .i64 1] 3)).alloc (.cells #[.int .i64 0, .int .i64 0] 3)).alloc (.cells #[.int .i64 0, .int .i64 2, .int .i64 1] 3)).alloc (.cells #[.int .i64 3] 3)).alloc (.cells #[.int .i64 0, .int .i64 (-1)] 3)) [.int .i64 1, .int .i64 3] 3
    rwa [S5] at h
  have N7 : Row (((((((w.alloc (.cells #[.int .i64 1] 3)).alloc (.cells #[.int .i64 0, .int .i64 0] 3)).alloc (.cells #[.int .i64 0, .int .i64 2, .int .i64 1] 3)).alloc (.cells #[.int .i64 3] 3)).alloc (.cells #[.int .i64 0, .int .i64 (-1)] 3)).alloc (.cells #[.int .i64 1, .int .i64 3] 3)).alloc (.cells #[.int .i64 0, .int .i64 2] 3)) (w.heap.size + 1 + 1 + 1 + 1 + 1 + 1) [.int .i64 0, .int .i64 2] := by
    have h := Row.new ((((((w.alloc (.cells #[.int .i64 1] 3)).alloc (.cells #[.int .i64 0, .int .i64 0] 3)).alloc (.cells #[.int .i64 0, .int .i64 2, .int .i64 1] 3)).alloc (.cells #[.int .i64 3] 3)).alloc (.cells #[.int .i64 0, .int .i64 (-1)] 3)).alloc (.cells #[.int .i64 1, .int .i64 3] 3)) [.int .i64 0, .int .i64 2] 3
    rwa [S6] at h
  have N8 : Row ((((((((w.alloc (.cells #[.int .i64 1] 3)).alloc (.cells #[.int .i64 0, .int .i64 0] 3)).alloc (.cells #[.int .i64 0, .int .i64 2, .int .i64 1] 3)).alloc (.cells #[.int .i64 3] 3)).alloc (.cells #[.int .i64 0, .int .i64 (-1)] 3)).alloc (.cells #[.int .i64 1, .int .i64 3] 3)).alloc (.cells #[.int .i64 0, .int .i64 2] 3)).alloc (.cells #[.int .i64 0, .int .i64 1, .int .i64 2] 3)) (w.heap.size + 1 + 1 + 1 + 1 + 1 + 1 + 1) [.int .i64 0, .int .i64 1, .int .i64 2] := by
    have h := Row.new (((((((w.alloc (.cells #[.int .i64 1] 3)).alloc (.cells #[.int .i64 0, .int .i64 0] 3)).alloc (.cells #[.int .i64 0, .int .i64 2, .int .i64 1] 3)).alloc (.cells #[.int .i64 3] 3)).alloc (.cells #[.int .i64 0, .int .i64 (-1)] 3)).alloc (.cells #[.int .i64 1, .int .i64 3] 3)).alloc (.cells #[.int .i64 0, .int .i64 2] 3)) [.int .i64 0, .int .i64 1, .int .i64 2] 3
    rwa [S7] at h
  have R1 : Row (((((((((w.alloc (.cells #[.int .i64 1] 3)).alloc (.cells #[.int .i64 0, .int .i64 0] 3)).alloc (.cells #[.int .i64 0, .int .i64 2, .int .i64 1] 3)).alloc (.cells #[.int .i64 3] 3)).alloc (.cells #[.int .i64 0, .int .i64 (-1)] 3)).alloc (.cells #[.int .i64 1, .int .i64 3] 3)).alloc (.cells #[.int .i64 0, .int .i64 2] 3)).alloc (.cells #[.int .i64 0, .int .i64 1, .int .i64 2] 3)).alloc (.cells #[.slice none 0 0, .int .i64 11, .slice (some ⟨w.heap.size, 0, none⟩) 1 1, .int .i64 11, .slice (some ⟨w.heap.size + 1, 0, none⟩) 2 2, .int .i64 11, .slice (some ⟨w.heap.size + 1 + 1, 0, none⟩) 3 3, .int .i64 11, .slice (some ⟨w.heap.size + 1 + 1 + 1, 0, none⟩) 1 1, .int .i64 4, .slice (some ⟨w.heap.size + 1 + 1 + 1 + 1, 0, none⟩) 2 2, .int .i64 4, .slice (some ⟨w.heap.size + 1 + 1 + 1 + 1 + 1, 0, none⟩) 2 2, .int .i64 4, .slice (some ⟨w.heap.size + 1 + 1 + 1 + 1 + 1 + 1, 0, none⟩) 2 2, .int .i64 0, .slice (some ⟨w.heap.size + 1 + 1 + 1 + 1 + 1 + 1 + 1, 0, none⟩) 3 3, .int .i64 0] 51)) (w.heap.size) [.int .i64 1] := ((((((((N1.alloc _).alloc _).alloc _).alloc _).alloc _).alloc _).alloc _).alloc _)
  have R2 : Row (((((((((w.alloc (.cells #[.int .i64 1] 3)).alloc (.cells #[.int .i64 0, .int .i64 0] 3)).alloc (.cells #[.int .i64 0, .int .i64 2, .int .i64 1] 3)).alloc (.cells #[.int .i64 3] 3)).alloc (.cells #[.int .i64 0, .int .i64 (-1)] 3)).alloc (.cells #[.int .i64 1, .int .i64 3] 3)).alloc (.cells #[.int .i64 0, .int .i64 2] 3)).alloc (.cells #[.int .i64 0, .int .i64 1, .int .i64 2] 3)).alloc (.cells #[.slice none 0 0, .int .i64 11, .slice (some ⟨w.heap.size, 0, none⟩) 1 1, .int .i64 11, .slice (some ⟨w.heap.size + 1, 0, none⟩) 2 2, .int .i64 11, .slice (some ⟨w.heap.size + 1 + 1, 0, none⟩) 3 3, .int .i64 11, .slice (some ⟨w.heap.size + 1 + 1 + 1, 0, none⟩) 1 1, .int .i64 4, .slice (some ⟨w.heap.size + 1 + 1 + 1 + 1, 0, none⟩) 2 2, .int .i64 4, .slice (some ⟨w.heap.size + 1 + 1 + 1 + 1 + 1, 0, none⟩) 2 2, .int .i64 4, .slice (some ⟨w.heap.size + 1 + 1 + 1 + 1 + 1 + 1, 0, none⟩) 2 2, .int .i64 0, .slice (some ⟨w.heap.size + 1 + 1 + 1 + 1 + 1 + 1 + 1, 0, none⟩) 3 3, .int .i64 0] 51)) (w.heap.size + 1) [.int .i64 0, .int .i64 0] := (((((((N2.alloc _).alloc _).alloc _).alloc _).alloc _).alloc _).alloc _)
  have R3 : Row (((((((((w.alloc (.cells #[.int .i64 1] 3)).alloc (.cells #[.int .i64 0, .int .i64 0] 3)).alloc (.cells #[.int .i64 0, .int .i64 2, .int .i64 1] 3)).alloc (.cells #[.int .i64 3] 3)).alloc (.cells #[.int .i64 0, .int .i64 (-1)] 3)).alloc (.cells #[.int .i64 1, .int .i64 3] 3)).alloc (.cells #[.int .i64 0, .int .i64 2] 3)).alloc (.cells #[.int .i64 0, .int .i64 1, .int .i64 2] 3)).alloc (.cells #[.slice none 0 0, .int .i64 11, .slice (some ⟨w.heap.size, 0, none⟩) 1 1, .int .i64 11, .slice (some ⟨w.heap.size + 1, 0, none⟩) 2 2, .int .i64 11, .slice (some ⟨w.heap.size + 1 + 1, 0, none⟩) 3 3, .int .i64 11, .slice (some ⟨w.heap.size + 1 + 1 + 1, 0, none⟩) 1 1, .int .i64 4, .slice (some ⟨w.heap.size + 1 + 1 + 1 + 1, 0, none⟩) 2 2, .int .i64 4, .slice (some ⟨w.heap.size + 1 + 1 + 1 + 1 + 1, 0, none⟩) 2 2, .int .i64 4, .slice (some ⟨w.heap.size + 1 + 1 + 1 + 1 + 1 + 1, 0, none⟩) 2 2, .int .i64 0, .slice (some ⟨w.heap.size + 1 + 1 + 1 + 1 + 1 + 1 + 1, 0, none⟩) 3 3, .int .i64 0] 51)) (w.heap.size + 1 + 1) [.int .i64 0, .int .i64 2, .int .i64 1] := ((((((N3.alloc _).alloc _).alloc _).alloc _).alloc _).alloc _)
  have R4 : Row (((((((((w.alloc (.cells #[.int .i64 1] 3)).alloc (.cells #[.int .i64 0, .int .i64 0] 3)).alloc (.cells #[.int .i64 0, .int .i64 2, .int .i64 1] 3)).alloc (.cells #[.int .i64 3] 3)).alloc (.cells #[.int .i64 0, .int .i64 (-1)] 3)).alloc (.cells #[.int .i64 1, .int .i64 3] 3)).alloc (.cells #[.int .i64 0, .int .i64 2] 3)).alloc (.cells #[.int .i64 0, .int .i64 1, .int .i64 2] 3)).alloc (.cells #[.slice none 0 0, .int .i64 11, .slice (some ⟨w.heap.size, 0, none⟩) 1 1, .int .i64 11, .slice (some ⟨w.heap.size + 1, 0, none⟩) 2 2, .int .i64 11, .slice (some ⟨w.heap.size + 1 + 1, 0, none⟩) 3 3, .int .i64 11, .slice (some ⟨w.heap.size + 1 + 1 + 1, 0, none⟩) 1 1, .int .i64 4, .slice (some ⟨w.heap.size + 1 + 1 + 1 + 1, 0, none⟩) 2 2, .int .i64 4, .slice (some ⟨w.heap.size + 1 + 1 + 1 + 1 + 1, 0, none⟩) 2 2, .int .i64 4, .slice (some ⟨w.heap.size + 1 + 1 + 1 + 1 + 1 + 1, 0, none⟩) 2 2, .int .i64 0, .slice (some ⟨w.heap.size + 1 + 1 + 1 + 1 + 1 + 1 + 1, 0, none⟩) 3 3, .int .i64 0] 51)) (w.heap.size + 1 + 1 + 1) [.int .i64 3] := (((((N4.alloc _).alloc _).alloc _).alloc _).alloc _)
  have R5 : Row (((((((((w.alloc (.cells #[.int .i64 1] 3)).alloc (.cells #[.int .i64 0, .int .i64 0] 3)).alloc (.cells #[.int .i64 0, .int .i64 2, .int .i64 1] 3)).alloc (.cells #[.int .i64 3] 3)).alloc (.cells #[.int .i64 0, .int .i64 (-1)] 3)).alloc (.cells #[.int .i64 1, .int .i64 3] 3)).alloc (.cells #[.int .i64 0, .int .i64 2] 3)).alloc (.cells #[.int .i64 0, .int .i64 1, .int .i64 2] 3)).alloc (.cells #[.slice none 0 0, .int .i64 11, .slice (some ⟨w.heap.size, 0, none⟩) 1 1, .int .i64 11, .slice (some ⟨w.heap.size + 1, 0, none⟩) 2 2, .int .i64 11, .slice (some ⟨w.heap.size + 1 + 1, 0, none⟩) 3 3, .int .i64 11, .slice (some ⟨w.heap.size + 1 + 1 + 1, 0, none⟩) 1 1, .int .i64 4, .slice (some ⟨w.heap.size + 1 + 1 + 1 + 1, 0, none⟩) 2 2, .int .i64 4, .slice (some ⟨w.heap.size + 1 + 1 + 1 + 1 + 1, 0, none⟩) 2 2, .int .i64 4, .slice (some ⟨w.heap.size + 1 + 1 + 1 + 1 + 1 + 1, 0, none⟩) 2 2, .int .i64 0, .slice (some ⟨w.heap.size + 1 + 1 + 1 + 1 + 1 + 1 + 1, 0, none⟩) 3 3, .int .i64 0] 51)) (w.heap.size + 1 + 1 + 1 + 1) [.int .i64 0, .int .i64 (-1)] := ((((N5.alloc _).alloc _).alloc _).alloc _)
  have R6 : Row (((((((((w.alloc (.cells #[.int .i64 1] 3)).alloc (.cells #[.int .i64 0, .int .i64 0] 3)).alloc (.cells #[.int .i64 0, .int .i64 2, .int .i64 1] 3)).alloc (.cells #[.int .i64 3] 3)).alloc (.cells #[.int .i64 0, .int .i64 (-1)] 3)).alloc (.cells #[.int .i64 1, .int .i64 3] 3)).alloc (.cells #[.int .i64 0, .int .i64 2] 3)).alloc (.cells #[.int .i64 0, .int .i64 1, .int .i64 2] 3)).alloc (.cells #[.slice none 0 0, .int .i64 11, .slice (some ⟨w.heap.size, 0, none⟩) 1 1, .int .i64 11, .slice (some ⟨w.heap.size + 1, 0, none⟩) 2 2, .int .i64 11, .slice (some ⟨w.heap.size + 1 + 1, 0, none⟩) 3 3, .int .i64 11, .slice (some ⟨w.heap.size + 1 + 1 + 1, 0, none⟩) 1 1, .int .i64 4, .slice (some ⟨w.heap.size + 1 + 1 + 1 + 1, 0, none⟩) 2 2, .int .i64 4, .slice (some ⟨w.heap.size + 1 + 1 + 1 + 1 + 1, 0, none⟩) 2 2, .int .i64 4, .slice (some ⟨w.heap.size + 1 + 1 + 1 + 1 + 1 + 1, 0, none⟩) 2 2, .int .i64 0, .slice (some ⟨w.heap.size + 1 + 1 + 1 + 1 + 1 + 1 + 1, 0, none⟩) 3 3, .int .i64 0] 51)) (w.heap.size + 1 + 1 + 1 + 1 + 1) [.int .i64 1, .int .i64 3] := (((N6.alloc _).alloc _).alloc _)
  have R7 : Row (((((((((w.alloc (.cells #[.int .i64 1] 3)).alloc (.cells #[.int .i64 0, .int .i64 0] 3)).alloc (.cells #[.int .i64 0, .int .i64 2, .int .i64 1] 3)).alloc (.cells #[.int .i64 3] 3)).alloc (.cells #[.int .i64 0, .int .i64 (-1)] 3)).alloc (.cells #[.int .i64 1, .int .i64 3] 3)).alloc (.cells #[.int .i64 0, .int .i64 2] 3)).alloc (.cells #[.int .i64 0, .int .i64 1, .int .i64 2] 3)).alloc (.cells #[.slice none 0 0, .int .i64 11, .slice (some ⟨w.heap.size, 0, none⟩) 1 1, .int .i64 11, .slice (some ⟨w.heap.size + 1, 0, none⟩) 2 2, .int .i64 11, .slice (some ⟨w.heap.size + 1 + 1, 0, none⟩) 3 3, .int .i64 11, .slice (some ⟨w.heap.size + 1 + 1 + 1, 0, none⟩) 1 1, .int .i64 4, .slice (some ⟨w.heap.size + 1 + 1 + 1 + 1, 0, none⟩) 2 2, .int .i64 4, .slice (some ⟨w.heap.size + 1 + 1 + 1 + 1 + 1, 0, none⟩) 2 2, .int .i64 4, .slice (some ⟨w.heap.size + 1 + 1 + 1 + 1 + 1 + 1, 0, none⟩) 2 2, .int .i64 0, .slice (some ⟨w.heap.size + 1 + 1 + 1 + 1 + 1 + 1 + 1, 0, none⟩) 3 3, .int .i64 0] 51)) (w.heap.size + 1 + 1 + 1 + 1 + 1 + 1) [.int .i64 0, .int .i64 2] := ((N7.alloc _).alloc _)
  have R8 : Row (((((((((w.alloc (.cells #[.int .i64 1] 3)).alloc (.cells #[.int .i64 0, .int .i64 0] 3)).alloc (.cells #[.int .i64 0, .int .i64 2, .int .i64 1] 3)).alloc (.cells #[.int .i64 3] 3)).alloc (.cells #[.int .i64 0, .int .i64 (-1)] 3)).alloc (.cells #[.int .i64 1, .int .i64 3] 3)).alloc (.cells #[.int .i64 0, .int .i64 2] 3)).alloc (.cells #[.int .i64 0, .int .i64 1, .int .i64 2] 3)).alloc (.cells #[.slice none 0 0, .int .i64 11, .slice (some ⟨w.heap.size, 0, none⟩) 1 1, .int .i64 11, .slice (some ⟨w.heap.size + 1, 0, none⟩) 2 2, .int .i64 11, .slice (some ⟨w.heap.size + 1 + 1, 0, none⟩) 3 3, .int .i64 11, .slice (some ⟨w.heap.size + 1 + 1 + 1, 0, none⟩) 1 1, .int .i64 4, .slice (some ⟨w.heap.size + 1 + 1 + 1 + 1, 0, none⟩) 2 2, .int .i64 4, .slice (some ⟨w.heap.size + 1 + 1 + 1 + 1 + 1, 0, none⟩) 2 2, .int .i64 4, .slice (some ⟨w.heap.size + 1 + 1 + 1 + 1 + 1 + 1, 0, none⟩) 2 2, .int .i64 0, .slice (some ⟨w.heap.size + 1 + 1 + 1 + 1 + 1 + 1 + 1, 0, none⟩) 3 3, .int .i64 0] 51)) (w.heap.size + 1 + 1 + 1 + 1 + 1 + 1 + 1) [.int .i64 0, .int .i64 1, .int .i64 2] := (N8.alloc _)
  refine ⟨?_, ?_, ?_⟩
  · have h := Row.new ((((((((w.alloc (.cells #[.int .i64 1] 3)).alloc (.cells #[.int .i64 0, .int .i64 0] 3)).alloc (.cells #[.int .i64 0, .int .i64 2, .int .i64 1] 3)).alloc (.cells #[.int .i64 3] 3)).alloc (.cells #[.int .i64 0, .int .i64 (-1)] 3)).alloc (.cells #[.int .i64 1, .int .i64 3] 3)).alloc (.cells #[.int .i64 0, .int .i64 2] 3)).alloc (.cells #[.int .i64 0, .int .i64 1, .int .i64 2] 3)) [.slice none 0 0, .int .i64 11, .slice (some ⟨w.heap.size, 0, none⟩) 1 1, .int .i64 11, .slice (some ⟨w.heap.size + 1, 0, none⟩) 2 2, .int .i64 11, .slice (some ⟨w.heap.size + 1 + 1, 0, none⟩) 3 3, .int .i64 11, .slice (some ⟨w.heap.size + 1 + 1 + 1, 0, none⟩) 1 1, .int .i64 4, .slice (some ⟨w.heap.size + 1 + 1 + 1 + 1, 0, none⟩) 2 2, .int .i64 4, .slice (some ⟨w.heap.size + 1 + 1 + 1 + 1 + 1, 0, none⟩) 2 2, .int .i64 4, .slice (some ⟨w.heap.size + 1 + 1 + 1 + 1 + 1 + 1, 0, none⟩) 2 2, .int .i64 0, .slice (some ⟨w.heap.size + 1 + 1 + 1 + 1 + 1 + 1 + 1, 0, none⟩) 3 3, .int .i64 0] 51
    rwa [S8] at h
  · intro i hi
    match i, hi with
    | 0, _ => exact .inl ⟨none, 0, rfl, rfl⟩
    | 1, _ => exact ints_row (zs := [1]) R1 rfl
    | 2, _ => exact ints_row (zs := [0, 0]) R2 rfl
    | 3, _ => exact ints_row (zs := [0, 2, 1]) R3 rfl
    | 4, _ => exact ints_row (zs := [3]) R4 rfl
    | 5, _ => exact ints_row (zs := [0, -1]) R5 rfl
    | 6, _ => exact ints_row (zs := [1, 3]) R6 rfl
    | 7, _ => exact ints_row (zs := [0, 2]) R7 rfl
    | 8, _ => exact ints_row (zs := [0, 1, 2]) R8 rfl
    | n + 9, h => omega
  · exact (((((((((Below.refl _ _).alloc (by simp; try omega) _).alloc (by simp; try omega) _).alloc (by simp; try omega) _).alloc (by simp; try omega) _).alloc (by simp; try omega) _).alloc (by simp; try omega) _).alloc (by simp; try omega) _).alloc (by simp; try omega) _).alloc (by simp; try omega) _
theorem tab (K : Nat) : ∀ i, i < 9 → ([.slice none 0 0, .int .i64 11, .slice (some ⟨K, 0, none⟩) 1 1, .int .i64 11, .slice (some ⟨K + 1, 0, none⟩) 2 2, .int .i64 11, .slice (some ⟨K + 1 + 1, 0, none⟩) 3 3, .int .i64 11, .slice (some ⟨K + 1 + 1 + 1, 0, none⟩) 1 1, .int .i64 4, .slice (some ⟨K + 1 + 1 + 1 + 1, 0, none⟩) 2 2, .int .i64 4, .slice (some ⟨K + 1 + 1 + 1 + 1 + 1, 0, none⟩) 2 2, .int .i64 4, .slice (some ⟨K + 1 + 1 + 1 + 1 + 1 + 1, 0, none⟩) 2 2, .int .i64 0, .slice (some ⟨K + 1 + 1 + 1 + 1 + 1 + 1 + 1, 0, none⟩) 3 3, .int .i64 0] : List Value)[2 * i]? = some (([.slice none 0 0, .int .i64 11, .slice (some ⟨K, 0, none⟩) 1 1, .int .i64 11, .slice (some ⟨K + 1, 0, none⟩) 2 2, .int .i64 11, .slice (some ⟨K + 1 + 1, 0, none⟩) 3 3, .int .i64 11, .slice (some ⟨K + 1 + 1 + 1, 0, none⟩) 1 1, .int .i64 4, .slice (some ⟨K + 1 + 1 + 1 + 1, 0, none⟩) 2 2, .int .i64 4, .slice (some ⟨K + 1 + 1 + 1 + 1 + 1, 0, none⟩) 2 2, .int .i64 4, .slice (some ⟨K + 1 + 1 + 1 + 1 + 1 + 1, 0, none⟩) 2 2, .int .i64 0, .slice (some ⟨K + 1 + 1 + 1 + 1 + 1 + 1 + 1, 0, none⟩) 3 3, .int .i64 0] : List Value).getD (2 * i) undef) ∧ ([.slice none 0 0, .int .i64 11, .slice (some ⟨K, 0, none⟩) 1 1, .int .i64 11, .slice (some ⟨K + 1, 0, none⟩) 2 2, .int .i64 11, .slice (some ⟨K + 1 + 1, 0, none⟩) 3 3, .int .i64 11, .slice (some ⟨K + 1 + 1 + 1, 0, none⟩) 1 1, .int .i64 4, .slice (some ⟨K + 1 + 1 + 1 + 1, 0, none⟩) 2 2, .int .i64 4, .slice (some ⟨K + 1 + 1 + 1 + 1 + 1, 0, none⟩) 2 2, .int .i64 4, .slice (some ⟨K + 1 + 1 + 1 + 1 + 1 + 1, 0, none⟩) 2 2, .int .i64 0, .slice (some ⟨K + 1 + 1 + 1 + 1 + 1 + 1 + 1, 0, none⟩) 3 3, .int .i64 0] : List Value)[2 * i + 1]? = some (.int .i64 ((Kn.es.getD i 0 : Nat) : Int)) := fun i hi => by
  match i, hi with
  | 0, _ => exact ⟨rfl, rfl⟩
  | 1, _ => exact ⟨rfl, rfl⟩
  | 2, _ => exact ⟨rfl, rfl⟩
  | 3, _ => exact ⟨rfl, rfl⟩
  | 4, _ => exact ⟨rfl, rfl⟩
  | 5, _ => exact ⟨rfl, rfl⟩
  | 6, _ => exact ⟨rfl, rfl⟩
  | 7, _ => exact ⟨rfl, rfl⟩
  | 8, _ => exact ⟨rfl, rfl⟩
  | n + 9, h => omega
end Go.Proofs.YtlpcjiollnnmgaaDoor.known
namespace Go.Proofs.YtlpcjiollnnmgaaDoor.known
open Nums
open Go.ChangeShapes Go.WideShapes Go.ChangeAt Go.RowKit
open Go.ChangeMaps (open_string shut_string)
theorem good_of {l : List (List UInt8)} (h : l.all Kn.okTx = true) : Keeps.Good l := fun t ht => by
  have := List.all_eq_true.1 h t ht
  unfold Kn.okTx at this
  simp only [Bool.and_eq_true, decide_eq_true_eq] at this
  refine ⟨this.1, ?_⟩
  have h2 := this.2
  cases hr : Wr.readTx t with
  | bad e => rw [hr] at h2; simp at h2
  | ok a r => rw [hr] at h2; simp at h2; subst h2; exact ⟨r, rfl⟩
theorem three {w : World} {g : Nat} {a b c : List UInt8} (hr : Row w g [.string (str a), .string (str b), .string (str c)]) (hg : g < w.heap.size) : Texts w (.slice (some ⟨g, 0, none⟩) 3 3) [a, b, c] :=
  .inr ⟨g, 0, 3, rfl, hg, fun j hj => by
    rw [Nat.zero_add, hr.cell]
    match j, hj with
    | 0, _ => rfl
    | 1, _ => rfl
    | 2, _ => rfl
    | n + 3, h => simp at h; omega⟩
theorem ls_small (i : Nat) (h : i < 9) : (Kn.ls.getD i []).length ≤ 3 ∧ ∀ j, j < (Kn.ls.getD i []).length → -9223372036854775808 ≤ (Kn.ls.getD i []).getD j 0 ∧ (Kn.ls.getD i []).getD j 0 ≤ 9223372036854775807 := by
  have h1 : (List.range 9).all (fun i => decide ((Kn.ls.getD i []).length ≤ 3) && (List.range 3).all fun j => decide (-9223372036854775808 ≤ (Kn.ls.getD i []).getD j 0) && decide ((Kn.ls.getD i []).getD j 0 ≤ 9223372036854775807)) = true := by decide +kernel
  have h2 := List.all_eq_true.1 h1 i (List.mem_range.2 h)
  simp only [Bool.and_eq_true, decide_eq_true_eq, List.all_eq_true, List.mem_range] at h2
  exact ⟨h2.1, fun j hj => h2.2 j (by have := h2.1; omega)⟩
theorem right_of {s : List UInt8} {n e : Nat} (h : Kn.right (s, n) e = true) : n = e ∧ (e = 0 → s ≠ []) ∧ (e ≠ 0 → s = []) := by
  unfold Kn.right at h
  simp only [Bool.and_eq_true, beq_iff_eq] at h
  obtain ⟨rfl, h2⟩ := h
  refine ⟨rfl, fun h => ?_, fun h => ?_⟩
  · subst h; intro hs; subst hs; simp at h2
  · cases s with
    | nil => rfl
    | cons x l => simp [h] at h2
theorem two_texts {w : World} {g : Nat} {a b : List UInt8} (hr : Row w g [.string (str a), .string (str b)]) : Texts w (.slice (some ⟨g, 0, none⟩) 2 2) [a, b] :=
  .inr ⟨g, 0, 2, rfl, hr.lt, fun j hj => by
    rw [Nat.zero_add, hr.cell]
    match j, hj with
    | 0, _ => rfl
    | 1, _ => rfl
    | n + 2, h => simp at h; omega⟩
def rsOf (nm : List UInt8) : List (List UInt8) := [nm ++ [1, 0], nm ++ [1, 2], nm ++ [3, 0, 0, 0], nm ++ [1, 3], nm ++ [1, 16], nm ++ [0], nm ++ [1], nm ++ [1, 0, 0], nm.tail ++ [120, 1, 0], nm.tail ++ [120, 1, 3], nm.tail ++ [120, 1, 16], nm ++ [17]]
theorem rsOf_len (nm : List UInt8) (h : nm.length = 32) (i : Nat) (hi : i < 12) : ((rsOf nm).getD i []).length ≤ 36 := by
  match i, hi with
  | 0, _ => simp [rsOf]; try omega
  | 1, _ => simp [rsOf]; try omega
  | 2, _ => simp [rsOf]; try omega
  | 3, _ => simp [rsOf]; try omega
  | 4, _ => simp [rsOf]; try omega
  | 5, _ => simp [rsOf]; try omega
  | 6, _ => simp [rsOf]; try omega
  | 7, _ => simp [rsOf]; try omega
  | 8, _ => simp [rsOf]; try omega
  | 9, _ => simp [rsOf]; try omega
  | 10, _ => simp [rsOf]; try omega
  | 11, _ => simp [rsOf]; try omega
  | n + 12, h => omega
theorem tab2 (nm : List UInt8) : ∀ i, i < 12 → ([.string (str (nm ++ [1, 0])), .int .i64 0, .string (str (nm ++ [1, 2])), .int .i64 0, .string (str (nm ++ [3, 0, 0, 0])), .int .i64 0, .string (str (nm ++ [1, 3])), .int .i64 4, .string (str (nm ++ [1, 16])), .int .i64 4, .string (str (nm ++ [0])), .int .i64 3, .string (str (nm ++ [1])), .int .i64 1, .string (str (nm ++ [1, 0, 0])), .int .i64 5, .string (str (nm.tail ++ [120, 1, 0])), .int .i64 6, .string (str (nm.tail ++ [120, 1, 3])), .int .i64 6, .string (str (nm.tail ++ [120, 1, 16])), .int .i64 4, .string (str (nm ++ [17])), .int .i64 3] : List Value)[2 * i]? = some (.string (str ((rsOf nm).getD i []))) ∧ ([.string (str (nm ++ [1, 0])), .int .i64 0, .string (str (nm ++ [1, 2])), .int .i64 0, .string (str (nm ++ [3, 0, 0, 0])), .int .i64 0, .string (str (nm ++ [1, 3])), .int .i64 4, .string (str (nm ++ [1, 16])), .int .i64 4, .string (str (nm ++ [0])), .int .i64 3, .string (str (nm ++ [1])), .int .i64 1, .string (str (nm ++ [1, 0, 0])), .int .i64 5, .string (str (nm.tail ++ [120, 1, 0])), .int .i64 6, .string (str (nm.tail ++ [120, 1, 3])), .int .i64 6, .string (str (nm.tail ++ [120, 1, 16])), .int .i64 4, .string (str (nm ++ [17])), .int .i64 3] : List Value)[2 * i + 1]? = some (.int .i64 ((Kn.fs.getD i 0 : Nat) : Int)) := fun i hi => by
  match i, hi with
  | 0, _ => exact ⟨rfl, rfl⟩
  | 1, _ => exact ⟨rfl, rfl⟩
  | 2, _ => exact ⟨rfl, rfl⟩
  | 3, _ => exact ⟨rfl, rfl⟩
  | 4, _ => exact ⟨rfl, rfl⟩
  | 5, _ => exact ⟨rfl, rfl⟩
  | 6, _ => exact ⟨rfl, rfl⟩
  | 7, _ => exact ⟨rfl, rfl⟩
  | 8, _ => exact ⟨rfl, rfl⟩
  | 9, _ => exact ⟨rfl, rfl⟩
  | 10, _ => exact ⟨rfl, rfl⟩
  | 11, _ => exact ⟨rfl, rfl⟩
  | n + 12, h => omega
set_option maxHeartbeats 8000000 in
theorem known_calls (w : World) (hT : Tabs w) :
    Calls Tryd.prog 10 #[] w fun e w' => e = .returned (.bool true) ∧ Below w.heap.size w w' := by
  have HT := Lib.hid hT
  have h1w := hT.lt
  clear hT
  have G := Lib.hid Kn.txs_ok
  have TW := Lib.hid Kn.twins
  have BL := Kn.B_len
  have EO := Lib.hid Kn.enc_ok
  have EX := Lib.hid Kn.encx
  have SO := Lib.hid Kn.srv_ok
  have SX := Lib.hid Kn.srvx
  have hts : Kn.ts = [Keeps.tx 1, Keeps.tx 2, Keeps.tx 3] := rfl
  have HB := Lib.hid (show Keeps.blk [Keeps.tx 1, Keeps.tx 2, Keeps.tx 3] 4 = Kn.B from rfl)
  have HN := Lib.hid (show Kn.nm = Sha.sum (Sha.sum (Kn.B.take 80)) from rfl)
  rw [hts] at G TW
  have T1 := Lib.hid (fun v => txgen_calls 1 v (by omega))
  have T2 := Lib.hid (fun v => txgen_calls 2 v (by omega))
  have T3 := Lib.hid (fun v => txgen_calls 3 v (by omega))
  generalize Keeps.tx 1 = t1 at T1 G TW HB
  generalize Keeps.tx 2 = t2 at T2 G TW HB
  generalize Keeps.tx 3 = t3 at T3 G TW HB
  clear hts
  go_enter Tryd.func10, Tryd.ntmps10
  go_wp2_with fail
  refine (T1.out _).mono ?_
  rintro e w1 ⟨rfl, hb1⟩
  go_wp2_with fail
  refine (T2.out _).mono ?_
  rintro e w2 ⟨rfl, hb2⟩
  go_wp2_with fail
  refine (T3.out _).mono ?_
  rintro e w3 ⟨rfl, hb3⟩
  have B3 := Lib.hid ((hb1.trans (hb2.mono hb1.size)).trans (hb3.mono (Nat.le_trans hb1.size hb2.size)))
  clear hb1 hb2 hb3 T1 T2 T3
  go_wp2_with fail
  have R4 := Row.new w3 [.string (str t1), .string (str t2), .string (str t3)] 9
  have B4 := Lib.hid (B3.out.alloc B3.out.size (.cells #[.string (str t1), .string (str t2), .string (str t3)] 9))
  have X4 := Lib.hid (three R4 R4.lt)
  clear R4
  generalize w3.alloc (.cells #[.string (str t1), .string (str t2), .string (str t3)] 9) = w4 at B4 X4 ⊢
  have T4 := Lib.hid (kblock_calls [t1, t2, t3] (.slice (some ⟨w3.heap.size, 0, none⟩) 3 3) 4 w4 (HT.out.below B4.out h1w) X4.out (good_of G.out) (by simp) (by simp))
  rw [HB.out, TW.out] at T4
  refine T4.out.mono ?_
  clear T4 X4 G TW HB
  rintro e w5 ⟨iv, rfl, _, hb5⟩
  have B5 := Lib.hid (B4.out.trans (hb5.mono B4.out.size))
  clear hb5 B4 B3
  obtain ⟨b, hb⟩ : ∃ b, Kn.B = b := ⟨_, rfl⟩
  rw [hb] at EO EX SO SX HN BL ⊢
  clear hb
  go_upto_region 4 with fail
  go_wp2_with fail
  have L := lay w5
  generalize (((((((((w5.alloc (.cells #[.int .i64 1] 3)).alloc (.cells #[.int .i64 0, .int .i64 0] 3)).alloc (.cells #[.int .i64 0, .int .i64 2, .int .i64 1] 3)).alloc (.cells #[.int .i64 3] 3)).alloc (.cells #[.int .i64 0, .int .i64 (-1)] 3)).alloc (.cells #[.int .i64 1, .int .i64 3] 3)).alloc (.cells #[.int .i64 0, .int .i64 2] 3)).alloc (.cells #[.int .i64 0, .int .i64 1, .int .i64 2] 3)).alloc (.cells #[.slice none 0 0, .int .i64 11, .slice (some ⟨w5.heap.size, 0, none⟩) 1 1, .int .i64 11, .slice (some ⟨w5.heap.size + 1, 0, none⟩) 2 2, .int .i64 11, .slice (some ⟨w5.heap.size + 1 + 1, 0, none⟩) 3 3, .int .i64 11, .slice (some ⟨w5.heap.size + 1 + 1 + 1, 0, none⟩) 1 1, .int .i64 4, .slice (some ⟨w5.heap.size + 1 + 1 + 1 + 1, 0, none⟩) 2 2, .int .i64 4, .slice (some ⟨w5.heap.size + 1 + 1 + 1 + 1 + 1, 0, none⟩) 2 2, .int .i64 4, .slice (some ⟨w5.heap.size + 1 + 1 + 1 + 1 + 1 + 1, 0, none⟩) 2 2, .int .i64 0, .slice (some ⟨w5.heap.size + 1 + 1 + 1 + 1 + 1 + 1 + 1, 0, none⟩) 3 3, .int .i64 0] 51)) = w6 at L ⊢
  obtain ⟨K, hK⟩ : ∃ K, w5.heap.size = K := ⟨_, rfl⟩
  have hwK := B5.out.size
  rw [hK] at L hwK ⊢
  have B6 := Lib.hid (B5.out.trans (L.2.2.mono (hK ▸ B5.out.size)))
  have RT := L.1
  have IA := L.2.1
  have TA := tab K
  have hz6 := L.1.lt
  clear L B5 hK
  obtain ⟨T, hT⟩ : ∃ T, K + 1 + 1 + 1 + 1 + 1 + 1 + 1 + 1 = T := ⟨_, rfl⟩
  rw [hT] at RT hz6 ⊢
  clear hT
  generalize ([.slice none 0 0, .int .i64 11, .slice (some ⟨K, 0, none⟩) 1 1, .int .i64 11, .slice (some ⟨K + 1, 0, none⟩) 2 2, .int .i64 11, .slice (some ⟨K + 1 + 1, 0, none⟩) 3 3, .int .i64 11, .slice (some ⟨K + 1 + 1 + 1, 0, none⟩) 1 1, .int .i64 4, .slice (some ⟨K + 1 + 1 + 1 + 1, 0, none⟩) 2 2, .int .i64 4, .slice (some ⟨K + 1 + 1 + 1 + 1 + 1, 0, none⟩) 2 2, .int .i64 4, .slice (some ⟨K + 1 + 1 + 1 + 1 + 1 + 1, 0, none⟩) 2 2, .int .i64 0, .slice (some ⟨K + 1 + 1 + 1 + 1 + 1 + 1 + 1, 0, none⟩) 3 3, .int .i64 0] : List Value) = tb at RT IA TA
  replace RT := Lib.hid RT
  replace IA := Lib.hid IA
  replace TA := Lib.hid TA
  go_loopw [58] (fun iv wr => ∃ i : Nat, i ≤ 9 ∧ iv = .int .i64 i ∧ Below w6.heap.size w6 wr) (fun iv _ => 9 - (intOf iv).toNat)
  case atStart => exact ⟨0, by omega, rfl, Below.refl _ _⟩
  case round =>
    obtain ⟨i, hi, rfl, hB⟩ := hrel
    have HB := Lib.hid hB
    have hzr := hB.size
    clear hB
    by_cases hlt : i < 9
    · have p1 : (i : Int) < 9 := by omega
      have EI := Lib.hid (List.all_eq_true.1 EO.out i (List.mem_range.2 hlt))
      have AI := IA.out i hlt
      have TI := TA.out i hlt
      have RR := RT.out.below HB.out hz6
      generalize tb.getD (2 * i) undef = sv at AI TI
      generalize Kn.es.getD i 0 = en at EI TI
      obtain ⟨al, hal⟩ : ∃ al, Kn.ls.getD i [] = al := ⟨_, rfl⟩
      rw [hal] at AI EI
      obtain ⟨sa, sc, rfl⟩ := AI.form
      have hc0 : wr.cell? ⟨T, i * 2, none⟩ = some (.slice sa al.length sc) := by rw [RR.cell, Nat.mul_comm]; exact TI.1
      have hc1 : wr.cell? ⟨T, i * 2 + 1, none⟩ = some (.int .i64 (en : Int)) := by rw [RR.cell, Nat.mul_comm]; exact TI.2
      clear RR TI
      replace AI := Lib.hid (AI.below HB.out (Nat.le_refl _))
      go_upto_region 6 with fail
      go_wp2_with fail
      have R7 := Row.new wr [.slice sa al.length sc, .int .i64 (en : Int)] 51
      have B7 := Lib.hid (HB.out.alloc hzr (.cells #[.slice sa al.length sc, .int .i64 (en : Int)] 51))
      have A7 := Lib.hid (AI.out.below ((Below.refl wr.heap.size wr).alloc (Nat.le_refl _) (.cells #[.slice sa al.length sc, .int .i64 (en : Int)] 51)) (Nat.le_refl _))
      obtain ⟨g, hg⟩ : ∃ g, wr.heap.size = g := ⟨_, rfl⟩
      rw [hg] at R7 ⊢
      clear AI hc0 hc1
      generalize wr.alloc (.cells #[.slice sa al.length sc, .int .i64 (en : Int)] 51) = w7 at R7 B7 A7 ⊢
      have hls := ls_small i hlt
      rw [hal] at hls
      have T7 := Lib.hid (encode_calls b 9223372036854775808 (.slice sa al.length sc) al w7 ((HT.out.below B6.out h1w).below B7.out (by have := B6.out.size; omega)) (by omega) A7.out (by omega) hls.2)
      clear hls A7 hal
      obtain ⟨⟨s, n⟩, hp⟩ : ∃ p, En.encode b 9223372036854775808 al = p := ⟨_, rfl⟩
      rw [hp] at T7 EI
      obtain ⟨rfl, hs0, hs1⟩ := right_of EI.out
      clear hp EI
      refine T7.out.mono ?_
      rintro e w8 ⟨rfl, hb8⟩
      dsimp only [ansV]
      have R8 := R7.below hb8 R7.lt
      have B8 := Lib.hid (B7.out.trans (hb8.mono B7.out.size))
      clear R7 hb8 T7 B7 hg
      have hc0 := R8.cell 0
      have hc1 := R8.cell 1
      rw [show ([.slice sa al.length sc, .int .i64 (n : Int)] : List Value)[0]? = some (.slice sa al.length sc) from rfl] at hc0
      rw [show ([.slice sa al.length sc, .int .i64 (n : Int)] : List Value)[1]? = some (.int .i64 (n : Int)) from rfl] at hc1
      by_cases hn0 : n = 0
      · have hs : s.isEmpty = false := by have := hs0 hn0; cases s with | nil => exact absurd rfl this | cons x l => rfl
        subst hn0
        rw [show ((0 : Nat) : Int) = 0 from rfl] at hc1
        clear hs0 hs1
        go_wp2_with fail
        go_roundw
        case rel => exact ⟨i + 1, by omega, by go_num, B8.out⟩
        case measure => simp [intOf]; omega
      · have hs := hs1 hn0
        have hn1 : ¬ (n : Int) = 0 := by omega
        subst hs
        clear hs0 hs1
        go_wp2_with fail
        go_roundw
        case rel => exact ⟨i + 1, by omega, by go_num, B8.out⟩
        case measure => simp [intOf]; omega
    · obtain rfl : i = 9 := by omega
      rw [show ((9 : Nat) : Int) = 9 from rfl]
      have B7 := Lib.hid (B6.out.trans (HB.out.mono (by have := B6.out.size; omega)))
      have X1 := Row.new wr [.int .i64 9] 3
      have A8 := Lib.hid (B7.out.alloc B7.out.size (.cells #[.int .i64 9] 3))
      have T7 := Lib.hid (encode_calls (b ++ [120]) 0 (.slice (some ⟨wr.heap.size, 0, none⟩) 1 1) [9] (wr.alloc (.cells #[.int .i64 9] 3)) (HT.out.below A8.out h1w) (by simp; omega) (ints_row (zs := [9]) X1 rfl) (by simp) (fun j hj => by
        match j, hj with
        | 0, _ => decide
        | n + 1, h => simp at h))
      clear RT IA TA EO HB B6 X1
      obtain ⟨⟨s, n⟩, hp⟩ : ∃ p, En.encode (b ++ [120]) 0 [9] = p := ⟨_, rfl⟩
      rw [hp] at T7 EX
      obtain rfl : n = 5 := EX.out
      clear hp EX
      go_wp2_with fail
      refine T7.out.mono ?_
      clear T7
      rintro e w8 ⟨rfl, hb8⟩
      dsimp only [ansV]
      rw [show ((5 : Nat) : Int) = 5 from rfl]
      have B8 := Lib.hid (A8.out.trans (hb8.mono A8.out.size))
      clear hb8 A8
      have hb80 : (b.take 80).length = 80 := by rw [List.length_take]; omega
      have T9 := Lib.hid (relaySum_calls (b.take 80) w8 (HT.out.below B8.out h1w) (by omega))
      go_wp2_with fail
      refine T9.out.mono ?_
      clear T9
      rintro e w9 ⟨rfl, hb9⟩
      have B9 := Lib.hid (B8.out.trans (hb9.mono B8.out.size))
      have l32 : (Sha.sum (b.take 80)).length = 32 := Sha.sum32 _
      have T10 := Lib.hid (relaySum_calls (Sha.sum (b.take 80)) w9 (HT.out.below B9.out h1w) (by omega))
      rw [← HN.out] at T10
      have hrs : Kn.rs = rsOf Kn.nm := rfl
      rw [hrs] at SO
      have hnl : Kn.nm.length = 32 := by rw [HN.out]; exact Sha.sum32 _
      clear hb9 HN hrs
      generalize Kn.nm = nm at T10 SO SX hnl
      generalize Sha.sum (b.take 80) = d at T10 l32 ⊢
      go_wp2_with fail
      refine T10.out.mono ?_
      clear T10
      rintro e w10 ⟨rfl, hb10⟩
      have B10 := Lib.hid (B9.out.trans (hb10.mono B9.out.size))
      clear hb10 B7 B8 B9
      go_upto_region 17 with fail
      have B11 := Lib.hid B10.out.drew
      haveI hne : Nonempty (Reg.Of (fun _ : World => True)) := ⟨⟨w, trivial⟩⟩
      refine Reg.startL [0, 1, 2, 3, 4, 5, 6, 7, 8, 9, 10, 11, 12, 13, 14, 15, 16, 17, 18, 19, 20, 21, 22, 23, 24, 25, 26, 27, 28, 29, 30, 31, 32, 33, 34, 35, 36, 37, 38, 41] 2 mixed (by kernel_rfl) rfl rfl (fun c a d v w h => by cases d <;> exact h) (by as_aux_lemma => kernel_rfl) rfl (fun _ => True) trivial ?_
      show wpQuiet _ _ _ _ (_ :: _ :: _ :: _ :: _ :: _ :: _ :: _ :: _ :: _ :: _ :: _ :: _ :: _ :: _ :: _ :: _ :: _ :: _ :: _ :: _ :: _ :: _ :: _ :: _ :: _ :: _ :: _ :: _ :: _ :: _ :: _ :: _ :: _ :: _ :: _ :: _ :: _ :: _ :: _ :: []) _
      repeat (go_big_quiet_step (fail))
      refine wpQuiet_nil ?_
      generalize w10.drew = w11 at B11 ⊢
      refine Reg.one 39 _ (by kernel_rfl) rfl rfl ?_
      try go_frame
      go_wp2_with fail
      refine ⟨Reg.cls_mk trivial, ?_⟩
      refine Reg.one 40 _ (by kernel_rfl) rfl rfl ?_
      try go_frame
      go_wp2_with fail
      refine ⟨Reg.cls_mk trivial, ?_⟩
      refine wpAnyH_done (by kernel_rfl) ?_ 0
      go_wp2_with fail
      have RT := Row.new w11 [.string (str (nm ++ [1, 0])), .int .i64 0, .string (str (nm ++ [1, 2])), .int .i64 0, .string (str (nm ++ [3, 0, 0, 0])), .int .i64 0, .string (str (nm ++ [1, 3])), .int .i64 4, .string (str (nm ++ [1, 16])), .int .i64 4, .string (str (nm ++ [0])), .int .i64 3, .string (str (nm ++ [1])), .int .i64 1, .string (str (nm ++ [1, 0, 0])), .int .i64 5, .string (str (nm.tail ++ [120, 1, 0])), .int .i64 6, .string (str (nm.tail ++ [120, 1, 3])), .int .i64 6, .string (str (nm.tail ++ [120, 1, 16])), .int .i64 4, .string (str (nm ++ [17])), .int .i64 3] 53
      have B12 := Lib.hid (B11.out.alloc B11.out.size (.cells #[.string (str (nm ++ [1, 0])), .int .i64 0, .string (str (nm ++ [1, 2])), .int .i64 0, .string (str (nm ++ [3, 0, 0, 0])), .int .i64 0, .string (str (nm ++ [1, 3])), .int .i64 4, .string (str (nm ++ [1, 16])), .int .i64 4, .string (str (nm ++ [0])), .int .i64 3, .string (str (nm ++ [1])), .int .i64 1, .string (str (nm ++ [1, 0, 0])), .int .i64 5, .string (str (nm.tail ++ [120, 1, 0])), .int .i64 6, .string (str (nm.tail ++ [120, 1, 3])), .int .i64 6, .string (str (nm.tail ++ [120, 1, 16])), .int .i64 4, .string (str (nm ++ [17])), .int .i64 3] 53))
      generalize w11.alloc (.cells #[.string (str (nm ++ [1, 0])), .int .i64 0, .string (str (nm ++ [1, 2])), .int .i64 0, .string (str (nm ++ [3, 0, 0, 0])), .int .i64 0, .string (str (nm ++ [1, 3])), .int .i64 4, .string (str (nm ++ [1, 16])), .int .i64 4, .string (str (nm ++ [0])), .int .i64 3, .string (str (nm ++ [1])), .int .i64 1, .string (str (nm ++ [1, 0, 0])), .int .i64 5, .string (str (nm.tail ++ [120, 1, 0])), .int .i64 6, .string (str (nm.tail ++ [120, 1, 3])), .int .i64 6, .string (str (nm.tail ++ [120, 1, 16])), .int .i64 4, .string (str (nm ++ [17])), .int .i64 3] 53) = w12 at RT B12 ⊢
      have TA := tab2 nm
      obtain ⟨T2, hT2⟩ : ∃ T, w11.heap.size = T := ⟨_, rfl⟩
      rw [hT2] at RT ⊢
      clear hT2 B10 B11
      generalize ([.string (str (nm ++ [1, 0])), .int .i64 0, .string (str (nm ++ [1, 2])), .int .i64 0, .string (str (nm ++ [3, 0, 0, 0])), .int .i64 0, .string (str (nm ++ [1, 3])), .int .i64 4, .string (str (nm ++ [1, 16])), .int .i64 4, .string (str (nm ++ [0])), .int .i64 3, .string (str (nm ++ [1])), .int .i64 1, .string (str (nm ++ [1, 0, 0])), .int .i64 5, .string (str (nm.tail ++ [120, 1, 0])), .int .i64 6, .string (str (nm.tail ++ [120, 1, 3])), .int .i64 6, .string (str (nm.tail ++ [120, 1, 16])), .int .i64 4, .string (str (nm ++ [17])), .int .i64 3] : List Value) = tb2 at RT TA
      have hz12 := RT.lt
      replace RT := Lib.hid RT
      replace TA := Lib.hid TA
      clear hne hwK
      go_loopw [138] (fun iv wr => ∃ i : Nat, i ≤ 12 ∧ iv = .int .i64 i ∧ Below w12.heap.size w12 wr) (fun iv _ => 12 - (intOf iv).toNat)
      case atStart => exact ⟨0, by omega, rfl, Below.refl _ _⟩
      case round =>
        obtain ⟨i, hi2, rfl, hB⟩ := hrel
        have HB := Lib.hid hB
        have hzr2 := hB.size
        clear hB
        by_cases hlt2 : i < 12
        · have p1 : (i : Int) < 12 := by omega
          have EI := Lib.hid (List.all_eq_true.1 SO.out i (List.mem_range.2 hlt2))
          have TI := TA.out i hlt2
          have RR := RT.out.below HB.out hz12
          have hql := rsOf_len nm hnl i hlt2
          generalize Kn.fs.getD i 0 = en at EI TI
          generalize (rsOf nm).getD i [] = q at EI TI hql
          have hc0 : wr.cell? ⟨T2, i * 2, none⟩ = some (.string (str q)) := by rw [RR.cell, Nat.mul_comm]; exact TI.1
          have hc1 : wr.cell? ⟨T2, i * 2 + 1, none⟩ = some (.int .i64 (en : Int)) := by rw [RR.cell, Nat.mul_comm]; exact TI.2
          clear RR TI
          go_wp2_with fail
          have R7 := Row.new wr [.string (str q), .int .i64 (en : Int)] 53
          have B7 := Lib.hid (HB.out.alloc hzr2 (.cells #[.string (str q), .int .i64 (en : Int)] 53))
          obtain ⟨g, hg⟩ : ∃ g, wr.heap.size = g := ⟨_, rfl⟩
          rw [hg] at R7 ⊢
          clear hc0 hc1
          generalize wr.alloc (.cells #[.string (str q), .int .i64 (en : Int)] 53) = w7 at R7 B7 ⊢
          have T7 := Lib.hid (serve_calls b q w7 ((HT.out.below B12.out h1w).below B7.out (by have := B12.out.size; omega)) (by omega) (by omega))
          obtain ⟨⟨s, n⟩, hp⟩ : ∃ p, En.serve b q = p := ⟨_, rfl⟩
          rw [hp] at T7 EI
          obtain ⟨rfl, hs0, hs1⟩ := right_of EI.out
          clear hp EI
          refine T7.out.mono ?_
          rintro e w8 ⟨rfl, hb8⟩
          dsimp only [ansV]
          have R8 := R7.below hb8 R7.lt
          have B8 := Lib.hid (B7.out.trans (hb8.mono B7.out.size))
          clear R7 hb8 T7 B7 hg
          have hc1 := R8.cell 1
          rw [show ([.string (str q), .int .i64 (n : Int)] : List Value)[1]? = some (.int .i64 (n : Int)) from rfl] at hc1
          by_cases hn0 : n = 0
          · have hs : s.isEmpty = false := by have := hs0 hn0; cases s with | nil => exact absurd rfl this | cons x l => rfl
            subst hn0
            rw [show ((0 : Nat) : Int) = 0 from rfl] at hc1
            clear hs0 hs1 R8
            go_wp2_with fail
            go_roundw
            case rel => exact ⟨i + 1, by omega, by go_num, B8.out⟩
            case measure => simp [intOf]; omega
          · have hs := hs1 hn0
            have hn1 : ¬ (n : Int) = 0 := by omega
            subst hs
            clear hs0 hs1 R8
            go_wp2_with fail
            go_roundw
            case rel => exact ⟨i + 1, by omega, by go_num, B8.out⟩
            case measure => simp [intOf]; omega
        · obtain rfl : i = 12 := by omega
          rw [show ((12 : Nat) : Int) = 12 from rfl]
          have B13 := Lib.hid (B12.out.trans (HB.out.mono (by have := B12.out.size; omega)))
          have hb100 : (b.take 100).length = 100 := by rw [List.length_take]; omega
          have T7 := Lib.hid (serve_calls (b.take 100) nm wr (HT.out.below B13.out h1w) (by omega) (by omega))
          obtain ⟨⟨s, n⟩, hp⟩ : ∃ p, En.serve (b.take 100) nm = p := ⟨_, rfl⟩
          rw [hp] at T7 SX
          obtain rfl : n = 1 := SX.out
          clear hp SX RT TA SO HB B12
          go_wp2_with fail
          refine T7.out.mono ?_
          clear T7
          rintro e w14 ⟨rfl, hb⟩
          dsimp only [ansV]
          rw [show ((1 : Nat) : Int) = 1 from rfl]
          have B14 := Lib.hid (B13.out.trans (hb.mono B13.out.size))
          have T8 := Lib.hid (rroot_calls (.slice none 0 0) [] w14 (HT.out.below B14.out h1w) (.inl ⟨none, 0, rfl, rfl⟩) (by simp))
          rw [show Mk.answer [] = .tuple #[.string (str []), .bool false, .int .i64 3] from rfl] at T8
          clear hb
          go_wp2_with fail
          refine T8.out.mono ?_
          clear T8
          rintro e w15 ⟨rfl, hb⟩
          have B15 := Lib.hid (B14.out.trans (hb.mono B14.out.size))
          have hnt : nm.tail.length = 31 := by rw [List.length_tail]; omega
          have X16 := Row.new w15 [.string (str nm), .string (str nm.tail)] 9
          have B16 := Lib.hid (B15.out.alloc B15.out.size (.cells #[.string (str nm), .string (str nm.tail)] 9))
          have T9 := Lib.hid (rroot_calls (.slice (some ⟨w15.heap.size, 0, none⟩) 2 2) [nm, nm.tail] (w15.alloc (.cells #[.string (str nm), .string (str nm.tail)] 9)) (HT.out.below B16.out h1w) (two_texts X16) (by simp))
          rw [show Mk.answer [nm, nm.tail] = .tuple #[.string (str []), .bool false, .int .i64 3] from if_neg (by simp [Mk.fit, hnt])] at T9
          clear hb X16
          go_wp2_with fail
          refine T9.out.mono ?_
          clear T9
          rintro e w17 ⟨rfl, hb⟩
          have B17 := Lib.hid (B16.out.trans (hb.mono B16.out.size))
          clear hb
          go_wp2_with fail
          go_ret
          exact ⟨rfl, B17.out⟩
theorem laid_met (os : Os) : laidMet Tryd.prog Rows.knownRow.laid ((laidWorld os).forCall (fun _ _ => 0) ⟨#[], #[], []⟩).memory :=
  laidMet_of_run' 8 (by kernel_rfl) (by kernel_rfl)
theorem reads (os : Os) {H : Type} (enc : TypeId × Value → H) : ∃ places, DataW.whole enc Tryd.prog ((laidWorld os).forCall (fun _ _ => 0) ⟨#[], #[], []⟩).memory Tryd.f10.params.toList Rows.knownSpec.vars false #[].toList 8 = some ([], [], places) :=
  ⟨[], by kernel_rfl⟩
set_option maxRecDepth 100000 in
theorem lifted (os : Os) (started : os.Started) (H : Type) (enc : TypeId × Value → H) (F : Stop.Interp) :
    ReturnsInHanded {} Tryd.checked os 10 .any ((OpenSpec.ofChange Rows.knownSpec).preRow enc Tryd.prog Tryd.f10 Rows.knownRow.domain false Rows.knownRow.laid) (((OpenSpec.ofChange Rows.knownSpec).at F).post enc Tryd.prog Tryd.f10 false true false false) := by
  obtain ⟨places, hx⟩ := reads os enc
  refine returnsInHanded_of_row (C := Tryd.checked) (s := OpenSpec.ofChange Rows.knownSpec) Tryd.ownKnob started (by kernel_rfl) Tryd.func10
    (witness_row_at (enc := enc) (C := Tryd.checked) false (laidWorld os) #[] rfl (by kernel_rfl) (by kernel_rfl) (by kernel_rfl)
      (OpenSpec.preRow_of_cond 8 hx (by kernel_rfl) (fun k hk => by cases hk) (by kernel_rfl) (laid_met os))) ?_
  intro W base args ds gs before hval hW _ _ _ hL _ _
  have hW' := hW
  obtain ⟨p, q, hA0, hV, rfl, hfz, hnd⟩ := hW
  have hA : DataW.TrodAll enc Tryd.prog W 0 (fun _ => true) true Tryd.f10.params.toList args.toList ds p := hA0
  rw [Tryd.params10] at hA hval
  obtain ⟨hargs, rfl, rfl⟩ := trodAll_nil hA
  obtain rfl : args = #[] := by cases args; simp_all
  obtain ⟨rfl, rfl⟩ := trodVars_none hV
  clear hA0
  simp only [List.append_nil] at hW'
  refine (known_calls W (tabs_of_laid hL)).mono fun e W' ⟨he, hg⟩ => ?_
  subst he
  exact ⟨_, rfl, post_of_below (pa := []) (pv := []) hW' (fun _ _ _ => (trodAll_cons_mk (shut_bool Tryd.underlying4 _) trodAll_mk0)) (fun sp _ => trodAll_mk0) (fun _ _ => rfl) rfl hg⟩
theorem said : Rows.KnownSaid :=
  OpenClaim.holds_of_cond 10 Tryd.f10 rfl rfl rfl rfl rfl rfl rfl ⟨rfl, rfl, rfl, rfl, rfl⟩ rfl rfl rfl rfl rfl (by kernel_rfl) Tryd.func10 (by kernel_rfl)
    (of_decide_eq_true (by kernel_rfl)) (by unfold Func.isWrapper; first | (rw [if_pos (by decide +kernel)]; kernel_rfl) | (rw [if_neg (by decide +kernel)]; exact ⟨rfl, rfl⟩))
    (fun os started H enc _ F => by rw [OpenClaim.pre_eq_preRow]; exact lifted os started H enc F)
theorem plain (f : FuncId) (fn : Func) (hf : Tryd.pinned.checked.prog.funcNamed "compact/compactkeep.Known" = some f) (hfn : Tryd.pinned.checked.prog.funcs[f]? = some fn) :
    true = Tryd.pinned.checked.prog.looks [] ∧ ∀ (j : Nat) t, fn.params[j]? = some t → Tryd.pinned.checked.prog.wantsStandIn t = false := by
  obtain rfl : f = 10 := Option.some.inj ((show Tryd.prog.funcNamed "compact/compactkeep.Known" = some 10 by kernel_rfl).symm.trans hf) |>.symm
  obtain rfl : fn = Tryd.f10 := (Option.some.inj (Tryd.func10.symm.trans hfn)).symm
  refine ⟨by kernel_rfl, fun j t ht => ?_⟩
  rw [Tryd.params10] at ht
  simp at ht
/-- ████ THE CARD ████ -/
theorem card : Rows.KnownCardSaid :=
  Claim7.holds_tied_plain_at .later [] _ _ _ _ said (fun _ h => by cases h) (by kernel_rfl) (fun _ h => by cases h) known_row_tie rfl ⟨rfl, rfl⟩ (by kernel_rfl) rfl plain (by kernel_rfl)
#print axioms card
end Go.Proofs.YtlpcjiollnnmgaaDoor.known
