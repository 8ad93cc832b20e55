/-
  compactkeep: pick; bytes made of a number.
-/
import Derived.Test.YtlpcjiollnnmgabGreatDoorDg
set_option maxRecDepth 100000
namespace Go.Proofs.YtlpcjiollnnmgabGreatDoor
open Nums
open Go.RowKit
namespace Keeps
/-- which of n things -/
def pick (c n : Int) : Int := (if c < 0 then -(c + 1) else c) % n
theorem pick_lt (c n : Int) (h : 0 < n) : 0 ≤ pick c n ∧ pick c n < n := by
  unfold pick; exact ⟨Int.emod_nonneg _ (by omega), Int.emod_lt_of_pos _ h⟩
end Keeps
theorem pick_calls (c n : Int) (w : World) (h0 : 0 < n) (h1 : n < 9223372036854775808) (hc : -9223372036854775808 ≤ c ∧ c < 9223372036854775808) :
    Calls Tryz.prog 17 #[.int .i64 c, .int .i64 n] w fun e w' => e = .returned (.int .i64 (Keeps.pick c n)) ∧ w' = w := by
  unfold Keeps.pick
  have hn : n ≠ 0 := by omega
  by_cases hlt : c < 0
  · rw [if_pos hlt]
    have e1 : IntKind.i64.wrap (c + 1) = c + 1 := IntWalk.i64_in _ (by omega)
    have e2 : IntKind.i64.wrap (-(c + 1)) = -(c + 1) := IntWalk.i64_in _ (by omega)
    go_enter Tryz.func17, Tryz.ntmps17
    go_wp2_with fail
    go_ret
    have e3 : -(c + 1).tmod n = -(c + 1) % n := by rw [← Int.neg_tmod, Int.tmod_eq_emod_of_nonneg (by omega)]
    exact ⟨by rw [← e3]; rfl, rfl⟩
  · rw [if_neg hlt]
    go_enter Tryz.func17, Tryz.ntmps17
    go_wp2_with fail
    go_ret
    exact ⟨rfl, rfl⟩
namespace Keeps
def byteI (seed k : Int) : Int := wrap64 (wrap64 (seed * (k + 7)) + wrap64 (k * k)) + wrap64 (wrap64 (seed.tdiv 256) * (k + 1))
def toY (y : Int) : UInt8 := UInt8.ofNat (y % 256).toNat
theorem Y_toY (y : Int) : Y (toY y) = y % 256 := by
  unfold toY Y; rw [UInt8.toNat_ofNat']; omega
theorem cut8 (z : Int) : wrap64 z % 256 = Y (toY z) := by
  rw [Y_toY]; unfold wrap64; omega
def byte (seed : Int) (k : Nat) : UInt8 := toY (byteI seed k)
def bytes (n : Nat) (seed : Int) : List UInt8 := (List.range n).map (byte seed)
theorem bytes_length (n : Nat) (seed : Int) : (bytes n seed).length = n := by simp [bytes]
theorem bytes_succ (n : Nat) (seed : Int) : bytes (n + 1) seed = bytes n seed ++ [byte seed n] := by
  simp [bytes, List.range_succ]
end Keeps
section
attribute [local go_sem high] Keeps.cut8
theorem bytes_calls (n : Nat) (seed : Int) (w : World) (h1 : n < 1000) :
    Calls Tryz.prog 31 #[.int .i64 n, .int .i64 seed] w fun e w' => e = .returned (.string (str (Keeps.bytes n seed))) ∧ Below w.heap.size w w' := by
  go_enter Tryz.func31, Tryz.ntmps31
  go_wp2_with fail
  go_loopw [5, 8] (fun sv iv wr => ∃ i : Nat, i ≤ n ∧ iv = .int .i64 i ∧ sv = .string (str (Keeps.bytes i seed)) ∧ Below w.heap.size w wr) (fun _ iv _ => n - (intOf iv).toNat)
  case atStart => exact ⟨0, by omega, rfl, rfl, Below.refl _ _⟩
  case round =>
    obtain ⟨i, hi, rfl, rfl, hB⟩ := hrel
    have hl := Keeps.bytes_length i seed
    have hs := Keeps.bytes_succ i seed
    by_cases hlt : i < n
    · have p1 : (i : Int) < (n : Int) := by omega
      go_wp2_with fail
      go_roundw
      case rel => exact ⟨i + 1, by omega, by go_num, by rw [hs]; rfl, hB.alloc hB.size _⟩
      case measure => simp [intOf]; omega
    · obtain rfl : i = n := by omega
      go_wp2_with fail
      go_ret
      exact ⟨rfl, hB⟩
end
end Go.Proofs.YtlpcjiollnnmgabGreatDoor
