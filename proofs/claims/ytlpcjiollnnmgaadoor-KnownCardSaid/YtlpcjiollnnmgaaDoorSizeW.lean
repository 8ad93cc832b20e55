/-
  wire.low, wire.Size: numbers as bytes.
-/
import Derived.Test.YtlpcjiollnnmgaaDoorPairs
set_option maxRecDepth 100000
namespace Go.Proofs.YtlpcjiollnnmgaaDoor
open Go.RowKit Nums
theorem make2 (w : World) : (Instr.makeSlice 36 (.int .i64 (2 : Nat)) (.int .i64 (2 : Nat))).run Tryd.prog w = .ok (.slice (some ⟨w.heap.size, 0, none⟩) 2 2) (w.alloc (.cells (w8 (List.replicate 2 0)).toArray 5)) := by kernel_rfl
theorem make4 (w : World) : (Instr.makeSlice 36 (.int .i64 (4 : Nat)) (.int .i64 (4 : Nat))).run Tryd.prog w = .ok (.slice (some ⟨w.heap.size, 0, none⟩) 4 4) (w.alloc (.cells (w8 (List.replicate 4 0)).toArray 5)) := by kernel_rfl
theorem make8 (w : World) : (Instr.makeSlice 36 (.int .i64 (8 : Nat)) (.int .i64 (8 : Nat))).run Tryd.prog w = .ok (.slice (some ⟨w.heap.size, 0, none⟩) 8 8) (w.alloc (.cells (w8 (List.replicate 8 0)).toArray 5)) := by kernel_rfl
theorem low_byte (x : UInt64) (i : Nat) : U (shr x (8 * i)) % 256 = Y (UInt8.ofNat (x.toNat / 256 ^ i % 256)) := by
  have h : (shr x (8 * i)).toNat = x.toNat / 2 ^ (8 * i) := by
    unfold shr; rw [UInt64.toNat_ofNat']
    have := x.toNat_lt
    exact Nat.mod_eq_of_lt (Nat.lt_of_le_of_lt (Nat.div_le_self _ _) this)
  unfold U Y
  rw [UInt8.toNat_ofNat', h, show 2 ^ (8 * i) = 256 ^ i from Nat.pow_mul 2 8 i]
  omega
theorem low_byte' (x : UInt64) (i : Nat) : (shr x (8 * i)).toUInt8 = UInt8.ofNat (x.toNat / 256 ^ i % 256) := by
  apply Y_inj
  rw [← low_byte]
  unfold U Y
  rw [UInt64.toNat_toUInt8]; omega
theorem low_ext (L : List UInt8) (n k : Nat) (hl : L.length = k) (h : ∀ j, j < k → nth L j = nth (Wr.low n k) j) : L = Wr.low n k := by
  apply List.ext_getElem?
  intro j
  by_cases hj : j < k
  · have := h j hj
    unfold nth at this
    rw [List.getD_eq_getElem?_getD, List.getD_eq_getElem?_getD, List.getElem?_eq_getElem (by omega), List.getElem?_eq_getElem (by rw [Wr.low_length]; exact hj)] at this
    rw [List.getElem?_eq_getElem (by omega), List.getElem?_eq_getElem (by rw [Wr.low_length]; exact hj)]
    exact congrArg some this
  · rw [List.getElem?_eq_none (by omega), List.getElem?_eq_none (by rw [Wr.low_length]; omega)]
theorem nth_set (L : List UInt8) (i j : Nat) (y : UInt8) (hi : i < L.length) : nth (L.set i y) j = if i = j then y else nth L j := by
  unfold nth
  rw [List.getD_eq_getElem?_getD, List.getElem?_set]
  split
  · rename_i h; subst h; simp
  · rw [List.getD_eq_getElem?_getD]
set_option maxHeartbeats 1000000 in
theorem low_calls (x : UInt64) (k : Nat) (w : World) (hk : k ≤ 8) (hk1 : 0 < k) (hmk : ∀ w : World, (Instr.makeSlice 36 (.int .i64 k) (.int .i64 k)).run Tryd.prog w = .ok (.slice (some ⟨w.heap.size, 0, none⟩) k k) (w.alloc (.cells (w8 (List.replicate k 0)).toArray 5))) :
    Calls Tryd.prog 91 #[.int .u64 (U x), .int .i64 k] w fun e w' => e = .returned (.string (str (Wr.low x.toNat k))) ∧ Below w.heap.size w w' := by
  have hR : Row (w.alloc (.cells (w8 (List.replicate k 0)).toArray 5)) w.heap.size (w8 (List.replicate k 0)) := Row.new w _ _
  have hB : Below w.heap.size w (w.alloc (.cells (w8 (List.replicate k 0)).toArray 5)) := (Below.refl _ _).alloc (Nat.le_refl _) _
  go_enter Tryd.func91, Tryd.ntmps91
  go_wp2_with fail
  generalize w.alloc _ = w1 at hR hB ⊢
  have H1 := Lib.hid hR
  have H2 := Lib.hid hB
  clear hR hB hmk
  go_loopw [6, 11] (fun jv iv wr => ∃ (i : Nat) (L : List UInt8), i ≤ k ∧ iv = .int .i64 i ∧ L.length = k ∧ Row wr w.heap.size (w8 L) ∧ Below w.heap.size w wr ∧ ∀ j, j < i → nth L j = nth (Wr.low x.toNat k) j) (fun _ iv _ => k - (intOf iv).toNat)
  case atStart => exact ⟨0, List.replicate k 0, by omega, rfl, by simp, H1.out, H2.out, fun j hj => by omega⟩
  case round =>
    clear H1 H2
    obtain ⟨i, L, hi, rfl, hL, hR, hB, hj⟩ := hrel
    by_cases hlt : i < k
    · have p1 : (i : Int) < (k : Int) := by omega
      have h8 : 0 ≤ 8 * (i : Int) := by omega
      have e1 := low_byte' x i
      have e2 := Wr.low_get x.toNat k i hlt
      have hc0 := hR.cell i
      rw [w8_get L i (by omega)] at hc0
      have hz := hR.free i
      obtain ⟨y, hy⟩ : ∃ y, (shr x (8 * i)).toUInt8 = y := ⟨_, rfl⟩
      rw [hy] at e1
      rw [← e1] at e2
      have S1 := Lib.hid (show Row (wr.setCell ⟨w.heap.size, i, none⟩ (.int .u8 (Y y))) w.heap.size (w8 (L.set i y)) from by rw [← w8_set]; exact hR.set i _)
      have S2 := Lib.hid (show Below w.heap.size w (wr.setCell ⟨w.heap.size, i, none⟩ (.int .u8 (Y y))) from hB.setCell (Nat.le_refl _) _)
      have S3 := Lib.hid (show ∀ j, j < i + 1 → nth (L.set i y) j = nth (Wr.low x.toNat k) j from fun j hj' => by
        rw [nth_set L i j y (by omega)]
        split
        · rename_i h; subst h; rw [e2]
        · exact hj j (by omega))
      subst hy
      clear hR hB hj e2 e1
      go_wp2_with fail
      go_roundw
      case rel => exact ⟨i + 1, L.set i _, by omega, by go_num, by rw [List.length_set]; exact hL, S1.out, S2.out, S3.out⟩
      case measure => simp [intOf]; omega
    · obtain rfl : i = k := by omega
      have hbt := hR.bytes
      have e := low_ext L x.toNat i hL hj
      subst e
      go_wp2_with (with_reducible refine conv_arm (o := ⟨some 24, _, _, _, _, _⟩) rfl _ _ _ _ rfl w.heap.size 0 i i (Wr.low x.toNat i) (Wr.low_length _ _) rfl Tryd.underlying36 Tryd.underlying5 Tryd.underlying9 hbt ?_)
      go_ret
      exact ⟨rfl, hB⟩
theorem size_ofNat (n : Nat) (h : n < 18446744073709551616) : U (UInt64.ofNat n) = (n : Int) ∧ (UInt64.ofNat n).toNat = n := by
  have : (UInt64.ofNat n).toNat = n := by rw [UInt64.toNat_ofNat']; exact Nat.mod_eq_of_lt h
  exact ⟨by unfold U; rw [this], this⟩
theorem psize_calls (n : Nat) (w : World) (hn : n < 18446744073709551616) :
    Calls Tryd.prog 78 #[.int .u64 n] w fun e w' => e = .returned (.string (str (Wr.sizeB n))) ∧ Below w.heap.size w w' := by
  obtain ⟨hU, hN⟩ := size_ofNat n hn
  have L2 := low_calls (UInt64.ofNat n) 2 w (by omega) (by omega) make2
  have L4 := low_calls (UInt64.ofNat n) 4 w (by omega) (by omega) make4
  have L8 := low_calls (UInt64.ofNat n) 8 w (by omega) (by omega) make8
  rw [hU, hN] at L2 L4 L8
  have H2 := Lib.hid L2
  have H4 := Lib.hid L4
  have H8 := Lib.hid L8
  clear L2 L4 L8 hU hN
  unfold Wr.sizeB
  by_cases h1 : n < 253
  · rw [if_pos h1]
    have p1 : (n : Int) < 253 := by omega
    have e1 : (n : Int) % 256 = Y (UInt8.ofNat n) := by unfold Y; rw [UInt8.toNat_ofNat']; omega
    have e2 : IntKind.u8.wrap (n : Int) = Y (UInt8.ofNat n) := by
      rw [← e1]; simp [IntKind.wrap, IntKind.bits, IntKind.signed]
    go_enter Tryd.func78, Tryd.ntmps78
    go_wp2_with fail
    go_ret
    exact ⟨rfl, (Below.refl _ _).alloc (Nat.le_refl _) _⟩
  · rw [if_neg h1]
    have p1 : ¬ (n : Int) < 253 := by omega
    by_cases h2 : n < 65536
    · rw [if_pos h2]
      have p2 : (n : Int) < 65536 := by omega
      go_enter Tryd.func78, Tryd.ntmps78
      go_wp2_with fail
      refine H2.out.mono ?_
      rintro e w1 ⟨rfl, hb⟩
      have hl := Wr.low_length n 2
      go_wp2_with fail
      go_ret
      exact ⟨rfl, hb⟩
    · rw [if_neg h2]
      have p2 : ¬ (n : Int) < 65536 := by omega
      by_cases h3 : n < 4294967296
      · rw [if_pos h3]
        have p3 : (n : Int) < 4294967296 := by omega
        go_enter Tryd.func78, Tryd.ntmps78
        go_wp2_with fail
        refine H4.out.mono ?_
        rintro e w1 ⟨rfl, hb⟩
        have hl := Wr.low_length n 4
        go_wp2_with fail
        go_ret
        exact ⟨rfl, hb⟩
      · rw [if_neg h3]
        have p3 : ¬ (n : Int) < 4294967296 := by omega
        go_enter Tryd.func78, Tryd.ntmps78
        go_wp2_with fail
        refine H8.out.mono ?_
        rintro e w1 ⟨rfl, hb⟩
        have hl := Wr.low_length n 8
        go_wp2_with fail
        go_ret
        exact ⟨rfl, hb⟩
end Go.Proofs.YtlpcjiollnnmgaaDoor
