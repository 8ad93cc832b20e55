/-
  THE WALK OF compactkeep.Vectors: what the standards' papers say of both hashes.
-/
import Derived.Test.YtlpcjiollnnmgaaDoorKeep
import Derived.Test.YtlpcjiollnnmgaaDoorRRoot
import Derived.Test.YtlpcjiollnnmgaaDoorSipWalk3
set_option maxRecDepth 100000
namespace Go.Proofs.YtlpcjiollnnmgaaDoor
open Go.RowKit Nums
namespace Vec
/-- what a digit says -/
def dig (c : UInt8) : Int := if 97 ≤ Y c then (Y c - 97) % 256 + 10 else (Y c - 48) % 256
def hexF (s : List UInt8) : Nat → List UInt8 × Int
  | 0 => ([], 0)
  | i + 1 => if i % 2 = 1 then ((hexF s i).1 ++ [Keeps.toY (16 * (hexF s i).2 + dig (nth s i))], 0) else ((hexF s i).1, 16 * (hexF s i).2 + dig (nth s i))
theorem dig_le (c : UInt8) : 0 ≤ dig c ∧ dig c ≤ 265 := by
  unfold dig
  split <;> omega
theorem hexF_zero (s : List UInt8) : ∀ i, i % 2 = 0 → (hexF s i).2 = 0
  | 0, _ => rfl
  | i + 1, h => by
    rw [hexF, if_pos (show i % 2 = 1 by omega)]
theorem hexF_le (s : List UInt8) (i : Nat) : 0 ≤ (hexF s i).2 ∧ (hexF s i).2 ≤ 265 := by
  cases i with
  | zero => exact ⟨Int.le_refl 0, (by decide : (0 : Int) ≤ 265)⟩
  | succ i =>
    by_cases h : i % 2 = 1
    · rw [hexF, if_pos h]; exact ⟨Int.le_refl 0, (by decide : (0 : Int) ≤ 265)⟩
    · rw [hexF, if_neg h, hexF_zero s i (by omega)]
      have := dig_le (nth s i)
      dsimp only
      omega
theorem hexF_odd (s : List UInt8) (i : Nat) (h : i % 2 = 1) : hexF s (i + 1) = ((hexF s i).1 ++ [Keeps.toY (16 * (hexF s i).2 + dig (nth s i))], 0) := if_pos h
theorem hexF_even (s : List UInt8) (i : Nat) (h : ¬ i % 2 = 1) : hexF s (i + 1) = ((hexF s i).1, 16 * (hexF s i).2 + dig (nth s i)) := if_neg h
theorem hexF_len (s : List UInt8) : ∀ i, (hexF s i).1.length ≤ i
  | 0 => Nat.le_refl _
  | i + 1 => by
    have := hexF_len s i
    rw [hexF]
    split
    · simp; omega
    · simp; omega
end Vec
section
attribute [local go_sem high] Keeps.cut8
theorem hex_calls (s : List UInt8) (w : World) (hs : s.length < 1000) :
    Calls Tryd.prog 18 #[.string (str s)] w fun e w' => e = .returned (.string (str (Vec.hexF s s.length).1)) ∧ Below w.heap.size w w' := by
  go_enter Tryd.func18, Tryd.ntmps18
  go_wp2_with fail
  go_loopw [3, 4, 5, 6] (fun sv nv iv cv wr => ∃ i : Nat, i ≤ s.length ∧ iv = .int .i64 i ∧ sv = .string (str (Vec.hexF s i).1) ∧ nv = .int .i64 (Vec.hexF s i).2 ∧ Below w.heap.size w wr) (fun _ _ iv _ _ => s.length - (intOf iv).toNat)
  case atStart => exact ⟨0, by omega, rfl, rfl, rfl, Below.refl _ _⟩
  case round =>
    obtain ⟨i, hi, rfl, rfl, rfl, hB⟩ := hrel
    have HB := Lib.hid hB
    clear hB
    by_cases hlt : i < s.length
    · have p1 : (i : Int) < (s.length : Int) := by omega
      have hl := Vec.hexF_len s i
      have hle := Vec.hexF_le s i
      by_cases h9 : 97 ≤ Y (nth s i)
      · have q1 : Y (nth s i) ≥ 97 := h9
        by_cases hp : i % 2 = 1
        · have p2 : (i : Int) % 2 = 1 := by omega
          have E := Lib.hid (show Vec.hexF s (i + 1) = ((Vec.hexF s i).1 ++ [Keeps.toY (16 * (Vec.hexF s i).2 + ((Y (nth s i) - 97) % 256 + 10))], 0) by rw [Vec.hexF_odd s i hp, show Vec.dig (nth s i) = ((Y (nth s i) - 97) % 256 + 10) from if_pos h9])
          generalize Vec.hexF s i = p at hl hle E ⊢
          have e1 := (Keeps.Y_toY (16 * p.2 + ((Y (nth s i) - 97) % 256 + 10))).symm
          clear hp
          go_wp2_with fail
          go_roundw
          case rel => exact ⟨i + 1, by omega, by go_num, by rw [E.out], by rw [E.out], HB.out.alloc HB.out.size _⟩
          case measure => simp [intOf]; omega
        · have p2 : ¬ (i : Int) % 2 = 1 := by omega
          have E := Lib.hid (show Vec.hexF s (i + 1) = ((Vec.hexF s i).1, 16 * (Vec.hexF s i).2 + ((Y (nth s i) - 97) % 256 + 10)) by rw [Vec.hexF_even s i hp, show Vec.dig (nth s i) = ((Y (nth s i) - 97) % 256 + 10) from if_pos h9])
          generalize Vec.hexF s i = p at hl hle E ⊢
          clear hp
          go_wp2_with fail
          go_roundw
          case rel => exact ⟨i + 1, by omega, by go_num, by rw [E.out], by rw [E.out], HB.out⟩
          case measure => simp [intOf]; omega
      · have q1 : ¬ Y (nth s i) ≥ 97 := h9
        by_cases hp : i % 2 = 1
        · have p2 : (i : Int) % 2 = 1 := by omega
          have E := Lib.hid (show Vec.hexF s (i + 1) = ((Vec.hexF s i).1 ++ [Keeps.toY (16 * (Vec.hexF s i).2 + ((Y (nth s i) - 48) % 256))], 0) by rw [Vec.hexF_odd s i hp, show Vec.dig (nth s i) = ((Y (nth s i) - 48) % 256) from if_neg h9])
          generalize Vec.hexF s i = p at hl hle E ⊢
          have e1 := (Keeps.Y_toY (16 * p.2 + ((Y (nth s i) - 48) % 256))).symm
          clear hp
          go_wp2_with fail
          go_roundw
          case rel => exact ⟨i + 1, by omega, by go_num, by rw [E.out], by rw [E.out], HB.out.alloc HB.out.size _⟩
          case measure => simp [intOf]; omega
        · have p2 : ¬ (i : Int) % 2 = 1 := by omega
          have E := Lib.hid (show Vec.hexF s (i + 1) = ((Vec.hexF s i).1, 16 * (Vec.hexF s i).2 + ((Y (nth s i) - 48) % 256)) by rw [Vec.hexF_even s i hp, show Vec.dig (nth s i) = ((Y (nth s i) - 48) % 256) from if_neg h9])
          generalize Vec.hexF s i = p at hl hle E ⊢
          clear hp
          go_wp2_with fail
          go_roundw
          case rel => exact ⟨i + 1, by omega, by go_num, by rw [E.out], by rw [E.out], HB.out⟩
          case measure => simp [intOf]; omega
    · obtain rfl : i = s.length := by omega
      go_wp2_with fail
      go_ret
      exact ⟨rfl, HB.out⟩
end
namespace Vec
def h1 : List UInt8 := [98, 97, 55, 56, 49, 54, 98, 102, 56, 102, 48, 49, 99, 102, 101, 97, 52, 49, 52, 49, 52, 48, 100, 101, 53, 100, 97, 101, 50, 50, 50, 51, 98, 48, 48, 51, 54, 49, 97, 51, 57, 54, 49, 55, 55, 97, 57, 99, 98, 52, 49, 48, 102, 102, 54, 49, 102, 50, 48, 48, 49, 53, 97, 100]
def h2 : List UInt8 := [101, 51, 98, 48, 99, 52, 52, 50, 57, 56, 102, 99, 49, 99, 49, 52, 57, 97, 102, 98, 102, 52, 99, 56, 57, 57, 54, 102, 98, 57, 50, 52, 50, 55, 97, 101, 52, 49, 101, 52, 54, 52, 57, 98, 57, 51, 52, 99, 97, 52, 57, 53, 57, 57, 49, 98, 55, 56, 53, 50, 98, 56, 53, 53]
def h3 : List UInt8 := [50, 52, 56, 100, 54, 97, 54, 49, 100, 50, 48, 54, 51, 56, 98, 56, 101, 53, 99, 48, 50, 54, 57, 51, 48, 99, 51, 101, 54, 48, 51, 57, 97, 51, 51, 99, 101, 52, 53, 57, 54, 52, 102, 102, 50, 49, 54, 55, 102, 54, 101, 99, 101, 100, 100, 52, 49, 57, 100, 98, 48, 54, 99, 49]
def long : List UInt8 := [97, 98, 99, 100, 98, 99, 100, 101, 99, 100, 101, 102, 100, 101, 102, 103, 101, 102, 103, 104, 102, 103, 104, 105, 103, 104, 105, 106, 104, 105, 106, 107, 105, 106, 107, 108, 106, 107, 108, 109, 107, 108, 109, 110, 108, 109, 110, 111, 109, 110, 111, 112, 110, 111, 112, 113]
theorem sum1 : Sha.sum [97, 98, 99] = (hexF h1 h1.length).1 := by decide +kernel
theorem sum2 : Sha.sum [] = (hexF h2 h2.length).1 := by decide +kernel
theorem sum3 : Sha.sum long = (hexF h3 h3.length).1 := by decide +kernel
def key (i : Nat) : List UInt8 := (List.range i).map UInt8.ofNat
theorem key_succ (i : Nat) : key (i + 1) = key i ++ [UInt8.ofNat i] := by simp [key, List.range_succ]
theorem key_len (i : Nat) : (key i).length = i := by simp [key]
theorem k0 : U (toU 506097522914230528) = 506097522914230528 := by decide +kernel
theorem k1 : U (toU 1084818905618843912) = 1084818905618843912 := by decide +kernel
theorem sip1 : U (Sip.sip (toU 506097522914230528) (toU 1084818905618843912) (key 15)) = 11613035633349379557 := by decide +kernel
theorem sip2 : U (Sip.sip (toU 506097522914230528) (toU 1084818905618843912) []) = 8246050544436514353 := by decide +kernel
end Vec
set_option maxHeartbeats 2000000 in
theorem vectors_calls (w : World) (hT : Tabs w) :
    Calls Tryd.prog 6 #[] w fun e w' => e = .returned (.bool true) ∧ Below w.heap.size w w' := by
  have h1w := hT.lt
  have HT := Lib.hid hT
  clear hT
  go_enter Tryd.func6, Tryd.ntmps6
  go_wp2_with fail
  go_loopw [1, 10] (fun sv iv wr => ∃ (i : Nat) (x : List UInt8), i ≤ 1000 ∧ iv = .int .i64 i ∧ sv = .string (str x) ∧ x.length = 10 * i ∧ wr = w) (fun _ iv _ => 1000 - (intOf iv).toNat)
  case atStart => exact ⟨0, [], by omega, rfl, rfl, rfl, rfl⟩
  case round =>
    obtain ⟨i, x, hi, rfl, rfl, hl, rfl⟩ := hrel
    by_cases hlt : i < 1000
    · have p1 : (i : Int) < 1000 := by omega
      have hle : x.length ≤ 10000 := by omega
      have HL := Lib.hid hl
      clear hl
      go_wp2_with fail
      go_roundw
      case rel => exact ⟨i + 1, x ++ [97, 97, 97, 97, 97, 97, 97, 97, 97, 97], by omega, by go_num, rfl, by rw [List.length_append, HL.out]; simp; omega, by first | trivial | rfl⟩
      case measure => simp [intOf]; omega
    · obtain rfl : i = 1000 := by omega
      have hxl : x.length ≤ 10000 := by omega
      clear hl
      have B0 := Lib.hid (Below.refl wr.heap.size wr)
      go_wp2_with fail
      have S := Lib.hid (relaySum_calls [97, 98, 99] wr (HT.out.below B0.out h1w) (by decide))
      rw [Vec.sum1] at S
      have X := Lib.hid (fun w' => hex_calls Vec.h1 w' (by decide))
      generalize (Vec.hexF Vec.h1 Vec.h1.length).1 = y1 at S X
      refine S.out.mono ?_
      rintro e w1 ⟨rfl, hb⟩
      have B1 := Lib.hid (B0.out.trans (hb.mono B0.out.size))
      clear hb S
      go_wp2_with fail
      refine (X.out _).mono ?_
      rintro e w2 ⟨rfl, hb⟩
      have B2 := Lib.hid (B1.out.trans (hb.mono B1.out.size))
      clear hb X
      go_wp2_with fail
      have S := Lib.hid (relaySum_calls [] w2 (HT.out.below B2.out h1w) (by decide))
      rw [Vec.sum2] at S
      have X := Lib.hid (fun w' => hex_calls Vec.h2 w' (by decide))
      generalize (Vec.hexF Vec.h2 Vec.h2.length).1 = y2 at S X
      refine S.out.mono ?_
      rintro e w3 ⟨rfl, hb⟩
      have B3 := Lib.hid (B2.out.trans (hb.mono B2.out.size))
      clear hb S
      go_wp2_with fail
      refine (X.out _).mono ?_
      rintro e w4 ⟨rfl, hb⟩
      have B4 := Lib.hid (B3.out.trans (hb.mono B3.out.size))
      clear hb X
      go_wp2_with fail
      have S := Lib.hid (relaySum_calls Vec.long w4 (HT.out.below B4.out h1w) (by decide))
      rw [Vec.sum3] at S
      have X := Lib.hid (fun w' => hex_calls Vec.h3 w' (by decide))
      generalize (Vec.hexF Vec.h3 Vec.h3.length).1 = y3 at S X
      refine S.out.mono ?_
      rintro e w5 ⟨rfl, hb⟩
      have B5 := Lib.hid (B4.out.trans (hb.mono B4.out.size))
      clear hb S
      go_wp2_with fail
      refine (X.out _).mono ?_
      rintro e w6 ⟨rfl, hb⟩
      have B6 := Lib.hid (B5.out.trans (hb.mono B5.out.size))
      clear hb X
      go_wp2_with fail
      clear hi hlt
      go_loopw [6, 7, 25] (fun sv kv iv wr => ∃ i : Nat, i ≤ 15 ∧ iv = .int .i64 i ∧ sv = .string (str (Vec.key i)) ∧ Below w6.heap.size w6 wr) (fun _ _ iv _ => 15 - (intOf iv).toNat)
      case atStart => exact ⟨0, by omega, rfl, rfl, Below.refl _ _⟩
      case round =>
        obtain ⟨i, hi, rfl, rfl, hB⟩ := hrel
        have HB := Lib.hid hB
        clear hB
        by_cases hlt : i < 15
        · have p1 : (i : Int) < 15 := by omega
          have e1 : (i : Int) % 256 = Y (UInt8.ofNat i) := by unfold Y; rw [UInt8.toNat_ofNat']; omega
          have hl := Vec.key_len i
          have E := Lib.hid (Vec.key_succ i)
          generalize Vec.key i = k at hl E ⊢
          have hl' : k.length < 20 := by omega
          clear hl
          go_wp2_with fail
          go_roundw
          case rel => exact ⟨i + 1, by omega, by go_num, by rw [E.out], HB.out.alloc HB.out.size _⟩
          case measure => simp [intOf]; omega
        · obtain rfl : i = 15 := by omega
          have B7 := Lib.hid (B6.out.trans (HB.out.mono B6.out.size))
          have S4 := Lib.hid (relaySum_calls x wr (HT.out.below B7.out h1w) (by omega))
          have L4 := Sha.sum32 x
          go_wp2_with fail
          refine S4.out.mono ?_
          clear S4
          generalize Sha.sum x = y4 at L4 ⊢
          rintro e w8 ⟨rfl, hb⟩
          have B8 := Lib.hid (B7.out.trans (hb.mono B7.out.size))
          clear hb
          have S5 := Lib.hid (relaySip_calls (toU 506097522914230528) (toU 1084818905618843912) (Vec.key 15) (by rw [Vec.key_len]; decide) w8)
          rw [Vec.k0, Vec.k1, Vec.sip1] at S5
          go_wp2_with fail
          refine S5.out.mono ?_
          clear S5
          rintro e w9 ⟨rfl, hb⟩
          have B9 := Lib.hid (B8.out.trans (hb.mono B8.out.size))
          clear hb
          have S6 := Lib.hid (relaySip_calls (toU 506097522914230528) (toU 1084818905618843912) [] (by decide) w9)
          rw [Vec.k0, Vec.k1, Vec.sip2] at S6
          go_wp2_with fail
          refine S6.out.mono ?_
          clear S6
          rintro e w10 ⟨rfl, hb⟩
          have B10 := Lib.hid (B9.out.trans (hb.mono B9.out.size))
          clear hb
          go_wp2_with fail
          go_ret
          exact ⟨by first | rfl | simp, B10.out⟩
end Go.Proofs.YtlpcjiollnnmgaaDoor
