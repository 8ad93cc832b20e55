/-
  THE WALK OF THE REFERENCE's root.
-/
import Derived.Test.YtlpcjiollnnmgabGreatDoorRefTab
import Derived.OwnWalk
namespace Go.Proofs.YtlpcjiollnnmgabGreatDoor
open Go.RowKit Nums
theorem IC.lt {w : World} {b : Nat} {l : List Nat} (h : IC w b l) (hl : 0 < l.length) : b < w.heap.size := block_lt_of_cell (h 0 hl)
theorem dig_ints (x : Nat) (X : Int) (hX : X = (x : Int)) : [Value.int .i64 (X % 65536), .int .i64 (X / 65536 % 65536), .int .i64 (X / 65536 / 65536)] = wi (Tab.dig x) := by
  subst hX; simp [wi, Tab.dig]
theorem goal_ints (p pw : Nat) : wi (List.replicate (2 * pw) 0) ++ [Value.int .i64 (p : Int)] = wi (Tab.goal p pw) := by
  simp [wi, Tab.goal]
set_option maxRecDepth 100000 in
set_option maxHeartbeats 4000000 in
theorem root_any (p pw : Nat) (hp : p < 65536) (h2 : 2 ≤ pw) (h3 : pw ≤ 3) (w : World)
    (hmk : ∀ w : World, (Instr.makeSlice 25 (.int .i64 (2 * (pw : Int))) (.int .i64 (2 * (pw : Int) + 1))).run Tryz.prog w = .ok (.slice (some ⟨w.heap.size, 0, none⟩) (2 * pw) (2 * pw + 1)) (w.alloc (.cells (wi (List.replicate (2 * pw + 1) 0)).toArray 3))) :
    Calls Tryz.prog 54 #[.int .i64 (p : Int), .int .i64 (pw : Int)] w fun e w' =>
      e = .returned (.int .i64 (Tab.root p pw : Nat)) ∧ Below w.heap.size w w' := by
  obtain ⟨i0, hi0, hz0, hz1, hz2⟩ := info_parts Tryz.info3
  have hmk' := hmk w
  clear hmk
  have hown : (w.alloc (.cells (wi (List.replicate (2 * pw + 1) 0)).toArray 3)).ownsRow w.heap.size 3 1 (.slice (some ⟨w.heap.size, 0, none⟩) (2 * pw) (2 * pw + 1)) (2 * pw) (wi (List.replicate (2 * pw) 0)) :=
    ⟨by rw [wi_length]; simp, .inr ⟨w.heap.size, 2 * pw + 1, _, rfl, Nat.le_refl _, heap_alloc_new w _, by omega, by unfold maxLen; omega, by rw [List.size_toArray, wi_length]; simp, by simp [wi, List.map_replicate]⟩⟩
  have hB1 : Below w.heap.size w (w.alloc (.cells (wi (List.replicate (2 * pw + 1) 0)).toArray 3)) := (Below.refl _ _).alloc (Nat.le_refl _) _
  have hs1 : (w.alloc (.cells (wi (List.replicate (2 * pw + 1) 0)).toArray 3)).heap.size = w.heap.size + 1 := by simp
  generalize w.alloc _ = w1 at hown hmk' hB1 hs1
  have hown2 := hown.alloc (.cells #[.int .i64 (p : Int)] 3)
  have hB2 := hB1.alloc (by omega) (.cells #[.int .i64 (p : Int)] 3)
  have hs2 : (w1.alloc (.cells #[.int .i64 (p : Int)] 3)).heap.size = w.heap.size + 2 := by simp [hs1]
  have hc2 : (w1.alloc (.cells #[.int .i64 (p : Int)] 3)).cell? ⟨w1.heap.size, 0, none⟩ = some (.int .i64 (p : Int)) := (Row.new w1 [.int .i64 (p : Int)] _).cell 0
  rw [hs1] at hc2
  have HO := Lib.hid hown2
  have HC := Lib.hid hc2
  have HB := Lib.hid hB2
  have HS := Lib.hid hs2
  clear hown hown2 hB1 hB2 hs2 hc2
  go_enter Tryz.func54, Tryz.ntmps54
  go_wp2_with (at_builtin; refine wpList_append_fits _ rfl _ _ 25 rfl w.heap.size 3 i0 1 Tryz.underlying25 hi0 hz1 w.heap.size (2 * pw) (2 * pw + 1) _ rfl HO.out ⟨w.heap.size + 1, 0, none⟩ 1 1 [.int .i64 (p : Int)] rfl rfl (fun j u hu => by cases j with | zero => simp at hu; rw [← hu]; exact HC.out | succ j => simp at hu) (by simp [Value.oneCell']) (Nat.le_refl _) ?_; intro w3 hown3 hgr3)
  have hR3 := own_row hown3
  rw [goal_ints] at hR3
  have hB3 : Below w.heap.size w w3 := HB.out.trans (((Below.refl w.heap.size (w1.alloc (.cells #[.int .i64 (p : Int)] 3))).grown hgr3 (by rw [HS.out]; omega) (fun k hk => by cases hk; exact Nat.le_refl _)))
  have hz3 : w.heap.size < w3.heap.size := hR3.lt
  have hgl : (Tab.goal p pw).length = 2 * pw + 1 := by simp [Tab.goal]
  have hI3 := hR3.ic
  clear hown3 hgr3 hmk' HO HC HB HS hR3
  have A1 := Lib.hid hI3
  have A2 := Lib.hid hB3
  have HGL := Lib.hid hgl
  have HR : Hid (Tab.root p pw = Tab.bits (Tab.goal p pw) pw 37 0 % 4294967296) := Lib.hid rfl
  have hgt := Tab.goal_lt p pw hp
  have HGT := Lib.hid hgt
  clear hI3 hB3 hgl hgt
  generalize Tab.goal p pw = GOAL at A1 HGL HR HGT
  have h36 : (2 : Nat) ^ 37 = 137438953472 := by decide
  have H36 := Lib.hid h36
  clear h36
  go_loopw [6, 7] (fun rv bv wr => ∃ (n r : Nat), n ≤ 37 ∧ rv = .int .i64 r ∧ bv = .int .i64 ((2 ^ n / 2 : Nat) : Int) ∧ r + 2 ^ n ≤ 137438953472 ∧ Tab.bits GOAL pw 37 0 = Tab.bits GOAL pw n r ∧ IC wr w.heap.size GOAL ∧ Below w.heap.size w wr ∧ w.heap.size < wr.heap.size) (fun _ bv _ => (intOf bv).toNat)
  case atStart => exact ⟨37, 0, by omega, rfl, rfl, by decide, rfl, A1.out, A2.out, hz3⟩
  case round =>
    obtain ⟨n, r, hn, rfl, rfl, hrn, hb, hI, hB, hz⟩ := hrel
    by_cases h0 : n = 0
    · subst h0
      have B1 := Lib.hid hb
      have B2 := Lib.hid hB
      rw [show ((2 ^ 0 / 2 : Nat) : Int) = 0 from rfl]
      have hrb : (r : Int) < 137438953472 := by omega
      clear hb hI hB
      go_wp2_with fail
      go_ret
      have e : ((Tab.root p pw : Nat) : Int) = (r : Int) % 4294967296 := by rw [HR.out, B1.out, Tab.bits]; omega
      rw [e]
      exact ⟨rfl, B2.out⟩
    · obtain ⟨m, rfl⟩ : ∃ m, n = m + 1 := ⟨n - 1, by omega⟩
      have e1 : (2 ^ (m + 1) / 2 : Nat) = 2 ^ m := by rw [Nat.pow_succ]; omega
      rw [e1]
      replace hb := hb.trans (show Tab.bits GOAL pw (m + 1) r = Tab.bits GOAL pw m (if Tab.above (Tab.pow (Tab.dig (r + 2 ^ m)) (pw - 1)) GOAL then r else r + 2 ^ m) from rfl)
      have e2 : 0 < 2 ^ m := Nat.pow_pos (by decide)
      have hrn' : r + 2 * 2 ^ m ≤ 137438953472 := by rw [Nat.pow_succ] at hrn; omega
      have hnext : ∀ r', r' + 2 ^ m ≤ 137438953472 → Tab.bits GOAL pw 37 0 = Tab.bits GOAL pw m r' → ∃ (n r : Nat), n ≤ 37 ∧ Value.int .i64 (r' : Int) = .int .i64 r ∧ Value.int .i64 ((2 ^ m / 2 : Nat) : Int) = .int .i64 ((2 ^ n / 2 : Nat) : Int) ∧ r + 2 ^ n ≤ 137438953472 ∧ Tab.bits GOAL pw 37 0 = Tab.bits GOAL pw n r := fun r' h1 h2 => ⟨m, r', by omega, rfl, rfl, h1, h2⟩
      have HN := Lib.hid hnext
      have B1 := Lib.hid hb
      have B2 := Lib.hid hI
      have B3 := Lib.hid hB
      clear hb hI hB hrn e1 hnext
      generalize 2 ^ m = B at e2 hrn' B1 HN ⊢
      have p0 : (0 : Int) < (B : Int) := by omega
      have p1 : (r : Int) + 2 * (B : Int) ≤ 137438953472 := by omega
      go_wp2_with fail
      have hX : (r : Int) + (B : Int) = ((r + B : Nat) : Int) := by omega
      have hd0 : Row (wr.alloc (.cells (wi (Tab.dig (r + B))).toArray 3)) wr.heap.size (wi (Tab.dig (r + B))) := Row.new wr _ _
      rw [← dig_ints (r + B) _ hX] at hd0
      have hd1 : Row (wr.alloc (.cells #[.int .i64 (((r : Int) + (B : Int)) % 65536), .int .i64 (((r : Int) + (B : Int)) / 65536 % 65536), .int .i64 (((r : Int) + (B : Int)) / 65536 / 65536)] 3)) wr.heap.size (wi (Tab.dig (r + B))) := by
        rw [← dig_ints (r + B) _ hX]; exact hd0
      have hd2 := B3.out.alloc (by omega) (.cells #[.int .i64 (((r : Int) + (B : Int)) % 65536), .int .i64 (((r : Int) + (B : Int)) / 65536 % 65536), .int .i64 (((r : Int) + (B : Int)) / 65536 / 65536)] 3)
      have hd3 : IC (wr.alloc (.cells #[.int .i64 (((r : Int) + (B : Int)) % 65536), .int .i64 (((r : Int) + (B : Int)) / 65536 % 65536), .int .i64 (((r : Int) + (B : Int)) / 65536 / 65536)] 3)) w.heap.size GOAL := B2.out.below ((Below.refl _ _).alloc (Nat.le_refl _) _) hz
      have hd4 : wr.heap.size < (wr.alloc (.cells #[.int .i64 (((r : Int) + (B : Int)) % 65536), .int .i64 (((r : Int) + (B : Int)) / 65536 % 65536), .int .i64 (((r : Int) + (B : Int)) / 65536 / 65536)] 3)).heap.size := by simp
      clear hd0
      generalize wr.alloc _ = w5 at hd1 hd2 hd3 hd4 ⊢
      have hdig := Tab.dig_lt (r + B) (by omega)
      have hlen : (Tab.dig (r + B)).length = 3 := rfl
      have C1 := Lib.hid hd1.ic
      have C2 := Lib.hid hd2
      have C3 := Lib.hid hd3
      have C4 := Lib.hid hdig
      have C5 := Lib.hid hlen
      have hpl := Tab.pow_length (Tab.dig (r + B))
      rw [hlen] at hpl
      have C6 := Lib.hid hpl
      have C7 := Lib.hid (Tab.pow_outs _ hdig)
      clear hd1 hd2 hd3 hdig hlen hpl hX
      obtain ⟨wq, rfl⟩ : ∃ wq : World, wq = wr := ⟨_, rfl⟩
      go_loopw [10, 11] (fun nv kv wr => ∃ (k g : Nat), k + 1 ≤ pw ∧ kv = .int .i64 ((k + 1 : Nat) : Int) ∧ nv = .slice (some ⟨g, 0, none⟩) ((k + 1) * 3) ((k + 1) * 3) ∧ g < wr.heap.size ∧ IC wr g (Tab.pow (Tab.dig (r + B)) k) ∧ IC wr wq.heap.size (Tab.dig (r + B)) ∧ IC wr w.heap.size GOAL ∧ Below w.heap.size w wr ∧ wq.heap.size < wr.heap.size) (fun _ kv _ => pw - (intOf kv).toNat)
      case atStart => exact ⟨0, wq.heap.size, by omega, rfl, rfl, hd4, C1.out, C1.out, C3.out, C2.out, hd4⟩
      case round =>
        obtain ⟨k, g, hk, rfl, rfl, hg, hI1, hI2, hI3, hB, hzz⟩ := hrel
        have D1 := Lib.hid hI1
        have D2 := Lib.hid hI2
        have D3 := Lib.hid hI3
        have D4 := Lib.hid hB
        clear hI1 hI2 hI3 hB
        by_cases hlt : k + 1 < pw
        · go_wp2_with fail
          have ht := times_calls g ((k + 1) * 3) wq.heap.size 3 (Tab.pow (Tab.dig (r + B)) k) (Tab.dig (r + B)) wr D1.out D2.out hg hzz (C7.out k) C4.out (by rw [C6.out]; omega) (by rw [C5.out]; decide)
          rw [C6.out, C5.out] at ht
          refine ht.mono ?_
          clear ht
          rintro e w6 ⟨g', rfl, hR6, hg6, hB6⟩
          have hz6 := hB6.size
          have E1 := Lib.hid hR6.ic
          have hlt6 := hR6.lt
          have E2 := Lib.hid (D2.out.below hB6 (by omega))
          have E3 := Lib.hid (D3.out.below hB6 (by omega))
          have E4 := Lib.hid (D4.out.trans (hB6.mono (by omega)))
          have hz7 : wq.heap.size < w6.heap.size := by omega
          clear hR6 hg6 hB6
          rw [show (k + 1) * 3 + 3 = (k + 1 + 1) * 3 by omega]
          go_wp2_with fail
          go_roundw
          case rel => exact ⟨k + 1, g', by omega, by go_num, rfl, hlt6, E1.out, E2.out, E3.out, E4.out, hz7⟩
          case measure => simp [intOf]; omega
        · have hkp : pw - 1 = k := by omega
          have hb' := B1.out
          rw [hkp] at hb'
          clear hkp
          have F1 := Lib.hid hb'
          clear hb'
          go_wp2_with fail
          have ht := above_calls g ((k + 1) * 3) w.heap.size (2 * pw + 1) (Tab.pow (Tab.dig (r + B)) k) GOAL wr D1.out D3.out (by rw [C6.out]; omega) (by rw [HGL.out]; omega)
          rw [C6.out, HGL.out] at ht
          refine ht.mono ?_
          clear ht
          rintro e w6 ⟨rfl, rfl⟩
          cases hab : Tab.above (Tab.pow (Tab.dig (r + B)) k) GOAL with
          | false =>
            have hb2 := F1.out
            have hn : ¬ (Tab.above (Tab.pow (Tab.dig (r + B)) k) GOAL = true) := by rw [hab]; exact Bool.false_ne_true
            rw [if_neg hn] at hb2
            clear hn
            have F2 := Lib.hid hb2
            clear hb2 hab
            go_wp2_with fail
            go_roundw
            case rel =>
              obtain ⟨n', r', h1, h2, h3, h4, h5⟩ := HN.out (r + B) (by omega) F2.out
              exact ⟨n', r', h1, by rw [← h2]; go_num, by rw [← h3]; go_num, h4, h5, D3.out, D4.out, by omega⟩
            case measure => simp [intOf]; omega
          | true =>
            have hb2 := F1.out
            rw [if_pos hab] at hb2
            have F2 := Lib.hid hb2
            clear hb2 hab
            go_wp2_with fail
            go_roundw
            case rel =>
              obtain ⟨n', r', h1, h2, h3, h4, h5⟩ := HN.out r (by omega) F2.out
              exact ⟨n', r', h1, by rw [← h2], by rw [← h3]; go_num, h4, h5, D3.out, D4.out, by omega⟩
            case measure => simp [intOf]; omega
theorem root2_calls (p : Nat) (hp : p < 65536) (w : World) :
    Calls Tryz.prog 54 #[.int .i64 (p : Int), .int .i64 2] w fun e w' => e = .returned (.int .i64 (Tab.root p 2 : Nat)) ∧ Below w.heap.size w w' :=
  root_any p 2 hp (by decide) (by decide) w (fun _ => by kernel_rfl)
theorem root3_calls (p : Nat) (hp : p < 65536) (w : World) :
    Calls Tryz.prog 54 #[.int .i64 (p : Int), .int .i64 3] w fun e w' => e = .returned (.int .i64 (Tab.root p 3 : Nat)) ∧ Below w.heap.size w w' :=
  root_any p 3 hp (by decide) (by decide) w (fun _ => by kernel_rfl)
end Go.Proofs.YtlpcjiollnnmgabGreatDoor
