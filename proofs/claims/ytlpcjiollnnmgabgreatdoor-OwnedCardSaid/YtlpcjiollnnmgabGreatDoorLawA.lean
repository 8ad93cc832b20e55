/-
  compactlaw: pick, mark, same, small.
-/
import Derived.Test.YtlpcjiollnnmgabGreatDoorKeep
import Derived.Test.YtlpcjiollnnmgabGreatDoorRPool
set_option maxRecDepth 100000
namespace Go.Proofs.YtlpcjiollnnmgabGreatDoor
open Nums
open Go.RowKit
theorem lpick_calls (c n : Int) (w : World) (h0 : 0 < n) (h1 : n < 9223372036854775808) (hc : -9223372036854775808 ≤ c ∧ c < 9223372036854775808) :
    Calls Tryz.prog 55 #[.int .i64 c, .int .i64 n] w fun e w' => e = .returned (.int .i64 (Keeps.pick c n)) ∧ w' = w := by
  unfold Keeps.pick
  have hn : n ≠ 0 := by omega
  by_cases hlt : c < 0
  · rw [if_pos hlt]
    have e1 : IntKind.i64.wrap (c + 1) = c + 1 := IntWalk.i64_in _ (by omega)
    have e2 : IntKind.i64.wrap (-(c + 1)) = -(c + 1) := IntWalk.i64_in _ (by omega)
    go_enter Tryz.func55, Tryz.ntmps55
    go_wp2_with fail
    go_ret
    have e3 : -(c + 1).tmod n = -(c + 1) % n := by rw [← Int.neg_tmod, Int.tmod_eq_emod_of_nonneg (by omega)]
    exact ⟨by rw [← e3]; rfl, rfl⟩
  · rw [if_neg hlt]
    go_enter Tryz.func55, Tryz.ntmps55
    go_wp2_with fail
    go_ret
    exact ⟨rfl, rfl⟩
namespace Lw
/-- a step of a script -/
structure Op where
  k : Int
  a : Int
  s : List UInt8
def opCells (o : Op) : List Value := [.int .i64 o.k, .int .i64 o.a, .string (str o.s)]
def Op.ok (o : Op) : Prop := (-9223372036854775808 ≤ o.k ∧ o.k < 9223372036854775808) ∧ (-9223372036854775808 ≤ o.a ∧ o.a < 9223372036854775808) ∧ o.s.length ≤ 140737488355328
instance : Inhabited Op := ⟨⟨0, 0, []⟩⟩
/-- a slice of steps, wherever it lies -/
def OpsAt (w : World) (v : Value) (ol : List Op) : Prop :=
  (∃ a cap, v = .slice a 0 cap ∧ ol = []) ∨ ∃ b o cap, v = .slice (some ⟨b, o, none⟩) ol.length cap ∧ b < w.heap.size ∧ ∀ j, j < ol.length → w.cell? ⟨b, o + j * 3, none⟩ = some (.int .i64 (ol.getD j default).k) ∧ w.cell? ⟨b, o + j * 3 + 1, none⟩ = some (.int .i64 (ol.getD j default).a) ∧ w.cell? ⟨b, o + j * 3 + 2, none⟩ = some (.string (str (ol.getD j default).s))
theorem OpsAt.form {w : World} {v : Value} {ol : List Op} (h : OpsAt w v ol) : ∃ a cap, v = .slice a ol.length cap := by
  rcases h with ⟨a, cap, rfl, rfl⟩ | ⟨b, o, cap, rfl, _⟩
  · exact ⟨a, cap, rfl⟩
  · exact ⟨_, cap, rfl⟩
theorem OpsAt.at {w : World} {a : Option Addr} {n cap : Nat} {ol : List Op} (h : OpsAt w (.slice a n cap) ol) (hn : 0 < ol.length) :
    ∃ b o, a = some ⟨b, o, none⟩ ∧ b < w.heap.size ∧ ∀ j, j < ol.length → w.cell? ⟨b, o + j * 3, none⟩ = some (.int .i64 (ol.getD j default).k) ∧ w.cell? ⟨b, o + j * 3 + 1, none⟩ = some (.int .i64 (ol.getD j default).a) ∧ w.cell? ⟨b, o + j * 3 + 2, none⟩ = some (.string (str (ol.getD j default).s)) := by
  rcases h with ⟨a', cap', h1, rfl⟩ | ⟨b, o, cap', h1, hb, hc⟩
  · simp at hn
  · cases h1; exact ⟨b, o, rfl, hb, hc⟩
/-- how many bytes and steps, so far -/
def tot (ol : List Op) (j : Nat) : Nat := ol.length + ((ol.take j).map fun o => o.s.length).sum
theorem tot_succ (ol : List Op) (j : Nat) (h : j < ol.length) : tot ol (j + 1) = tot ol j + (ol.getD j default).s.length := by
  unfold tot
  rw [List.take_succ_eq_append_getElem h, List.map_append, List.sum_append, List.getD_eq_getElem?_getD, List.getElem?_eq_getElem h]
  simp; omega
theorem tot_all (ol : List Op) : ∀ o ∈ ol, o.s.length ≤ tot ol ol.length := fun o ho => by
  unfold tot
  rw [List.take_length]
  have : ∀ l : List Op, o ∈ l → o.s.length ≤ (l.map fun o => o.s.length).sum := fun l hl => by
    induction l with
    | nil => cases hl
    | cons x l ih =>
      rw [List.map_cons, List.sum_cons]
      rcases List.mem_cons.1 hl with rfl | hl
      · omega
      · have := ih hl; omega
  have := this ol ho
  omega
/-- the mark of the k-th list -/
def mk (k : Nat) : List UInt8 := [109, 105, 110, 101, UInt8.ofNat k, UInt8.ofNat (k / 256), UInt8.ofNat (k / 65536)]
end Lw
set_option maxHeartbeats 2000000 in
theorem small_calls (v : Value) (ol : List Lw.Op) (w : World) (h : Lw.OpsAt w v ol) (hok : ∀ o ∈ ol, o.ok) (hlen : ol.length ≤ 140737488355328) :
    Calls Tryz.prog 11 #[v] w fun e w' => (∃ b, e = .returned (.bool b) ∧ (b = true → ol.length ≤ 1048576 ∧ ∀ o ∈ ol, o.s.length ≤ 1048576)) ∧ Below w.heap.size w w' := by
  obtain ⟨oa, oc, rfl⟩ := h.form
  have HO := Lib.hid h
  have HK := Lib.hid hok
  clear h hok
  go_enter Tryz.func11, Tryz.ntmps11
  go_wp2_with fail
  go_loopw [3, 10] (fun nv iv wr => ∃ j : Nat, j ≤ ol.length ∧ iv = .int .i64 j ∧ nv = .int .i64 (Lw.tot ol j : Nat) ∧ (0 < j → Lw.tot ol j ≤ 1048576) ∧ Below w.heap.size w wr) (fun _ iv _ => ol.length - (intOf iv).toNat)
  case atStart => exact ⟨0, by omega, rfl, by simp [Lw.tot], fun h => by omega, Below.refl _ _⟩
  case round =>
    obtain ⟨j, hj, rfl, rfl, hle, hB⟩ := hrel
    have HB := Lib.hid hB
    have HL := Lib.hid hle
    have hzr := hB.size
    clear hB hle
    by_cases hlt : j < ol.length
    · have p1 : (j : Int) < (ol.length : Int) := by omega
      obtain ⟨b, o, rfl, hb, hc⟩ := HO.out.at (by omega)
      obtain ⟨c0, c1, c2⟩ := hc j hlt
      have hok := HK.out (ol.getD j default) (by rw [List.getD_eq_getElem?_getD, List.getElem?_eq_getElem hlt]; exact List.getElem_mem hlt)
      have d0 := (World.cell?_of_block (w := w) (HB.out.block b hb)).trans c0
      have d1 := (World.cell?_of_block (w := w) (HB.out.block b hb)).trans c1
      have d2 := (World.cell?_of_block (w := w) (HB.out.block b hb)).trans c2
      have HT := Lib.hid (Lw.tot_succ ol j hlt)
      have hsl : (ol.getD j default).s.length ≤ 140737488355328 := hok.2.2
      have htl : Lw.tot ol j ≤ 140737488355328 := by
        by_cases h0 : 0 < j
        · have := HL.out h0; omega
        · obtain rfl : j = 0 := by omega
          simp [Lw.tot]; omega
      generalize (ol.getD j default).k = x0 at d0
      generalize (ol.getD j default).a = x1 at d1
      generalize (ol.getD j default).s = x2 at d2 HT hsl
      obtain ⟨T, hT⟩ : ∃ T, Lw.tot ol j = T := ⟨_, rfl⟩
      rw [hT] at HT htl HL ⊢
      clear hc c0 c1 c2 hok hb
      by_cases hbig : T + x2.length > 1048576
      · have p2 : (T : Int) + (x2.length : Int) > 1048576 := by omega
        clear hT
        go_wp2_with fail
        go_ret
        exact ⟨⟨false, rfl, (fun h => by cases h)⟩, HB.out.alloc hzr _⟩
      · have p2 : ¬ (T : Int) + (x2.length : Int) > 1048576 := by omega
        clear hT
        go_wp2_with fail
        go_roundw
        case rel => exact ⟨j + 1, by omega, by go_num, by rw [HT.out]; go_num, fun _ => by rw [HT.out]; omega, HB.out.alloc hzr _⟩
        case measure => simp [intOf]; omega
    · obtain rfl : j = ol.length := by omega
      have HA := Lib.hid (Lw.tot_all ol)
      have H0 : Hid (ol.length ≤ Lw.tot ol ol.length) := Lib.hid (by unfold Lw.tot; omega)
      go_wp2_with fail
      go_ret
      refine ⟨⟨_, rfl, fun h => ?_⟩, HB.out⟩
      have h' : Lw.tot ol ol.length ≤ 1048576 := by have := of_decide_eq_true h; omega
      exact ⟨Nat.le_trans H0.out h', fun o ho => Nat.le_trans (HA.out o ho) h'⟩
theorem mark_calls (k : Nat) (w : World) (hk : k < 9223372036854775808) :
    Calls Tryz.prog 65 #[.int .i64 k] w fun e w' => e = .returned (.string (str (Lw.mk k))) ∧ Below w.heap.size w w' := by
  unfold Lw.mk
  have e1 : (k : Int) / 256 = ((k / 256 : Nat) : Int) := by omega
  have e2 : (k : Int) / 65536 = ((k / 65536 : Nat) : Int) := by omega
  have h2 : k / 256 < 9223372036854775808 := by omega
  have h3 : k / 65536 < 9223372036854775808 := by omega
  generalize k / 256 = k2 at e1 h2 ⊢
  generalize k / 65536 = k3 at e2 h3 ⊢
  have hB : Bytes (w.alloc (.cells (w8 [UInt8.ofNat k, UInt8.ofNat k2, UInt8.ofNat k3]).toArray 5)) w.heap.size 0 [UInt8.ofNat k, UInt8.ofNat k2, UInt8.ofNat k3] := (Row.new w (w8 [UInt8.ofNat k, UInt8.ofNat k2, UInt8.ofNat k3]) 5).bytes
  have hB' : Bytes (w.alloc (.cells #[.int .u8 (Y (UInt8.ofNat k)), .int .u8 (Y (UInt8.ofNat k2)), .int .u8 (Y (UInt8.ofNat k3))] 5)) w.heap.size 0 [UInt8.ofNat k, UInt8.ofNat k2, UInt8.ofNat k3] := hB
  clear hB
  go_enter Tryz.func65, Tryz.ntmps65
  go_wp2_with (with_reducible refine conv_arm (o := ⟨some 12, _, _, _, _, _⟩) rfl _ _ _ _ rfl w.heap.size 0 3 3 [UInt8.ofNat k, UInt8.ofNat k2, UInt8.ofNat k3] rfl rfl Tryz.underlying35 Tryz.underlying5 Tryz.underlying9 hB' ?_)
  go_ret
  exact ⟨rfl, (Below.refl _ _).alloc (Nat.le_refl _) _⟩
/-- two lists of texts that are the same -/
theorem same_calls (va vb : Value) (l : List (List UInt8)) (w : World) (ha : Texts w va l) (hb : Texts w vb l) (hl : l.length ≤ 9223372036854775807) :
    Calls Tryz.prog 60 #[va, vb] w fun e w' => e = .returned (.bool true) ∧ Below w.heap.size w w' := by
  have HA := Lib.hid ha
  have HB := Lib.hid hb
  obtain ⟨aa, ac, rfl⟩ : ∃ a c, va = .slice a l.length c := by
    rcases ha with ⟨a, c, rfl, rfl⟩ | ⟨b, o, c, rfl, _⟩
    · exact ⟨a, c, rfl⟩
    · exact ⟨_, c, rfl⟩
  obtain ⟨ba, bc, rfl⟩ : ∃ a c, vb = .slice a l.length c := by
    rcases hb with ⟨a, c, rfl, rfl⟩ | ⟨b, o, c, rfl, _⟩
    · exact ⟨a, c, rfl⟩
    · exact ⟨_, c, rfl⟩
  clear ha hb
  go_enter Tryz.func60, Tryz.ntmps60
  go_wp2_with fail
  go_loopw [13] (fun iv wr => ∃ j : Nat, j ≤ l.length ∧ iv = .int .i64 j ∧ Below w.heap.size w wr) (fun iv _ => l.length - (intOf iv).toNat)
  case atStart => exact ⟨0, by omega, rfl, Below.refl _ _⟩
  case round =>
    obtain ⟨j, hj, rfl, hB⟩ := hrel
    have HW := Lib.hid hB
    clear hB
    by_cases hlt : j < l.length
    · have p1 : (j : Int) < (l.length : Int) := by omega
      have p0 : (0 : Int) ≤ (j : Int) := by omega
      obtain ⟨b1, o1, c1, h1, hb1, hp1⟩ := Texts.open HA.out (by omega)
      obtain ⟨b2, o2, c2, h2, hb2, hp2⟩ := Texts.open HB.out (by omega)
      cases h1
      cases h2
      have d1 := (World.cell?_of_block (w := w) (HW.out.block b1 hb1)).trans (hp1 j hlt)
      have d2 := (World.cell?_of_block (w := w) (HW.out.block b2 hb2)).trans (hp2 j hlt)
      generalize l.getD j [] = x at d1 d2
      clear hp1 hp2 hb1 hb2
      go_upto_region 6 with fail
      go_quiet (fail)
      go_wp2_with fail
      go_roundw
      case rel => exact ⟨j + 1, by omega, by go_num, below_drewN HW.out _⟩
      case measure => simp [intOf]; omega
    · obtain rfl : j = l.length := by omega
      go_wp2_with fail
      go_ret
      exact ⟨rfl, HW.out⟩
end Go.Proofs.YtlpcjiollnnmgabGreatDoor
