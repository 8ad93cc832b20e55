/-
  compactlaw: step, UpTo; Adds, Drops, IDs, Owned; a slice of steps as an argument.
-/
import Derived.Test.YtlpcjiollnnmgabGreatDoorLawF
import Derived.Test.YtlpcjiollnnmgabGreatDoorLawG
import Derived.Test.YtlpcjiollnnmgabGreatDoorLawA
import Derived.Test.YtlpcjiollnnmgabGreatDoorEnd
import Derived.Deep.Slices
import Derived.Deep.Fields
import Derived.ChangeSame
set_option maxRecDepth 100000
namespace Go.Proofs.YtlpcjiollnnmgabGreatDoor
section
open Nums
open Go.RowKit
open Lw
set_option maxHeartbeats 4000000 in
theorem step_none (w1 w : World) (t Wb : Nat) (τ : Nat → Nat) (ls : List Value) (rsv lsv : Value) (h : UpSt w1 w t Wb τ [] ls rsv lsv) (kd : Int) (hk1 : ¬ kd = 1) (a : Int) (s : List UInt8) :
    Calls Tryz.prog 28 #[.pointer (some ⟨Wb, 0, none⟩), .agg #[.int .i64 kd, .int .i64 a, .string (str s)]] w (StepPost w1 t Wb [] ls) := by
  have H := Lib.hid h
  obtain ⟨ra, rc, rfl⟩ := own_lenN h.rs
  clear h
  go_enter Tryz.func28, Tryz.ntmps28
  go_upto_region 1 with fail
  have hb0 : Below w.heap.size w (w.alloc (.cells #[.int .i64 kd, .int .i64 a, .string (str s)] 59)) := (Below.refl _ _).alloc (Nat.le_refl _) _
  have U2 := Lib.hid (H.out.below hb0)
  have ho0 : Row (w.alloc (.cells #[.int .i64 kd, .int .i64 a, .string (str s)] 59)) w.heap.size [.int .i64 kd, .int .i64 a, .string (str s)] := Row.new _ _ _
  have o0 := ho0.cell 0
  rw [show [Value.int .i64 kd, .int .i64 a, .string (str s)][0]? = some (.int .i64 kd) from rfl] at o0
  clear hb0 ho0 H
  obtain ⟨K, hK⟩ : ∃ K, w.heap.size = K := ⟨_, rfl⟩
  rw [hK] at o0 ⊢
  clear hK
  generalize w.alloc (.cells #[.int .i64 kd, .int .i64 a, .string (str s)] 59) = w2 at U2 o0 ⊢
  go_upto_region 8 with fail
  have hcw : w2.cell? ⟨Wb, 1, none⟩ = some (.slice ra 0 rc) := U2.out.wrow.cell 1
  go_wp2_with fail
  go_ret
  exact ⟨rfl, _, _, _, _, _, U2.out, by simp, by omega⟩
/-- whatever the step, but of a kind below 5 -/
theorem step_calls (w1 w : World) (t Wb : Nat) (τ : Nat → Nat) (ps : List PR) (ls : List Value) (rsv lsv : Value) (h : UpSt w1 w t Wb τ ps ls rsv lsv) (hT : Tabs w1) (hTB : TB w1 t) (kd a : Int) (s : List UInt8) (hk5 : kd < 5) (hn : ps.length ≤ 2097152) (hln : ls.length ≤ 4194304)
    (ha : -9223372036854775808 ≤ a ∧ a < 9223372036854775808) (hs : s.length ≤ 9223372036854775807) :
    Calls Tryz.prog 28 #[.pointer (some ⟨Wb, 0, none⟩), .agg #[.int .i64 kd, .int .i64 a, .string (str s)]] w (StepPost w1 t Wb ps ls) := by
  by_cases h1 : kd = 1
  · subst h1; exact step_new w1 w t Wb τ ps ls rsv lsv h a s hn
  · by_cases hps : 0 < ps.length
    · by_cases h2 : kd = 2
      · subst h2; exact step_add w1 w t Wb τ ps ls rsv lsv h hT hTB a s hn hps ha hs
      · by_cases h3 : kd = 3
        · subst h3; exact step_drop w1 w t Wb τ ps ls rsv lsv h hT hTB a s hn hps ha hs
        · by_cases h4 : kd = 4
          · subst h4; exact step_ids w1 w t Wb τ ps ls rsv lsv h hT hTB a s hn hps hln ha
          · exact step_other w1 w t Wb τ ps ls rsv lsv h hT hTB kd h1 h2 h3 h4 (by omega) (by omega) a s hn hps ha
    · obtain rfl : ps = [] := List.length_eq_zero_iff.1 (by omega)
      exact step_none w1 w t Wb τ ls rsv lsv h kd h1 a s
/-- how it begins -/
theorem Lw.UpSt.start (w1 : World) (t : Nat) : UpSt w1 (w1.alloc (.cells #[.pointer (some ⟨t, 0, none⟩), .slice none 0 0, .slice none 0 0, .bool false] 66)) t w1.heap.size (fun b => if b < w1.heap.size then 3 else 0) [] [] (.slice none 0 0) (.slice none 0 0) where
  bel := (Below.refl _ _).alloc (Nat.le_refl _) _
  low := fun b hb => if_pos hb
  wrow := Row.new w1 (wc t (.slice none 0 0) (.slice none 0 0)) _
  tW := if_neg (by omega)
  rs := World.ownsRow_nil _ _ _ _
  trs := fun g hg => by cases hg
  lso := World.ownsRow_nil _ _ _ _
  tls := fun g hg => by cases hg
  pairs := fun i p hp => by simp at hp
  lists := fun k v hv => by simp at hv
set_option maxHeartbeats 8000000 in
theorem upto_calls (c : Int) (hc0 : ¬ c = 0) (hc1 : ¬ c = -1) (hc5 : c < 5) (v : Value) (ol : List Lw.Op) (w : World) (hT : Tabs w) (h : Lw.OpsAt w v ol) (hok : ∀ o ∈ ol, o.ok) (hlen : ol.length ≤ 1048576) :
    Calls Tryz.prog 12 #[v, .int .i64 c] w fun e w' => e = .returned (.int .i64 (-1)) ∧ Below w.heap.size w w' := by
  obtain ⟨oa, oc, rfl⟩ := h.form
  have HO := Lib.hid h
  have HK := Lib.hid hok
  have HT := Lib.hid hT
  clear h hok hT
  go_enter Tryz.func12, Tryz.ntmps12
  go_wp2_with fail
  refine (newT_calls w).mono ?_
  rintro e w1 ⟨t, rfl, hTB, hb1⟩
  have B1 := Lib.hid hb1
  have HTB := Lib.hid hTB
  have HT1 := Lib.hid (HT.out.below hb1 HT.out.lt)
  have U0 := Lib.hid (Lw.UpSt.start w1 t)
  have hz1 := hb1.size
  clear hb1 hTB
  obtain ⟨Wb, hWb⟩ : ∃ Wb, w1.heap.size = Wb := ⟨_, rfl⟩
  have HWb := Lib.hid hWb
  go_wp2_with fail
  clear hWb
  go_loopw [14] (fun iv wr => ∃ (j : Nat) (τ : Nat → Nat) (ps : List PR) (ls : List Value) (rsv lsv : Value), j ≤ ol.length ∧ iv = .int .i64 j ∧ UpSt w1 wr t Wb τ ps ls rsv lsv ∧ ps.length ≤ j ∧ ls.length ≤ j) (fun iv _ => ol.length - (intOf iv).toNat)
  case atStart => exact ⟨0, _, _, _, _, _, by omega, rfl, (by rw [← HWb.out]; exact U0.out), by simp, by simp⟩
  case round =>
    obtain ⟨j, τ, ps, ls, rsv, lsv, hj, rfl, hU, hp1, hp2⟩ := hrel
    have HU := Lib.hid hU
    have HB := Lib.hid (B1.out.trans (hU.bel.mono hz1))
    clear hU
    by_cases hlt : j < ol.length
    · have q1 : (j : Int) < (ol.length : Int) := by omega
      obtain ⟨b, o, rfl, hb, hc⟩ := HO.out.at (by omega)
      obtain ⟨c0, c1, c2⟩ := hc j hlt
      have hok := HK.out (ol.getD j default) (by rw [List.getD_eq_getElem?_getD, List.getElem?_eq_getElem hlt]; exact List.getElem_mem hlt)
      have d0 := (World.cell?_of_block (w := w) (HB.out.block b hb)).trans c0
      have d1 := (World.cell?_of_block (w := w) (HB.out.block b hb)).trans c1
      have d2 := (World.cell?_of_block (w := w) (HB.out.block b hb)).trans c2
      have OK := Lib.hid hok
      unfold Lw.Op.ok at OK
      generalize (ol.getD j default).k = x0 at d0 OK
      generalize (ol.getD j default).a = x1 at d1 OK
      generalize (ol.getD j default).s = x2 at d2 OK
      clear hc c0 c1 c2 hok hb
      by_cases hk5 : 5 ≤ x0
      · go_wp2_with fail
        go_roundw
        case rel => exact ⟨j + 1, _, _, _, _, _, by omega, by go_num, HU.out.below ((Below.refl _ _).alloc (Nat.le_refl _) _), by omega, by omega⟩
        case measure => simp [intOf]; omega
      · by_cases hkc : x0 = c
        all_goals
          go_wp2_with fail
          refine (step_calls w1 _ t Wb τ ps ls rsv lsv (HU.out.below ((Below.refl _ _).alloc (Nat.le_refl _) _)) HT1.out HTB.out _ x1 x2 (by omega) (by omega) (by omega) OK.out.2.1 (by have := OK.out.2.2; omega)).mono ?_
          rintro e wx ⟨rfl, τ', ps', ls', rsv', lsv', hU', hp1', hp2'⟩
          have HU' := Lib.hid hU'
          clear hU'
          go_wp2_with fail
          go_roundw
          case rel => exact ⟨j + 1, _, _, _, _, _, by omega, by go_num, HU'.out, by omega, by omega⟩
          case measure => simp [intOf]; omega
    · obtain rfl : j = ol.length := by omega
      go_wp2_with fail
      go_ret
      exact ⟨rfl, HB.out⟩
end
section
open Nums
open Go.RowKit
open Lw
set_option maxHeartbeats 8000000 in
theorem upto_own (v : Value) (ol : List Lw.Op) (w : World) (hT : Tabs w) (h : Lw.OpsAt w v ol) (hok : ∀ o ∈ ol, o.ok) (hlen : ol.length ≤ 1048576) :
    Calls Tryz.prog 12 #[v, .int .i64 (-1)] w fun e w' => e = .returned (.int .i64 (-1)) ∧ Below w.heap.size w w' := by
  obtain ⟨oa, oc, rfl⟩ := h.form
  have HO := Lib.hid h
  have HK := Lib.hid hok
  have HT := Lib.hid hT
  clear h hok hT
  go_enter Tryz.func12, Tryz.ntmps12
  go_wp2_with fail
  refine (newT_calls w).mono ?_
  rintro e w1 ⟨t, rfl, hTB, hb1⟩
  have B1 := Lib.hid hb1
  have HTB := Lib.hid hTB
  have HT1 := Lib.hid (HT.out.below hb1 HT.out.lt)
  have U0 := Lib.hid (Lw.UpSt.start w1 t)
  have hz1 := hb1.size
  clear hb1 hTB
  obtain ⟨Wb, hWb⟩ : ∃ Wb, w1.heap.size = Wb := ⟨_, rfl⟩
  have HWb := Lib.hid hWb
  go_wp2_with fail
  clear hWb
  go_loopw [14] (fun iv wr => ∃ (j : Nat) (τ : Nat → Nat) (ps : List PR) (ls : List Value) (rsv lsv : Value), j ≤ ol.length ∧ iv = .int .i64 j ∧ UpSt w1 wr t Wb τ ps ls rsv lsv ∧ ps.length ≤ j ∧ ls.length ≤ j) (fun iv _ => ol.length - (intOf iv).toNat)
  case atStart => exact ⟨0, _, _, _, _, _, by omega, rfl, (by rw [← HWb.out]; exact U0.out), by simp, by simp⟩
  case round =>
    obtain ⟨j, τ, ps, ls, rsv, lsv, hj, rfl, hU, hp1, hp2⟩ := hrel
    have HU := Lib.hid hU
    have HB := Lib.hid (B1.out.trans (hU.bel.mono hz1))
    clear hU
    by_cases hlt : j < ol.length
    · have q1 : (j : Int) < (ol.length : Int) := by omega
      obtain ⟨b, o, rfl, hb, hc⟩ := HO.out.at (by omega)
      obtain ⟨c0, c1, c2⟩ := hc j hlt
      have hok := HK.out (ol.getD j default) (by rw [List.getD_eq_getElem?_getD, List.getElem?_eq_getElem hlt]; exact List.getElem_mem hlt)
      have d0 := (World.cell?_of_block (w := w) (HB.out.block b hb)).trans c0
      have d1 := (World.cell?_of_block (w := w) (HB.out.block b hb)).trans c1
      have d2 := (World.cell?_of_block (w := w) (HB.out.block b hb)).trans c2
      have OK := Lib.hid hok
      unfold Lw.Op.ok at OK
      generalize (ol.getD j default).k = x0 at d0 OK
      generalize (ol.getD j default).a = x1 at d1 OK
      generalize (ol.getD j default).s = x2 at d2 OK
      clear hc c0 c1 c2 hok hb
      by_cases hk5 : 5 ≤ x0
      · go_wp2_with fail
        go_roundw
        case rel => exact ⟨j + 1, _, _, _, _, _, by omega, by go_num, HU.out.below ((Below.refl _ _).alloc (Nat.le_refl _) _), by omega, by omega⟩
        case measure => simp [intOf]; omega
      · rcases (show x0 = -1 ∨ x0 = 4 ∨ (¬ x0 = -1 ∧ ¬ x0 = 4) by omega) with rfl | rfl | ⟨hkc, hk4⟩
        all_goals
          go_wp2_with fail
          refine (step_calls w1 _ t Wb τ ps ls rsv lsv (HU.out.below ((Below.refl _ _).alloc (Nat.le_refl _) _)) HT1.out HTB.out _ x1 x2 (by omega) (by omega) (by omega) OK.out.2.1 (by have := OK.out.2.2; omega)).mono ?_
          rintro e wx ⟨rfl, τ', ps', ls', rsv', lsv', hU', hp1', hp2'⟩
          have HU' := Lib.hid hU'
          have TL := Lib.hid (looks_calls Wb t w1.heap.size rsv' lsv' ls' wx hU'.wrow hU'.lso (fun k v hv => (hU'.lists k v hv).1) (by omega))
          clear hU'
          go_wp2_with fail
          refine TL.out.mono ?_
          clear TL
          rintro e wy ⟨rfl, hby⟩
          have HU2 := Lib.hid (HU'.out.below hby)
          clear hby
          go_wp2_with fail
          go_roundw
          case rel => exact ⟨j + 1, _, _, _, _, _, by omega, by go_num, HU2.out, by omega, by omega⟩
          case measure => simp [intOf]; omega
    · obtain rfl : j = ol.length := by omega
      go_wp2_with fail
      go_ret
      exact ⟨rfl, HB.out⟩
theorem Lw.OpsAt.below {w w' : World} {v : Value} {ol : List Lw.Op} {B : Nat} (h : Lw.OpsAt w v ol) (hb : Below B w w') (hB : w.heap.size ≤ B) : Lw.OpsAt w' v ol := by
  rcases h with h | ⟨b, o, cap, rfl, hlt, hc⟩
  · exact .inl h
  · refine .inr ⟨b, o, cap, rfl, Nat.lt_of_lt_of_le hlt hb.size, fun j hj => ?_⟩
    have e : ∀ i, w'.cell? ⟨b, i, none⟩ = w.cell? ⟨b, i, none⟩ := fun i => World.cell?_of_block (w := w) (hb.block b (by omega))
    rw [e, e, e]; exact hc j hj
set_option maxHeartbeats 2000000 in
theorem adds_calls (v : Value) (ol : List Lw.Op) (w : World) (hT : Tabs w) (h : Lw.OpsAt w v ol) (hok : ∀ o ∈ ol, o.ok) (hlen : ol.length ≤ 140737488355328) :
    Calls Tryz.prog 3 #[v] w fun e w' => e = .returned (.bool true) ∧ Below w.heap.size w w' := by
  have TS := Lib.hid (small_calls v ol w h hok hlen)
  have HO := Lib.hid h
  have HT := Lib.hid hT
  have HK := Lib.hid hok
  clear h hT hok
  go_enter Tryz.func3, Tryz.ntmps3
  go_wp2_with fail
  refine TS.out.mono ?_
  clear TS
  rintro e w1 ⟨⟨b, rfl, hb⟩, hb1⟩
  have B1 := Lib.hid hb1
  have HB := Lib.hid hb
  clear hb hb1
  cases b
  · go_wp2_with fail
    go_ret
    exact ⟨rfl, B1.out⟩
  · have TU := Lib.hid (upto_calls 2 (by omega) (by omega) (by omega) v ol w1 (HT.out.below B1.out HT.out.lt) (HO.out.below B1.out (Nat.le_refl _)) HK.out (HB.out rfl).1)
    go_wp2_with fail
    refine TU.out.mono ?_
    clear TU
    rintro e w2 ⟨rfl, hb2⟩
    have B2 := Lib.hid (B1.out.trans (hb2.mono B1.out.size))
    clear hb2
    go_wp2_with fail
    go_ret
    exact ⟨rfl, B2.out⟩
set_option maxHeartbeats 2000000 in
theorem drops_calls (v : Value) (ol : List Lw.Op) (w : World) (hT : Tabs w) (h : Lw.OpsAt w v ol) (hok : ∀ o ∈ ol, o.ok) (hlen : ol.length ≤ 140737488355328) :
    Calls Tryz.prog 4 #[v] w fun e w' => e = .returned (.bool true) ∧ Below w.heap.size w w' := by
  have TS := Lib.hid (small_calls v ol w h hok hlen)
  have HO := Lib.hid h
  have HT := Lib.hid hT
  have HK := Lib.hid hok
  clear h hT hok
  go_enter Tryz.func4, Tryz.ntmps4
  go_wp2_with fail
  refine TS.out.mono ?_
  clear TS
  rintro e w1 ⟨⟨b, rfl, hb⟩, hb1⟩
  have B1 := Lib.hid hb1
  have HB := Lib.hid hb
  clear hb hb1
  cases b
  · go_wp2_with fail
    go_ret
    exact ⟨rfl, B1.out⟩
  · have TU := Lib.hid (upto_calls 3 (by omega) (by omega) (by omega) v ol w1 (HT.out.below B1.out HT.out.lt) (HO.out.below B1.out (Nat.le_refl _)) HK.out (HB.out rfl).1)
    go_wp2_with fail
    refine TU.out.mono ?_
    clear TU
    rintro e w2 ⟨rfl, hb2⟩
    have B2 := Lib.hid (B1.out.trans (hb2.mono B1.out.size))
    clear hb2
    go_wp2_with fail
    go_ret
    exact ⟨rfl, B2.out⟩
set_option maxHeartbeats 2000000 in
theorem lids_calls (v : Value) (ol : List Lw.Op) (w : World) (hT : Tabs w) (h : Lw.OpsAt w v ol) (hok : ∀ o ∈ ol, o.ok) (hlen : ol.length ≤ 140737488355328) :
    Calls Tryz.prog 5 #[v] w fun e w' => e = .returned (.bool true) ∧ Below w.heap.size w w' := by
  have TS := Lib.hid (small_calls v ol w h hok hlen)
  have HO := Lib.hid h
  have HT := Lib.hid hT
  have HK := Lib.hid hok
  clear h hT hok
  go_enter Tryz.func5, Tryz.ntmps5
  go_wp2_with fail
  refine TS.out.mono ?_
  clear TS
  rintro e w1 ⟨⟨b, rfl, hb⟩, hb1⟩
  have B1 := Lib.hid hb1
  have HB := Lib.hid hb
  clear hb hb1
  cases b
  · go_wp2_with fail
    go_ret
    exact ⟨rfl, B1.out⟩
  · have TU := Lib.hid (upto_calls 4 (by omega) (by omega) (by omega) v ol w1 (HT.out.below B1.out HT.out.lt) (HO.out.below B1.out (Nat.le_refl _)) HK.out (HB.out rfl).1)
    go_wp2_with fail
    refine TU.out.mono ?_
    clear TU
    rintro e w2 ⟨rfl, hb2⟩
    have B2 := Lib.hid (B1.out.trans (hb2.mono B1.out.size))
    clear hb2
    go_wp2_with fail
    go_ret
    exact ⟨rfl, B2.out⟩
set_option maxHeartbeats 2000000 in
theorem owned_calls (v : Value) (ol : List Lw.Op) (w : World) (hT : Tabs w) (h : Lw.OpsAt w v ol) (hok : ∀ o ∈ ol, o.ok) (hlen : ol.length ≤ 140737488355328) :
    Calls Tryz.prog 8 #[v] w fun e w' => e = .returned (.bool true) ∧ Below w.heap.size w w' := by
  have TS := Lib.hid (small_calls v ol w h hok hlen)
  have HO := Lib.hid h
  have HT := Lib.hid hT
  have HK := Lib.hid hok
  clear h hT hok
  go_enter Tryz.func8, Tryz.ntmps8
  go_wp2_with fail
  refine TS.out.mono ?_
  clear TS
  rintro e w1 ⟨⟨b, rfl, hb⟩, hb1⟩
  have B1 := Lib.hid hb1
  have HB := Lib.hid hb
  clear hb hb1
  cases b
  · go_wp2_with fail
    go_ret
    exact ⟨rfl, B1.out⟩
  · have TU := Lib.hid (upto_own v ol w1 (HT.out.below B1.out HT.out.lt) (HO.out.below B1.out (Nat.le_refl _)) HK.out (HB.out rfl).1)
    go_wp2_with fail
    refine TU.out.mono ?_
    clear TU
    rintro e w2 ⟨rfl, hb2⟩
    have B2 := Lib.hid (B1.out.trans (hb2.mono B1.out.size))
    clear hb2
    go_wp2_with fail
    go_ret
    exact ⟨rfl, B2.out⟩
end
section
open Nums
open Go.ChangeShapes Go.WideShapes Go.ChangeAt Go.RowKit Go.Deep

theorem mem_weightsAll {H : Type} {P : Program} {e : TypeId} : ∀ (l : List (DataW H)) (x : DataW H), x ∈ l → ∀ k ∈ x.weights P e, k ∈ DataW.weightsAll P e l
  | y :: l, x, hx, k, hk => by
    unfold DataW.weightsAll
    rcases List.mem_cons.1 hx with rfl | hx
    · exact List.mem_append_left _ hk
    · exact List.mem_append_right _ (mem_weightsAll l x hx k hk)
theorem exists_list {α : Type} [Inhabited α] (Q : Nat → α → Prop) : ∀ n, (∀ i, i < n → ∃ a, Q i a) → ∃ l : List α, l.length = n ∧ ∀ j, j < n → Q j (l.getD j default)
  | 0, _ => ⟨[], rfl, fun j hj => by omega⟩
  | n + 1, h => by
    obtain ⟨l, hl, hq⟩ := exists_list Q n (fun i hi => h i (by omega))
    obtain ⟨a, ha⟩ := h n (by omega)
    refine ⟨l ++ [a], by simp [hl], fun j hj => ?_⟩
    by_cases hjn : j < n
    · have := hq j hjn
      rw [List.getD_eq_getElem?_getD, List.getElem?_append_left (by omega), ← List.getD_eq_getElem?_getD]
      exact this
    · obtain rfl : j = l.length := by omega
      rw [List.getD_eq_getElem?_getD, List.getElem?_append_right (Nat.le_refl _)]
      simp [hl]
      exact ha
theorem cellsOp : Tryz.prog.cellsOf 59 = 3 := by kernel_rfl
/-- an argument of type []Op -/
theorem ops_of_arg {H : Type} {enc : TypeId × Value → H} {W : World} {a0 : Option Addr} {n0 c0 : Nat} {d : DataW H} {ps : List MemPlace} (h : DataW.Trod enc Tryz.prog W 0 (fun _ => true) true 22 (.slice a0 n0 c0) d ps)
    (hw : (d.weights Tryz.prog 22).all (· ≤ reachBytes) = true) : ∃ ol, Lw.OpsAt W (.slice a0 n0 c0) ol ∧ (∀ o ∈ ol, o.ok) ∧ ol.length ≤ 140737488355328 := by
  obtain ⟨fuel, hf⟩ := h
  rcases open_slice Tryz.underlying22 hf with ⟨hcs, _⟩ | ⟨a, len, cap, m, n, D, Pl, hcs, _, hl, hcm, hm, hx, hi⟩
  · simp [Value.cells] at hcs
    obtain ⟨rfl, rfl, rfl⟩ := hcs
    exact ⟨[], .inl ⟨none, 0, rfl, rfl⟩, fun o ho => by simp at ho, by simp⟩
  · simp [Value.cells] at hcs
    obtain ⟨rfl, rfl, rfl⟩ := hcs
    have hle : n0 ≤ m := by rw [hm]; simp; exact hl
    simp only [Prod.mk.injEq] at hx
    obtain ⟨rfl, _⟩ := hx
    have hw1 := hw
    unfold DataW.weights at hw1
    rw [Tryz.underlying22] at hw1
    simp only [List.all_cons, List.all_append, Bool.and_eq_true, decide_eq_true_eq, List.length_map, List.length_range] at hw1
    obtain ⟨hw1, hw2, _⟩ := hw1
    have hb : Tryz.prog.bytesOf 59 = 32 := by kernel_rfl
    rw [hb] at hw1
    have hn0 : n0 ≤ 140737488355328 := by unfold reachBytes at hw1; omega
    have each : ∀ i, i < n0 → ∃ o : Lw.Op, (W.cell? (a.add (i * 3)) = some (.int .i64 o.k) ∧ W.cell? (a.add (i * 3 + 1)) = some (.int .i64 o.a) ∧ W.cell? (a.add (i * 3 + 2)) = some (.string (str o.s))) ∧ o.ok := by
      intro i hin
      obtain ⟨cs, hcc, htr⟩ := hi i (by omega)
      rw [cellsOp] at hcc
      obtain ⟨_, hcl, hat⟩ := World.cells?_some hcc
      obtain ⟨ys, n', _, hyy, _, hyl, hff⟩ := DataW.trod_struct Tryz.underlying59 htr
      have hD : D i = .agg (ys.map (·.1)) := (Prod.mk.inj hyy).1
      obtain ⟨v0, v1, v2, rfl⟩ : ∃ v0 v1 v2, cs = [v0, v1, v2] := by
        match cs, hcl with
        | [v0, v1, v2], _ => exact ⟨v0, v1, v2, rfl⟩
      have hc0 := hat 0 (by omega)
      have hc1 := hat 1 (by omega)
      have hc2 := hat 2 (by omega)
      obtain ⟨y0, y1, y2, rfl⟩ : ∃ y0 y1 y2, ys = [y0, y1, y2] := by
        match ys, hyl with
        | [y0, y1, y2], _ => exact ⟨y0, y1, y2, rfl⟩
      have ht0 : DataW.trod enc Tryz.prog W 0 (fun _ => true) true n' 3 [v0] = some y0 := hff 0 _ rfl
      have ht1 : DataW.trod enc Tryz.prog W 0 (fun _ => true) true n' 3 [v1] = some y1 := hff 1 _ rfl
      have ht2 : DataW.trod enc Tryz.prog W 0 (fun _ => true) true n' 9 [v2] = some y2 := hff 2 _ rfl
      rw [add_add] at hc0 hc1 hc2
      obtain ⟨k, hk, hky, hkw⟩ := DataW.trod_int (k := .i64) (by kernel_rfl) ht0
      obtain ⟨b, hb1, hby, hbw⟩ := DataW.trod_int (k := .i64) (by kernel_rfl) ht1
      obtain ⟨s, hs, hsy, _⟩ := DataW.trod_string (by kernel_rfl) ht2
      obtain rfl : v0 = .int .i64 k := by simpa using hk
      obtain rfl : v1 = .int .i64 b := by simpa using hb1
      obtain rfl : v2 = .string s := by simpa using hs
      rw [hky, hby, hsy] at hD
      have hmem : ∀ q ∈ (D i).weights Tryz.prog 59, q ≤ reachBytes := fun q hq =>
        of_decide_eq_true ((List.all_eq_true.1 hw2) q (mem_weightsAll _ _ (List.mem_map.2 ⟨i, List.mem_range.2 hin, rfl⟩) q hq))
      rw [hD] at hmem
      unfold DataW.weights at hmem
      rw [Tryz.underlying59] at hmem
      have hsl := hmem s.data.toList.length (by simp [DataW.weightsEach, DataW.weights])
      have hk2 : IntKind.min .i64 ≤ k ∧ k ≤ IntKind.max .i64 := by simpa [Lit.wf] using hkw
      have hb2 : IntKind.min .i64 ≤ b ∧ b ≤ IntKind.max .i64 := by simpa [Lit.wf] using hbw
      have e1 : IntKind.min .i64 = -9223372036854775808 := by kernel_rfl
      have e2 : IntKind.max .i64 = 9223372036854775807 := by kernel_rfl
      rw [e1, e2] at hk2 hb2
      refine ⟨⟨k, b, s.data.toList⟩, ⟨by simpa using hc0, by simpa using hc1, ?_⟩, ⟨hk2.1, ?_⟩, ⟨hb2.1, ?_⟩, ?_⟩
      · have h3 : W.cell? (a.add (i * 3 + 2)) = some (.string s) := by simpa using hc2
        exact h3
      · show k < _; omega
      · show b < _; omega
      · show s.data.toList.length ≤ _
        unfold reachBytes at hsl; omega
    obtain ⟨ol, hol, hq⟩ := exists_list (fun i (o : Lw.Op) => (W.cell? (a.add (i * 3)) = some (.int .i64 o.k) ∧ W.cell? (a.add (i * 3 + 1)) = some (.int .i64 o.a) ∧ W.cell? (a.add (i * 3 + 2)) = some (.string (str o.s))) ∧ o.ok) n0 each
    refine ⟨ol, ?_, fun o ho => ?_, by omega⟩
    · by_cases h0 : n0 = 0
      · subst h0
        exact .inl ⟨some a, _, rfl, List.length_eq_zero_iff.1 hol⟩
      · obtain ⟨b, off, spot⟩ := a
        have hspot : spot = none := by simpa [Addr.add] using World.cell?_spot (hq 0 (by omega)).1.1
        subst hspot
        refine .inr ⟨b, off, _, by rw [hol], ?_, fun j hj => ?_⟩
        · have := World.block_lt_of_cell? _ _ (hq 0 (by omega)).1.1
          simpa [Addr.add] using this
        · have := (hq j (by omega)).1
          simp only [Addr.add_lit] at this
          exact this
    · obtain ⟨j, hj, rfl⟩ := List.mem_iff_getElem.1 ho
      have := (hq j (by omega)).2
      rwa [List.getD_eq_getElem?_getD, List.getElem?_eq_getElem hj] at this
end
end Go.Proofs.YtlpcjiollnnmgabGreatDoor
