/-
  PROVED: the tied card of compactlaw.Roots: of every list of texts the program's Merkle root (or what is wrong) is the reference's. Conditions: the two tables as the program's text lays them; the form's own reach.
-/
import Derived.Test.YtlpcjiollnnmgaaDoorLaid
import Derived.Test.YtlpcjiollnnmgaaDoorRefMk
import Derived.Test.YtlpcjiollnnmgaaDoorEnd2
namespace Go.Proofs.YtlpcjiollnnmgaaDoor.roots
open Nums
open Go.ChangeShapes Go.WideShapes Go.ChangeAt Go.RowKit
open Go.ChangeMaps (open_string shut_string)
theorem take_all_len (ss : List (List UInt8)) (i : Nat) (h : i < ss.length) : ((ss.take (i + 1)).all fun s => s.length == 32) = (((ss.take i).all fun s => s.length == 32) && ((ss.getD i []).length == 32)) := by
  rw [List.take_succ_eq_append_getElem h, List.all_append, List.getD_eq_getElem?_getD, List.getElem?_eq_getElem h]; simp
theorem law (v : Value) (ss : List (List UInt8)) (w : World) (hT : Tabs w) (hv : Texts w v ss) (hlen : ss.length ≤ 9223372036854775807) :
    Calls Tryd.prog 4 #[v] w fun e w' => e = .returned (.bool true) ∧ Below w.heap.size w w' := by
  have HV := Lib.hid hv
  have HT := Lib.hid hT
  clear hT
  have hsl : ∃ a c, v = .slice a ss.length c := by
    rcases hv with ⟨a, c, h1, rfl⟩ | ⟨b, o, c, h1, _⟩
    · exact ⟨a, c, h1⟩
    · exact ⟨_, c, h1⟩
  obtain ⟨a, c, rfl⟩ := hsl
  clear hv
  by_cases h : ss.length > 300
  · have p0 : (300 : Int) < (ss.length : Int) := by omega
    go_enter Tryd.func4, Tryd.ntmps4
    go_wp2
    go_ret
    exact ⟨rfl, Below.refl _ _⟩
  · have p0 : ¬ ((300 : Int) < (ss.length : Int)) := by omega
    have H1 := Lib.hid (rroot_calls _ ss w HT.out HV.out (by omega))
    have hans : Mk.fit ss = true → Mk.answer ss = .tuple #[.string (str (Mk.root ss false).1), .bool (Mk.root ss false).2, .int .i64 0] := fun hf => by unfold Mk.answer; rw [if_pos hf]
    have hbad : Mk.fit ss = false → Mk.answer ss = .tuple #[.string (str []), .bool false, .int .i64 3] := fun hf => by unfold Mk.answer; rw [hf]; rfl
    have hfit : Mk.fit ss = (decide (0 < ss.length) && ss.all fun s => s.length == 32) := rfl
    obtain ⟨r, m, e, hA⟩ : ∃ r m e, Mk.answer ss = .tuple #[.string (str r), .bool m, .int .i64 e] := by
      cases hf : Mk.fit ss with
      | true => exact ⟨_, _, _, hans hf⟩
      | false => exact ⟨_, _, _, hbad hf⟩
    have HA := Lib.hid hA
    have H2 := Lib.hid hans
    have H3 := Lib.hid hbad
    have H4 := Lib.hid hfit
    clear hans hbad hfit hA
    go_enter Tryd.func4, Tryd.ntmps4
    go_wp2_with fail
    refine H1.out.mono ?_
    rintro e' w1 ⟨rfl, hb1⟩
    rw [HA.out]
    have H5 := Lib.hid hb1
    have H6 := Lib.hid (HV.out.below hb1 (Nat.le_refl _))
    clear hb1
    go_wp2_with fail
    obtain ⟨w2, rfl⟩ : ∃ w2 : World, w2 = w1 := ⟨_, rfl⟩
    go_loopw [6, 25] (fun ov iv wr => ∃ i : Nat, i ≤ ss.length ∧ iv = .int .i64 i ∧ ov = .bool (decide (0 < ss.length) && (ss.take i).all fun s => s.length == 32) ∧ wr = w2) (fun _ iv _ => ss.length - (intOf iv).toNat)
    case atStart => exact ⟨0, by omega, rfl, by simp, rfl⟩
    case round =>
      obtain ⟨i, hi, rfl, rfl, rfl⟩ := hrel
      by_cases hlt : i < ss.length
      · have hpos : 0 < ss.length := by omega
        obtain ⟨b, o, c2, hve, hbb, hP⟩ := H6.out.open hpos
        cases hve
        have cs := hP i hlt
        have htk := take_all_len ss i hlt
        have hd : decide (0 < ss.length) = true := by simpa using hpos
        rw [hd, Bool.true_and]
        have G1 := Lib.hid htk
        have G2 := Lib.hid hd
        clear htk hd hP
        generalize ((ss.take i).all fun s => s.length == 32) = bb at G1
        generalize ss.getD i [] = s at cs G1
        have p1 : (i : Int) < (ss.length : Int) := by omega
        cases bb
        · go_wp2_with fail
          go_roundw
          case rel => exact ⟨i + 1, by omega, by go_num, by rw [G1.out]; rfl, by first | rfl | trivial⟩
          case measure => simp [intOf]; omega
        · have hsl : ((s.length : Int) == 32) = (s.length == 32) := by rw [Bool.eq_iff_iff]; simp only [beq_iff_eq]; omega
          go_wp2_with fail
          go_roundw
          case rel => exact ⟨i + 1, by omega, by go_num, by rw [G1.out]; rfl, by first | rfl | trivial⟩
          case measure => simp [intOf]; omega
      · obtain rfl : i = ss.length := by omega
        rw [List.take_of_length_le (Nat.le_refl _), ← H4.out]
        cases hf : Mk.fit ss with
        | false =>
          have hA2 := H3.out hf
          rw [HA.out] at hA2
          simp only [Value.tuple.injEq, Array.mk.injEq, List.cons.injEq, Value.string.injEq, Value.bool.injEq, Value.int.injEq, true_and, and_true] at hA2
          obtain ⟨hr, rfl, rfl⟩ := hA2
          have hr' := str_inj hr
          subst hr'
          go_wp2_with fail
          go_ret
          exact ⟨by simp, H5.out⟩
        | true =>
          have hA2 := H2.out hf
          rw [HA.out] at hA2
          simp only [Value.tuple.injEq, Array.mk.injEq, List.cons.injEq, Value.string.injEq, Value.bool.injEq, Value.int.injEq, true_and, and_true] at hA2
          obtain ⟨hr, hm2, rfl⟩ := hA2
          have hr' := str_inj hr
          have hf2 := hf
          rw [H4.out] at hf2
          simp only [Bool.and_eq_true, List.all_eq_true, beq_iff_eq, decide_eq_true_eq] at hf2
          have G1 := Lib.hid hf2
          have G2 := Lib.hid hr'
          have G3 := Lib.hid hm2
          have hpos := hf2.1
          clear hf2 hr hr' hm2
          go_wp2_with fail
          refine (newT_calls _).mono ?_
          rintro e4 w4 ⟨t, rfl, hTB, hb4⟩
          have H7 := Lib.hid (rroot2_calls t _ ss w4 hTB (H6.out.below hb4 (Nat.le_refl _)) G1.out.2 hpos (by omega))
          have H8 := Lib.hid (H5.out.trans (hb4.mono H5.out.size))
          clear hTB hb4
          go_wp2_with fail
          refine H7.out.mono ?_
          rintro e5 w5 ⟨rfl, hb5⟩
          rw [← G2.out, ← G3.out]
          have H9 := Lib.hid (H8.out.trans (hb5.mono H8.out.size))
          clear hb5
          go_wp2_with fail
          go_ret
          exact ⟨by simp, H9.out⟩
theorem laid_met (os : Os) : laidMet Tryd.prog Rows.rootsRow.laid ((laidWorld os).forCall (fun _ _ => 0) ⟨#[], #[.slice none 0 0], []⟩).memory :=
  laidMet_of_run' 8 (by kernel_rfl) (by kernel_rfl)
theorem reads (os : Os) {H : Type} (enc : TypeId × Value → H) : ∃ places, DataW.whole enc Tryd.prog ((laidWorld os).forCall (fun _ _ => 0) ⟨#[], #[.slice none 0 0], []⟩).memory Tryd.f4.params.toList Rows.rootsSpec.vars false #[Value.slice none 0 0].toList 8 = some ([.nil], [], places) :=
  ⟨[], by kernel_rfl⟩
set_option maxRecDepth 100000 in
theorem lifted (os : Os) (started : os.Started) (H : Type) (enc : TypeId × Value → H) (F : Stop.Interp) :
    ReturnsInHanded {} Tryd.checked os 4 .any ((OpenSpec.ofChange Rows.rootsSpec).preRow enc Tryd.prog Tryd.f4 Rows.rootsRow.domain false Rows.rootsRow.laid) (((OpenSpec.ofChange Rows.rootsSpec).at F).post enc Tryd.prog Tryd.f4 false true false false) := by
  obtain ⟨places, hx⟩ := reads os enc
  refine returnsInHanded_of_row (C := Tryd.checked) (s := OpenSpec.ofChange Rows.rootsSpec) Tryd.ownKnob started (by kernel_rfl) Tryd.func4
    (witness_row_at (enc := enc) (C := Tryd.checked) false (laidWorld os) #[.slice none 0 0] rfl (by kernel_rfl) (by kernel_rfl) (by kernel_rfl)
      (OpenSpec.preRow_of_cond 8 hx (by kernel_rfl) (fun k hk => by cases hk) (by kernel_rfl) (laid_met os))) ?_
  intro W base args ds gs before hval hW _ _ _ hL _ _
  have hW' := hW
  obtain ⟨p, q, hA0, hV, rfl, hfz, hnd⟩ := hW
  have hA : DataW.TrodAll enc Tryd.prog W 0 (fun _ => true) true Tryd.f4.params.toList args.toList ds p := hA0
  rw [Tryd.params4] at hA hval
  obtain ⟨v0, vs0, d0, ds0, p0, q0, hargs, rfl, rfl, h0, r0⟩ := trodAll_cons hA
  obtain ⟨rfl, rfl, rfl⟩ := trodAll_nil r0
  obtain rfl : args = #[v0] := by cases args; simp_all
  obtain ⟨rfl, rfl⟩ := trodVars_none hV
  obtain ⟨a0, n0, c0, rfl⟩ := okWide_slice Tryd.underlying26 (hval 0 26 v0 rfl rfl)
  clear hA0
  simp only [List.append_nil] at hW'
  have hlt : ∀ x ∈ p0, x.block < W.heap.size := fun x hx => by simpa using hW'.lt x hx
  obtain ⟨ss, hss, hlen⟩ := texts_of_arg h0
  refine (law _ ss W (tabs_of_laid hL) hss (Nat.le_trans hlen (by unfold maxLen; omega))).mono fun e W' ⟨he, hg⟩ => ?_
  subst he
  exact ⟨_, rfl, post_of_below2 (ds := [d0]) (gs := []) (before := p0) (pa := p0 ++ []) (pv := []) hW' (fun _ _ _ => (trodAll_cons_mk (shut_bool Tryd.underlying4 _) trodAll_mk0)) (by
    have := Below.trod Tryd.laidOut' (by kernel_rfl) (of_decide_eq_true (by kernel_rfl)) h0 hg hlt
    exact (show DataW.TrodAll enc Tryd.checked.prog W' 0 (fun b => decide (b < W.heap.size)) true Tryd.f4.params.toList [.slice a0 n0 c0] [d0] (p0 ++ []) from trodAll_cons_mk this trodAll_mk0)) (show DataW.TrodVars enc Tryd.checked.prog W' (fun b => decide (b < W.heap.size)) [] [] [] from rfl) (by simp) hg⟩
theorem said : Rows.RootsSaid :=
  OpenClaim.holds_of_cond 4 Tryd.f4 rfl rfl rfl rfl rfl rfl rfl ⟨rfl, rfl, rfl, rfl, rfl⟩ rfl rfl rfl rfl rfl (by kernel_rfl) Tryd.func4 (by kernel_rfl)
    (of_decide_eq_true (by kernel_rfl)) (by unfold Func.isWrapper; first | (rw [if_pos (by decide +kernel)]; kernel_rfl) | (rw [if_neg (by decide +kernel)]; exact ⟨rfl, rfl⟩))
    (fun os started H enc _ F => by rw [OpenClaim.pre_eq_preRow]; exact lifted os started H enc F)
theorem plain (f : FuncId) (fn : Func) (hf : Tryd.pinned.checked.prog.funcNamed "compact/compactlaw.Roots" = some f) (hfn : Tryd.pinned.checked.prog.funcs[f]? = some fn) :
    true = Tryd.pinned.checked.prog.looks [] ∧ ∀ (j : Nat) t, fn.params[j]? = some t → Tryd.pinned.checked.prog.wantsStandIn t = false := by
  obtain rfl : f = 4 := Option.some.inj ((show Tryd.prog.funcNamed "compact/compactlaw.Roots" = some 4 by kernel_rfl).symm.trans hf) |>.symm
  obtain rfl : fn = Tryd.f4 := (Option.some.inj (Tryd.func4.symm.trans hfn)).symm
  refine ⟨by kernel_rfl, fun j t ht => ?_⟩
  rw [Tryd.params4] at ht
  obtain rfl : t = 26 := by simpa using Array.mem_of_getElem? ht
  exact (show Tryd.prog.wantsStandIn 26 = false by kernel_rfl)
/-- ████ THE CARD ████ -/
theorem card : Rows.RootsCardSaid :=
  Claim7.holds_tied_plain_at .later [] _ _ _ _ said (fun _ h => by cases h) (by kernel_rfl) (fun _ h => by cases h) roots_row_tie rfl ⟨rfl, rfl⟩ (by kernel_rfl) rfl plain (by kernel_rfl)
#print axioms card
end Go.Proofs.YtlpcjiollnnmgaaDoor.roots
