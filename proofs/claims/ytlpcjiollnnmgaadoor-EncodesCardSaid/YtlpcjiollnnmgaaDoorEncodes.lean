/-
  PROVED: the tied card of compactlaw.Encodes: any bytes told shortly, with any transactions sent along, as the reference says. Conditions: the two tables as the program's text lays them; the form's own reach of a string and a slice.
-/
import Derived.Test.YtlpcjiollnnmgaaDoorEncC
import Derived.Test.YtlpcjiollnnmgaaDoorREnc
import Derived.Test.YtlpcjiollnnmgaaDoorEnd2
namespace Go.Proofs.YtlpcjiollnnmgaaDoor.encodes
open Nums
open Go.ChangeShapes Go.WideShapes Go.ChangeAt Go.RowKit
open Go.ChangeMaps (open_string shut_string)
theorem encodes_calls (blk : List UInt8) (nonce : UInt64) (av : Value) (al : List Int) (w : World) (hT : Tabs w) (hl1 : blk.length ≤ 9223372036854775807) (ha : IntsAt w av al) (hr64 : ∀ j, j < al.length → -9223372036854775808 ≤ al.getD j 0 ∧ al.getD j 0 ≤ 9223372036854775807) :
    Calls Tryd.prog 9 #[.string (str blk), .int .u64 (U nonce), av] w fun e w' => e = .returned (.bool true) ∧ Below w.heap.size w w' := by
  by_cases hal : al.length > 1048576
  · obtain ⟨aa, ac, rfl⟩ := ha.form
    have p1 : (al.length : Int) > 1048576 := by omega
    clear ha hr64
    go_enter Tryd.func9, Tryd.ntmps9
    go_wp2_with fail
    go_ret
    exact ⟨rfl, Below.refl _ _⟩
  · have hal' : al.length ≤ 1048576 := by omega
    have T1 := Lib.hid (encode_calls blk nonce av al w hT hl1 ha hal' hr64)
    have HA := Lib.hid ha
    obtain ⟨p, hp⟩ : ∃ p, En.encode blk nonce al = p := ⟨_, rfl⟩
    have R1 := Lib.hid (fun t w' (h : TB w' t) (h2 : IntsAt w' av al) => rencode_calls t blk nonce av al w' h hl1 h2 hal')
    rw [hp] at T1 R1
    clear hp
    obtain ⟨s, n⟩ := p
    obtain ⟨aa, ac, rfl⟩ := ha.form
    have p1 : ¬ (al.length : Int) > 1048576 := by omega
    clear hT ha hr64 hal hal'
    go_enter Tryd.func9, Tryd.ntmps9
    go_wp2_with fail
    refine T1.out.mono ?_
    clear T1
    rintro e w1 ⟨rfl, hb1⟩
    have B1 := Lib.hid hb1
    clear hb1
    dsimp only [ansV]
    go_wp2_with fail
    refine (newT_calls _).mono ?_
    rintro e2 w2 ⟨tb, rfl, hTB, hb2⟩
    have B2 := Lib.hid (B1.out.trans (hb2.mono B1.out.size))
    have T2 := Lib.hid (R1.out tb w2 hTB (HA.out.below B2.out (Nat.le_refl _)))
    clear hTB hb2
    go_wp2_with fail
    refine T2.out.mono ?_
    clear T2
    rintro e3 w3 ⟨rfl, hb3⟩
    have B3 := Lib.hid (B2.out.trans (hb3.mono B2.out.size))
    clear hb3
    dsimp only [ansV]
    go_wp2_with fail
    go_ret
    exact ⟨by simp, B3.out⟩
theorem cellsInt : Tryd.prog.cellsOf 3 = 1 := by kernel_rfl
/-- an argument of type []int -/
theorem ints_of_arg {H : Type} {enc : TypeId × Value → H} {W : World} {a0 : Option Addr} {n0 c0 : Nat} {d : DataW H} {ps : List MemPlace} (h : DataW.Trod enc Tryd.prog W 0 (fun _ => true) true 45 (.slice a0 n0 c0) d ps) :
    ∃ al, IntsAt W (.slice a0 n0 c0) al ∧ ∀ j, j < al.length → -9223372036854775808 ≤ al.getD j 0 ∧ al.getD j 0 ≤ 9223372036854775807 := by
  obtain ⟨fuel, hf⟩ := h
  rcases open_ints Tryd.underlying45 Tryd.underlying3 cellsInt hf with ⟨hcs, _⟩ | ⟨a, len, cap, zs, hcs, _, hl, hcm, hzl, _, hcell, hwf⟩
  · simp [Value.cells] at hcs
    obtain ⟨rfl, rfl, rfl⟩ := hcs
    exact ⟨[], .inl ⟨none, 0, rfl, rfl⟩, fun j hj => by simp at hj⟩
  · simp [Value.cells] at hcs
    obtain ⟨rfl, rfl, rfl⟩ := hcs
    have hle : n0 ≤ zs.length := by rw [hzl]; simp; exact hl
    by_cases h0 : n0 = 0
    · subst h0; exact ⟨[], .inl ⟨some a, _, rfl, rfl⟩, fun j hj => by simp at hj⟩
    · obtain ⟨b, off, spot⟩ := a
      have hspot : spot = none := by simpa [Addr.add] using World.cell?_spot (hcell 0 (by omega))
      subst hspot
      have hlen : (zs.take n0).length = n0 := by rw [List.length_take]; omega
      have hget : ∀ j, j < n0 → (zs.take n0).getD j 0 = zs.getD j 0 := fun j hj => by
        rw [List.getD_eq_getElem?_getD, List.getD_eq_getElem?_getD, List.getElem?_take_of_lt hj]
      refine ⟨zs.take n0, .inr ⟨b, off, _, by rw [hlen], ?_, fun j hj => ?_⟩, fun j hj => ?_⟩
      · have := World.block_lt_of_cell? _ _ (hcell 0 (by omega))
        simpa [Addr.add] using this
      · rw [hlen] at hj
        rw [hget j hj, ← Addr.add_lit]
        exact hcell j (by omega)
      · rw [hlen] at hj
        rw [hget j hj]
        have hm : zs.getD j 0 ∈ zs := by rw [List.getD_eq_getElem?_getD, List.getElem?_eq_getElem (show j < zs.length by omega)]; exact List.getElem_mem _
        have := hwf _ hm
        simp [Lit.wf, IntKind.min, IntKind.max, IntKind.signed, IntKind.bits] at this
        rw [List.getD_eq_getElem?_getD]
        omega
theorem reach {a0 : ByteArray} (w0 : a0.size ≤ maxLen) : a0.toList.length ≤ 9223372036854775807 := Nat.le_trans (by rw [← str_size, str_of]; exact w0) (by unfold maxLen; omega)
theorem u64_of {a : Int} (w : (Lit.int .u64 a).wf = true) : a = U (toU a) := by
  rw [U_toU]
  simp [Lit.wf, IntKind.min, IntKind.max, IntKind.signed, IntKind.bits] at w
  omega
theorem walk (a0 : ByteArray) (a1 : Int) (av : Value) (al : List Int) (w0 : a0.size ≤ maxLen) (w1 : (Lit.int .u64 a1).wf = true) (w : World) (hT : Tabs w) (ha : IntsAt w av al) (hr64 : ∀ j, j < al.length → -9223372036854775808 ≤ al.getD j 0 ∧ al.getD j 0 ≤ 9223372036854775807) :
    Calls Tryd.prog 9 #[.string a0, .int .u64 a1, av] w fun e w' => e = .returned (.bool true) ∧ Below w.heap.size w w' := by
  have h := encodes_calls a0.toList (toU a1) av al w hT (reach w0) ha hr64
  rw [str_of, ← u64_of w1] at h
  exact h
theorem laid_met (os : Os) : laidMet Tryd.prog Rows.encodesRow.laid ((laidWorld os).forCall (fun _ _ => 0) ⟨#[], #[.string ByteArray.empty, .int .u64 0, .slice none 0 0], []⟩).memory :=
  laidMet_of_run' 8 (by kernel_rfl) (by kernel_rfl)
theorem reads (os : Os) {H : Type} (enc : TypeId × Value → H) : ∃ places, DataW.whole enc Tryd.prog ((laidWorld os).forCall (fun _ _ => 0) ⟨#[], #[.string ByteArray.empty, .int .u64 0, .slice none 0 0], []⟩).memory Tryd.f9.params.toList Rows.encodesSpec.vars false #[Value.string ByteArray.empty, Value.int .u64 0, Value.slice none 0 0].toList 8 = some ([.lit (.string []), .lit (.int .u64 0), .nil], [], places) :=
  ⟨[], by kernel_rfl⟩
set_option maxRecDepth 100000 in
theorem lifted (os : Os) (started : os.Started) (H : Type) (enc : TypeId × Value → H) (F : Stop.Interp) :
    ReturnsInHanded {} Tryd.checked os 9 .any ((OpenSpec.ofChange Rows.encodesSpec).preRow enc Tryd.prog Tryd.f9 Rows.encodesRow.domain false Rows.encodesRow.laid) (((OpenSpec.ofChange Rows.encodesSpec).at F).post enc Tryd.prog Tryd.f9 false true false false) := by
  obtain ⟨places, hx⟩ := reads os enc
  refine returnsInHanded_of_row (C := Tryd.checked) (s := OpenSpec.ofChange Rows.encodesSpec) Tryd.ownKnob started (by kernel_rfl) Tryd.func9
    (witness_row_at (enc := enc) (C := Tryd.checked) false (laidWorld os) #[.string ByteArray.empty, .int .u64 0, .slice none 0 0] rfl (by kernel_rfl) (by kernel_rfl) (by kernel_rfl)
      (OpenSpec.preRow_of_cond 8 hx (by kernel_rfl) (fun k hk => by cases hk) (by kernel_rfl) (laid_met os))) ?_
  intro W base args ds gs before hval hW _ _ _ hL _ _
  have hW' := hW
  obtain ⟨p, q, hA0, hV, rfl, hfz, hnd⟩ := hW
  have hA : DataW.TrodAll enc Tryd.prog W 0 (fun _ => true) true Tryd.f9.params.toList args.toList ds p := hA0
  rw [Tryd.params9] at hA hval
  obtain ⟨v0, vs0, d0, ds0, p0, q0, hargs, rfl, rfl, h0, r0⟩ := trodAll_cons hA
  obtain ⟨v1, vs1, d1, ds1, p1, q1, rfl, rfl, rfl, h1, r1⟩ := trodAll_cons r0
  obtain ⟨v2, vs2, d2, ds2, p2, q2, rfl, rfl, rfl, h2, r2⟩ := trodAll_cons r1
  obtain ⟨rfl, rfl, rfl⟩ := trodAll_nil r2
  obtain rfl : args = #[v0, v1, v2] := by cases args; simp_all
  obtain ⟨rfl, rfl⟩ := trodVars_none hV
  obtain ⟨a0, rfl, rfl, rfl, w0⟩ := open_string Tryd.underlying9 (hval 0 9 v0 rfl rfl) h0
  obtain ⟨a1, rfl, rfl, rfl, w1⟩ := open_int Tryd.underlying37 (hval 1 37 v1 rfl rfl) h1
  obtain ⟨a2, n2, c2, rfl⟩ := okWide_slice Tryd.underlying45 (hval 2 45 v2 rfl rfl)
  clear hA0
  simp only [List.append_nil, List.nil_append] at hW'
  have hlt : ∀ x ∈ p2, x.block < W.heap.size := fun x hx => by simpa using hW'.lt x hx
  obtain ⟨al, hal, hr⟩ := ints_of_arg h2
  refine (walk a0 a1 _ al w0 w1 W (tabs_of_laid hL) hal hr).mono fun e W' ⟨he, hg⟩ => ?_
  subst he
  have hth := Below.trod Tryd.laidOut' (by kernel_rfl) (of_decide_eq_true (by kernel_rfl)) h2 hg hlt
  exact ⟨_, rfl, post_of_below2 (gs := []) (before := p2) (pa := p2 ++ []) (pv := []) hW' (fun _ _ _ => (trodAll_cons_mk (shut_bool Tryd.underlying4 _) trodAll_mk0)) (trodAll_cons_mk (p := []) (p' := p2 ++ []) (shut_string Tryd.underlying9 w0) (trodAll_cons_mk (p := []) (p' := p2 ++ []) (shut_int Tryd.underlying37 w1) (trodAll_cons_mk (p := p2) (p' := []) hth trodAll_mk0))) (show DataW.TrodVars enc Tryd.checked.prog W' (fun b => decide (b < W.heap.size)) [] [] [] from rfl) (by simp) hg⟩
theorem said : Rows.EncodesSaid :=
  OpenClaim.holds_of_cond 9 Tryd.f9 rfl rfl rfl rfl rfl rfl rfl ⟨rfl, rfl, rfl, rfl, rfl⟩ rfl rfl rfl rfl rfl (by kernel_rfl) Tryd.func9 (by kernel_rfl)
    (of_decide_eq_true (by kernel_rfl)) (by unfold Func.isWrapper; first | (rw [if_pos (by decide +kernel)]; kernel_rfl) | (rw [if_neg (by decide +kernel)]; exact ⟨rfl, rfl⟩))
    (fun os started H enc _ F => by rw [OpenClaim.pre_eq_preRow]; exact lifted os started H enc F)
theorem plain (f : FuncId) (fn : Func) (hf : Tryd.pinned.checked.prog.funcNamed "compact/compactlaw.Encodes" = some f) (hfn : Tryd.pinned.checked.prog.funcs[f]? = some fn) :
    true = Tryd.pinned.checked.prog.looks [] ∧ ∀ (j : Nat) t, fn.params[j]? = some t → Tryd.pinned.checked.prog.wantsStandIn t = false := by
  obtain rfl : f = 9 := Option.some.inj ((show Tryd.prog.funcNamed "compact/compactlaw.Encodes" = some 9 by kernel_rfl).symm.trans hf) |>.symm
  obtain rfl : fn = Tryd.f9 := (Option.some.inj (Tryd.func9.symm.trans hfn)).symm
  refine ⟨by kernel_rfl, fun j t ht => ?_⟩
  rw [Tryd.params9] at ht
  have hm := Array.mem_of_getElem? ht
  simp at hm
  rcases hm with rfl | rfl | rfl
  · exact (show Tryd.prog.wantsStandIn 9 = false by kernel_rfl)
  · exact (show Tryd.prog.wantsStandIn 37 = false by kernel_rfl)
  · exact (show Tryd.prog.wantsStandIn 45 = false by kernel_rfl)
/-- ████ THE CARD ████ -/
theorem card : Rows.EncodesCardSaid :=
  Claim7.holds_tied_plain_at .later [] _ _ _ _ said (fun _ h => by cases h) (by kernel_rfl) (fun _ h => by cases h) encodes_row_tie rfl ⟨rfl, rfl⟩ (by kernel_rfl) rfl plain (by kernel_rfl)
#print axioms card
end Go.Proofs.YtlpcjiollnnmgaaDoor.encodes
