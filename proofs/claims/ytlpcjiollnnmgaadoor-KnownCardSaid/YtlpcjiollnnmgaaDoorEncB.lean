/-
  wire.Compact's bytes.
-/
import Derived.Test.YtlpcjiollnnmgaaDoorEncA
import Derived.Test.YtlpcjiollnnmgaaDoorRServe
set_option maxRecDepth 100000
namespace Go.Proofs.YtlpcjiollnnmgaaDoor
open Go.RowKit Nums
theorem told_take (gs ts : List (List UInt8)) (i : Nat) (hg : i < gs.length) (ht : i < ts.length) : En.told (gs.take (i + 1)) (ts.take (i + 1)) = En.told (gs.take i) (ts.take i) ++ (gs.getD i [] ++ ts.getD i []) := by
  rw [List.take_succ_eq_append_getElem hg, List.take_succ_eq_append_getElem ht, En.told_snoc _ _ _ _ (by simp; omega), List.getD_eq_getElem?_getD, List.getD_eq_getElem?_getD, List.getElem?_eq_getElem hg, List.getElem?_eq_getElem ht]; rfl
theorem gaps_short : ∀ (al : List Int) (lo : Int) (i : Nat), ((En.gaps lo al).getD i []).length ≤ 9
  | [], lo, i => by simp [En.gaps]
  | a :: al, lo, 0 => by simp [En.gaps]; exact sizeB_short _
  | a :: al, lo, i + 1 => by
    have := gaps_short al (a + 1) i
    simpa [En.gaps] using this
def cbCells (h n : List UInt8) (sv av tv : Value) : List Value := [.string (str h), .string (str n), sv, av, tv]
set_option maxHeartbeats 4000000 in
theorem compactBytes_calls (h n : List UInt8) (sv av tv : Value) (shorts ts : List (List UInt8)) (al : List Int) (B N : Nat) (w : World)
    (hs : w.ownsRow B 9 1 sv shorts.length (wt shorts)) (ha : IntsAt w av al) (ht : w.ownsRow B 66 33 tv ts.length (txsCells ts))
    (hr : En.Rise N 0 al) (hN : N ≤ 16) (hal : al.length ≤ 16) (htl : ts.length = al.length) (hsl : shorts.length ≤ 16) (h6 : ∀ s ∈ shorts, s.length ≤ 610) (h610 : ∀ t ∈ ts, t.length ≤ 610) (hh : h.length ≤ 100) (hn : n.length ≤ 100) :
    Calls Tryd.prog 48 #[.agg (cbCells h n sv av tv).toArray] w fun e w' => e = .returned (.string (str (En.bytes h n shorts al ts))) ∧ Below w.heap.size w w' := by
  obtain ⟨sa, sc, rfl⟩ := own_slice hs
  obtain ⟨ta, tc, rfl⟩ := own_slice ht
  obtain ⟨aa, ac, rfl⟩ := ha.form
  have rA : Row (w.alloc (.cells (cbCells h n (.slice sa shorts.length sc) (.slice aa al.length ac) (.slice ta ts.length tc)).toArray 91)) w.heap.size (cbCells h n (.slice sa shorts.length sc) (.slice aa al.length ac) (.slice ta ts.length tc)) := Row.new w _ _
  have hB : Below w.heap.size w (w.alloc (.cells (cbCells h n (.slice sa shorts.length sc) (.slice aa al.length ac) (.slice ta ts.length tc)).toArray 91)) := (Below.refl _ _).alloc (Nat.le_refl _) _
  have HS := Lib.hid hs
  have HA := Lib.hid ha
  have HT := Lib.hid ht
  have HR := Lib.hid hr
  have H6 := Lib.hid h6
  have H610 := Lib.hid h610
  have EQ := Lib.hid (show En.bytes h n shorts al ts = h ++ n ++ (Wr.sizeB shorts.length ++ shorts.flatten) ++ (Wr.sizeB al.length ++ En.told (En.gaps 0 al) ts) from rfl)
  have q1 : IntKind.u64.wrap (shorts.length : Int) = shorts.length := by rw [u64_wrap, U_nat]; omega
  have q2 : IntKind.u64.wrap (al.length : Int) = al.length := by rw [u64_wrap, U_nat]; omega
  have hz1 := sizeB_short shorts.length
  have hz2 := sizeB_short al.length
  have HTL := Lib.hid htl
  have hts : ts.length ≤ 16 := by omega
  clear hs ha ht hr h6 h610 htl
  obtain ⟨res, hres⟩ : ∃ res, En.bytes h n shorts al ts = res := ⟨_, rfl⟩
  rw [hres] at EQ ⊢
  clear hres
  go_enter Tryd.func48, Tryd.ntmps48
  go_upto_region 1 with fail
  generalize w.alloc _ = w1 at rA hB ⊢
  obtain ⟨A, hA⟩ : ∃ A, w.heap.size = A := ⟨_, rfl⟩
  rw [hA] at rA ⊢
  have hu0 : ∀ u : Reg.Of (fun u => Row u A (cbCells h n (.slice sa shorts.length sc) (.slice aa al.length ac) (.slice ta ts.length tc))), u.w.cell? ⟨A, 0, none⟩ = some (.string (str h)) := fun u => u.h.cell 0
  have hu1 : ∀ u : Reg.Of (fun u => Row u A (cbCells h n (.slice sa shorts.length sc) (.slice aa al.length ac) (.slice ta ts.length tc))), u.w.cell? ⟨A, 1, none⟩ = some (.string (str n)) := fun u => u.h.cell 1
  have hu2 : ∀ u : Reg.Of (fun u => Row u A (cbCells h n (.slice sa shorts.length sc) (.slice aa al.length ac) (.slice ta ts.length tc))), u.w.cell? ⟨A, 2, none⟩ = some (.slice sa shorts.length sc) := fun u => u.h.cell 2
  haveI hne : Nonempty (Reg.Of (fun u => Row u A (cbCells h n (.slice sa shorts.length sc) (.slice aa al.length ac) (.slice ta ts.length tc)))) := ⟨⟨w1, rA⟩⟩
  refine Reg.startL [0, 1, 2, 3, 4, 5, 6, 7, 8] 3 mixed (by kernel_rfl) rfl rfl (fun c a d v w h => by cases d <;> exact h) (by as_aux_lemma => kernel_rfl) rfl (fun u => Row u A (cbCells h n (.slice sa shorts.length sc) (.slice aa al.length ac) (.slice ta ts.length tc))) rA.drew ?_
  show wpQuiet _ _ _ _ [_, _, _, _, _, _, _, _, _] _
  repeat (go_big_quiet_step (fail))
  refine wpQuiet_nil ?_
  have r2 := rA.drew
  have B2 := Lib.hid hB.drew
  have T1 := Lib.hid (psize_calls shorts.length w1.drew (by omega))
  have hzA := r2.lt
  clear rA hB hu0 hu1 hu2
  generalize w1.drew = w2 at r2 B2 T1 hzA ⊢
  refine Reg.one 9 _ (by kernel_rfl) rfl rfl ?_
  try go_frame
  go_wp2_with fail
  refine T1.out.mono ?_
  clear T1
  obtain ⟨z1, hz1e⟩ : ∃ z, Wr.sizeB shorts.length = z := ⟨_, rfl⟩
  obtain ⟨z2, hz2e⟩ : ∃ z, Wr.sizeB al.length = z := ⟨_, rfl⟩
  rw [hz1e, hz2e] at EQ
  rw [hz1e] at hz1 ⊢
  rw [hz2e] at hz2
  have Z2 := Lib.hid hz2e
  clear hz1e hz2e
  rintro e w3 ⟨rfl, hb⟩
  have r3 := r2.below hb hzA
  have B3 := Lib.hid (B2.out.trans (hb.mono (by omega)))
  have hzA3 : A < w3.heap.size := by have := hb.size; omega
  clear hb r2 B2 hzA
  have hadd : (h ++ n).length ≤ 200 := by rw [List.length_append]; omega
  go_wp2_with fail
  refine ⟨Reg.cls_mk r3, ?_⟩
  refine Reg.one 10 _ (by kernel_rfl) rfl rfl ?_
  try go_frame
  go_wp2_with fail
  refine ⟨Reg.cls_mk r3, ?_⟩
  refine Reg.one 11 _ (by kernel_rfl) rfl rfl ?_
  try go_frame
  go_wp2_with fail
  refine ⟨Reg.cls_mk r3, ?_⟩
  refine wpAnyH_done (by kernel_rfl) ?_ 0
  have hp1 : (h ++ (n ++ z1)).length ≤ 300 := by rw [List.length_append] at hadd; rw [List.length_append, List.length_append]; omega
  have hadd2 : (n ++ z1).length ≤ 300 := by rw [List.length_append] at hadd ⊢; omega
  generalize hP : h ++ (n ++ z1) = p1 at hp1 ⊢
  have HP := Lib.hid hP
  clear hP
  have hc2 := r3.cell 2
  rw [show (cbCells h n (.slice sa shorts.length sc) (.slice aa al.length ac) (.slice ta ts.length tc))[2]? = some (.slice sa shorts.length sc) from rfl] at hc2
  go_wp2_with fail
  clear hc2
  go_loopw [3, 5, 22] (fun sv xv iv wr => ∃ (i : Nat) (s : List UInt8), i ≤ shorts.length ∧ iv = .int .i64 i ∧ sv = .string (str s) ∧ s.length ≤ 300 + 610 * i ∧ s = p1 ++ (shorts.take i).flatten ∧ wr = w3) (fun _ _ iv _ => shorts.length - (intOf iv).toNat)
  case atStart => exact ⟨0, p1, by omega, rfl, rfl, by omega, by simp, rfl⟩
  case round =>
    obtain ⟨i, s, hi, rfl, rfl, hsn, hse, rfl⟩ := hrel
    have HE := Lib.hid hse
    clear hse
    by_cases hlt : i < shorts.length
    · have p2 : (i : Int) < (shorts.length : Int) := by omega
      obtain ⟨g, cap', hv', _, hg, hat⟩ := own_cells HS.out (by omega : 0 < shorts.length)
      cases hv'
      have ht : (shorts.getD i []).length ≤ 610 := H6.out _ (by rw [List.getD_eq_getElem?_getD, List.getElem?_eq_getElem hlt]; exact List.getElem_mem hlt)
      have HT1 := Lib.hid (take_flat shorts i hlt)
      have hc : wr.cell? ⟨g, i, none⟩ = some (.string (str (shorts.getD i []))) := by
        rw [← wts_get shorts i hlt, ← hat i (by omega)]
        exact World.cell?_of_block (w := w) (B3.out.block g (by omega))
      obtain ⟨t, het⟩ : ∃ t, shorts.getD i [] = t := ⟨_, rfl⟩
      rw [het] at ht HT1 hc
      clear hat het
      go_wp2_with fail
      go_roundw
      case rel => exact ⟨i + 1, s ++ t, by omega, by go_num, rfl, by rw [List.length_append]; omega, by rw [HE.out, HT1.out, List.append_assoc], by first | trivial | rfl⟩
      case measure => simp [intOf]; omega
    · obtain rfl : i = shorts.length := by omega
      have HE2 := Lib.hid (show s = p1 ++ shorts.flatten by rw [HE.out, List.take_of_length_le (Nat.le_refl _)])
      have hs3 : s.length ≤ 11000 := by omega
      have hc3 := r3.cell 3
      rw [show (cbCells h n (.slice sa shorts.length sc) (.slice aa al.length ac) (.slice ta ts.length tc))[3]? = some (.slice aa al.length ac) from rfl] at hc3
      have T1 := Lib.hid (psize_calls al.length wr (by omega))
      rw [Z2.out] at T1
      clear HE hsn
      go_wp2_with fail
      refine T1.out.mono ?_
      clear T1 hc3
      rintro e w4 ⟨rfl, hb⟩
      have r4 := r3.below hb hzA3
      have B4 := Lib.hid (B3.out.trans (hb.mono (by omega)))
      have hzA4 : A < w4.heap.size := by have := hb.size; omega
      clear hb
      have hc4 := r4.cell 3
      rw [show (cbCells h n (.slice sa shorts.length sc) (.slice aa al.length ac) (.slice ta ts.length tc))[3]? = some (.slice aa al.length ac) from rfl] at hc4
      have T2 := Lib.hid (pgaps_calls (.slice aa al.length ac) al N w4 ((HA.out.below B4.out (Nat.le_refl _))) HR.out (by omega) (by omega))
      go_wp2_with fail
      refine T2.out.mono ?_
      clear T2 hc4
      rintro e w5 ⟨gv, rfl, hog, hb⟩
      have r5 := r4.below hb hzA4
      have B5 := Lib.hid (B4.out.trans (hb.mono (by omega)))
      have hzA5 : A < w5.heap.size := by have := hb.size; omega
      have OG := Lib.hid hog
      obtain ⟨ga, gc, rfl⟩ := own_slice hog
      clear hb hog
      have hsz : (s ++ z2).length ≤ 11100 := by rw [List.length_append]; omega
      go_wp2_with fail
      generalize hQ : s ++ z2 = p3 at hsz ⊢
      have HQ := Lib.hid hQ
      clear hQ
      go_loopw [3, 6, 7, 41] (fun sv kv xv iv wq => ∃ (i : Nat) (s' : List UInt8), i ≤ al.length ∧ iv = .int .i64 i ∧ sv = .string (str s') ∧ s'.length ≤ 11100 + 620 * i ∧ s' = p3 ++ En.told ((En.gaps 0 al).take i) (ts.take i) ∧ wq = w5) (fun _ _ _ iv _ => al.length - (intOf iv).toNat)
      case atStart => exact ⟨0, p3, by omega, rfl, rfl, by omega, by simp [En.told], rfl⟩
      case round =>
        obtain ⟨i, s', hi, rfl, rfl, hsn, hse, rfl⟩ := hrel
        have HE := Lib.hid hse
        clear hse
        by_cases hlt : i < al.length
        · have p2 : (i : Int) < (al.length : Int) := by omega
          have hit : i < ts.length := by rw [HTL.out]; exact hlt
          have p4 : (i : Int) < (ts.length : Int) := by omega
          have hgl : (wt (En.gaps 0 al)).length = al.length := by simp [wt, En.gaps_length]
          obtain ⟨g, cap', hv', _, hg, hat⟩ := own_cells OG.out (by omega : 0 < al.length)
          cases hv'
          have hgi : i < (En.gaps 0 al).length := by rw [En.gaps_length]; exact hlt
          have hc : wr.cell? ⟨g, i, none⟩ = some (.string (str ((En.gaps 0 al).getD i []))) := by
            rw [← wts_get _ i hgi, ← hat i (by omega)]
          have hg9 := gaps_short al 0 i
          obtain ⟨gt, ct, hv', _, hgt, hta⟩ := own_txs HT.out (by omega : 0 < ts.length)
          cases hv'
          have ht : (ts.getD i []).length ≤ 610 := H610.out _ (by rw [List.getD_eq_getElem?_getD, List.getElem?_eq_getElem hit]; exact List.getElem_mem hit)
          have hct : wr.cell? ⟨gt, i * 33, none⟩ = some (.string (str (ts.getD i []))) := by
            have := hta i hit 0 (.string (str (ts.getD i []))) rfl
            rw [← this, Nat.add_zero, Nat.mul_comm]
            exact World.cell?_of_block (w := w) (B5.out.block gt (by omega))
          have HT1 := Lib.hid (told_take (En.gaps 0 al) ts i hgi hit)
          have hc5 := r5.cell 4
          rw [show (cbCells h n (.slice sa shorts.length sc) (.slice aa al.length ac) (.slice (some ⟨gt, 0, none⟩) ts.length tc))[4]? = some (.slice (some ⟨gt, 0, none⟩) ts.length tc) from rfl] at hc5
          obtain ⟨t, het⟩ : ∃ t, ts.getD i [] = t := ⟨_, rfl⟩
          obtain ⟨y, hye⟩ : ∃ y, (En.gaps 0 al).getD i [] = y := ⟨_, rfl⟩
          rw [het] at ht HT1 hct
          rw [hye] at hg9 HT1 hc
          have hyt : (y ++ t).length ≤ 620 := by rw [List.length_append]; omega
          clear hat het hta hye hit hgi hgl
          go_wp2_with fail
          go_roundw
          case rel => exact ⟨i + 1, s' ++ (y ++ t), by omega, by go_num, rfl, by rw [List.length_append]; omega, by rw [HE.out, HT1.out, List.append_assoc], by first | trivial | rfl⟩
          case measure => simp [intOf]; omega
        · obtain rfl : i = al.length := by omega
          go_wp2_with fail
          go_ret
          refine ⟨?_, B5.out⟩
          have h1 : En.told ((En.gaps 0 al).take al.length) (ts.take al.length) = En.told (En.gaps 0 al) ts := by
            rw [List.take_of_length_le (by rw [En.gaps_length]; exact Nat.le_refl _), List.take_of_length_le (by rw [HTL.out]; exact Nat.le_refl _)]
          rw [EQ.out, show s' = p3 ++ En.told (En.gaps 0 al) ts by rw [HE.out, h1], ← HQ.out, HE2.out, ← HP.out]
          show _ = Ending.returned (.string (str _))
          simp only [List.append_assoc]
          rfl
end Go.Proofs.YtlpcjiollnnmgaaDoor
