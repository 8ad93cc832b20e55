/-
  THE WALK OF the reference's joined and Serve.
-/
import Derived.Test.YtlpcjiollnnmgaaDoorRdBlk
import Derived.Test.YtlpcjiollnnmgaaDoorServeW
set_option maxRecDepth 100000
namespace Go.Proofs.YtlpcjiollnnmgaaDoor
open Go.RowKit Nums
theorem wts_get (ts : List (List UInt8)) (i : Nat) (h : i < ts.length) : (wt ts)[i]? = some (.string (str (ts.getD i []))) := by
  unfold wt; rw [List.getElem?_map, List.getD_eq_getElem?_getD, List.getElem?_eq_getElem h]; rfl
set_option maxHeartbeats 1000000 in
theorem rjoined_calls (v : Value) (ts : List (List UInt8)) (B : Nat) (w : World) (ho : w.ownsRow B 9 1 v ts.length (wt ts)) (hs : ∀ t ∈ ts, t.length ≤ 610) (hn : ts.length ≤ 1000) :
    Calls Tryd.prog 44 #[v] w fun e w' => e = .returned (.string (str (Mk.joined ts))) ∧ Below w.heap.size w w' := by
  obtain ⟨ad, cap, hv⟩ := own_slice ho
  have H0 := Lib.hid ho
  have HS := Lib.hid hs
  have q1 : IntKind.u64.wrap (ts.length : Int) = ts.length := by rw [u64_wrap, U_nat]; omega
  have T1 := Lib.hid (rsize_bytes ts.length w (by omega))
  have hl := sizeB_short ts.length
  have HJ := Lib.hid (show Mk.joined ts = Wr.sizeB ts.length ++ ts.flatten from rfl)
  generalize Wr.sizeB ts.length = sz at T1 hl HJ
  rw [hv]
  clear ho hs
  go_enter Tryd.func44, Tryd.ntmps44
  go_wp2_with fail
  refine T1.out.mono ?_
  rintro e w1 ⟨rfl, hb1⟩
  have B1 := Lib.hid hb1
  clear hb1 T1
  go_wp2_with fail
  go_loopw [3, 5, 12] (fun sv xv iv wr => ∃ (i : Nat) (s : List UInt8), i ≤ ts.length ∧ iv = .int .i64 i ∧ sv = .string (str s) ∧ s.length ≤ 9 + 610 * i ∧ s = sz ++ (ts.take i).flatten ∧ Below w.heap.size w wr) (fun _ _ iv _ => ts.length - (intOf iv).toNat)
  case atStart => exact ⟨0, sz, by omega, rfl, rfl, by omega, by simp, B1.out⟩
  case round =>
    obtain ⟨i, s, hi, rfl, rfl, hsl, hse, hB⟩ := hrel
    have HE := Lib.hid hse
    have HB := Lib.hid hB
    have hzr := hB.size
    clear hse hB
    by_cases hlt : i < ts.length
    · have p1 : (i : Int) < (ts.length : Int) := by omega
      obtain ⟨g, cap', hv', _, hg, hat⟩ := own_cells H0.out (by omega : 0 < ts.length)
      rw [hv] at hv'
      cases hv'
      have ht : (ts.getD i []).length ≤ 610 := HS.out _ (by rw [List.getD_eq_getElem?_getD, List.getElem?_eq_getElem hlt]; exact List.getElem_mem hlt)
      have HT := Lib.hid (take_flat ts i hlt)
      have hc : wr.cell? ⟨g, i, none⟩ = some (.string (str (ts.getD i []))) := by
        rw [← wts_get ts i hlt, ← hat i (by omega)]
        exact World.cell?_of_block (w := w) (HB.out.block g hg)
      obtain ⟨t, het⟩ : ∃ t, ts.getD i [] = t := ⟨_, rfl⟩
      rw [het] at ht HT hc
      clear hat het
      go_wp2_with fail
      go_roundw
      case rel => exact ⟨i + 1, s ++ t, by omega, by go_num, rfl, by rw [List.length_append]; omega, by rw [HE.out, HT.out, List.append_assoc], HB.out⟩
      case measure => simp [intOf]; omega
    · obtain rfl : i = ts.length := by omega
      go_wp2_with fail
      go_ret
      exact ⟨by rw [HJ.out, HE.out, List.take_of_length_le (Nat.le_refl _)]; rfl, HB.out⟩
set_option maxHeartbeats 4000000 in
theorem rserve_calls (t : Nat) (blk req : List UInt8) (w : World) (hT : TB w t) (hl1 : blk.length ≤ 9223372036854775807) :
    Calls Tryd.prog 24 #[.pointer (some ⟨t, 0, none⟩), .string (str blk), .string (str req)] w fun e w' => e = .returned (ansV (En.serve blk req)) ∧ Below w.heap.size w w' := by
  have HT := Lib.hid hT
  have T1 := Lib.hid (rblock_calls blk w hl1)
  have D1 := Rf.blk_done blk
  have ES := Lib.hid (show En.serve blk req = match Wr.readBlock blk with
    | .bad e => ([], e)
    | .ok (h, txs) _ => match Wr.readRequest req with
      | .bad e => ([], e)
      | .ok (n, l) _ => if n ≠ Sha.sum (Sha.sum h) then ([], 6) else match En.pick txs l with
        | none => ([], 4)
        | some ts => (n ++ (Wr.sizeB ts.length ++ ts.flatten), 0) from rfl)
  obtain ⟨ans, hans⟩ : ∃ p, En.serve blk req = p := ⟨_, rfl⟩
  rw [hans] at ES ⊢
  clear hT hans
  go_enter Tryd.func24, Tryd.ntmps24
  go_wp2_with fail
  refine T1.out.mono ?_
  clear T1
  cases hx : Wr.readBlock blk with
  | bad n =>
    rw [hx] at D1 ES
    dsimp only at D1
    rintro e w1 ⟨v, rfl, ho, hb⟩
    rw [D1.1]
    have p1 : ¬ (n : Int) = 0 := by have := D1.2; omega
    clear D1 hx ho
    go_wp2_with fail
    go_ret2
    exact ⟨by rw [show ans = ([], n) from ES.out]; rfl, hb⟩
  | ok a r =>
    obtain ⟨hh80, hts1, hts16, htsS⟩ := Wr.blk_inv hx
    rw [hx] at D1 ES
    dsimp only at D1
    rintro e w1 ⟨bv, rfl, ho, hb⟩
    rw [D1.1, D1.2]
    rw [D1.2] at ho
    obtain ⟨h, ts⟩ := a
    dsimp only at ho hh80 hts1 hts16 htsS ES ⊢
    have O1 := Lib.hid ho
    have B1 := Lib.hid hb
    have HS := Lib.hid htsS
    have D2 := Rf.req_done req
    have T2 := Lib.hid (rreq_calls req w1)
    have HT1 := Lib.hid (HT.out.below hb)
    clear D1 hx ho hb htsS
    go_wp2_with fail
    refine T2.out.mono ?_
    clear T2
    cases hx : Wr.readRequest req with
    | bad n =>
      rw [hx] at D2 ES
      dsimp only at D2
      rintro e w2 ⟨v, rfl, ho, hb⟩
      rw [D2.1]
      have p1 : ¬ (n : Int) = 0 := by have := D2.2; omega
      have B2 := Lib.hid (B1.out.trans (hb.mono B1.out.size))
      clear D2 hx ho hb
      go_wp2_with fail
      go_ret2
      exact ⟨by rw [show ans = ([], n) from ES.out]; rfl, B2.out⟩
    | ok a r' =>
      obtain ⟨hn32, his16⟩ := Wr.req_inv hx
      rw [hx] at D2 ES
      dsimp only at D2
      rintro e w2 ⟨qv, rfl, ho, hb⟩
      rw [D2.1, D2.2]
      rw [D2.2] at ho
      obtain ⟨nm, is⟩ := a
      dsimp only at ho hn32 his16 ES ⊢
      have O2 := Lib.hid ho
      have O1' := Lib.hid (ownN_below O1.out hb (Nat.le_refl _))
      have B2 := Lib.hid (B1.out.trans (hb.mono B1.out.size))
      have HT2 := Lib.hid (HT1.out.below hb)
      have T3 := Lib.hid (rtwice_calls t h w2 (HT1.out.below hb) (by omega))
      clear D2 hx ho hb O1 B1 HT1
      go_wp2_with fail
      refine T3.out.mono ?_
      clear T3
      rintro e w3 ⟨rfl, hb⟩
      have B3 := Lib.hid (B2.out.trans (hb.mono B2.out.size))
      have O3 := Lib.hid (ownN_below O2.out hb (Nat.le_refl _))
      have O3' := Lib.hid (ownN_below O1'.out hb (Nat.le_refl _))
      clear hb O2 O1' B2 HT2
      obtain ⟨tw, htw⟩ : ∃ tw, Mk.twice h = tw := ⟨_, rfl⟩
      have ES2 := Lib.hid (show ans = if nm ≠ tw then ([], 6) else match En.pick ts is with
          | none => ([], 4)
          | some ts => (nm ++ (Wr.sizeB ts.length ++ ts.flatten), 0) by rw [← htw]; exact ES.out)
      rw [htw]
      clear htw ES
      by_cases hnm : nm = tw
      · subst hnm
        rw [if_neg (fun h => h rfl)] at ES2
        obtain ⟨qa, qc, rfl⟩ := own_slice O3.out
        obtain ⟨gb, cb, rfl, _, hgb, hTA⟩ := own_cells O3'.out (by omega : 0 < ts.length)
        have HTA := Lib.hid hTA
        clear hTA
        obtain ⟨i0, hi0, hz0i, hz1i, hz2i⟩ := info_parts infoStr
        have HI := Lib.hid hi0
        clear hi0
        have EP := Lib.hid (show En.pick ts is = (En.pick ts (is.drop 0)).map (fun us => [] ++ us) by rw [List.drop_zero]; cases En.pick ts is <;> rfl)
        go_wp2_with fail
        go_loopw [13, 15, 41] (fun sv xv iv wr => ∃ (i : Nat) (us : List (List UInt8)), i ≤ is.length ∧ iv = .int .i64 i ∧ us.length = i ∧ wr.ownsRow w3.heap.size 9 1 sv us.length (wt us) ∧ Below w3.heap.size w3 wr ∧ En.pick ts is = (En.pick ts (is.drop i)).map (fun vs => us ++ vs) ∧ ∀ t ∈ us, t.length ≤ 610) (fun _ _ iv _ => is.length - (intOf iv).toNat)
        case atStart => exact ⟨0, [], by omega, rfl, rfl, World.ownsRow_nil _ _ _ _, Below.refl _ _, EP.out, fun _ h => by cases h⟩
        case round =>
          obtain ⟨i, us, hi, rfl, hul, hown, hB, hEP, hus⟩ := hrel
          have N1 := Lib.hid hB
          have C1 := Lib.hid hown
          have HU := Lib.hid hus
          have hzr := hB.size
          have N2 := Lib.hid (B3.out.trans (hB.mono B3.out.size))
          by_cases hlt : i < is.length
          · have p1 : (i : Int) < (is.length : Int) := by omega
            obtain ⟨gq, cq, hq, _, hgq, hcq⟩ := own_cells O3.out (by omega : 0 < is.length)
            cases hq
            have hcx : wr.cell? ⟨gq, i, none⟩ = some (.int .i64 ((is.getD i 0 : Nat) : Int)) := by
              rw [← wns_get is i hlt, ← hcq i (by omega)]
              exact World.cell?_of_block (w := w3) (N1.out.block gq hgq)
            obtain ⟨x, hxe⟩ : ∃ x, is.getD i 0 = x := ⟨_, rfl⟩
            have HP0 := fun c => pick_none ts is i us hlt hEP c
            have HP1 := fun c => Lib.hid (pick_step ts is i us hlt hEP c)
            rw [hxe] at hcx HP0 HP1
            clear hcq hEP hus hown hB
            by_cases c : ts.length ≤ x
            · have p2 : (x : Int) ≥ (ts.length : Int) := by omega
              have ES3 := Lib.hid (show ans = ([], 4) by rw [ES2.out, HP0 c])
              clear HP1
              go_wp2_with fail
              go_ret2
              exact ⟨by rw [ES3.out]; rfl, N2.out⟩
            · have p2 : ¬ (x : Int) ≥ (ts.length : Int) := by omega
              have p3 : (x : Int) < (ts.length : Int) := by omega
              have HP := HP1 c
              clear HP0 HP1 hxe
              have htl : (ts.getD x []).length ≤ 610 := HS.out _ (by rw [List.getD_eq_getElem?_getD, List.getElem?_eq_getElem (by omega)]; exact List.getElem_mem (by omega))
              have hcb : wr.cell? ⟨gb, x, none⟩ = some (.string (str (ts.getD x []))) := by
                rw [← wts_get ts x (by omega), ← HTA.out x (by omega)]
                exact World.cell?_of_block (w := w3) (N1.out.block gb hgb)
              obtain ⟨y, hte⟩ : ∃ y, ts.getD x [] = y := ⟨_, rfl⟩
              rw [hte] at htl hcb HP
              have HU2 := Lib.hid (show ∀ z ∈ us ++ [y], z.length ≤ 610 from fun z hz => by
                rcases List.mem_append.1 hz with h | h
                · exact HU.out z h
                · rw [List.mem_singleton.1 h]; exact htl)
              have hub : us.length < 17 := by omega
              have HUL := Lib.hid hul
              clear hte htl hul
              go_wp2_with (at_builtin; refine wpList_append_own _ rfl _ _ 26 rfl w3.heap.size 9 i0 (.string ByteArray.empty) 1 16 Tryd.underlying26 HI.out hz0i hz1i hz2i rfl (by decide) _ _ _ rfl (C1.out.alloc _) ⟨wr.heap.size, 0, none⟩ 1 1 [.string (str y)] rfl rfl (cell_one_new _ _ _) (wt_one [y]) (by unfold maxLen; omega) (by omega) (by rw [World.size_alloc]; omega) ?_; intro uv2 w5 hown3 hgr3 _; have hbl : Below w3.heap.size wr w5 := ((Below.refl w3.heap.size wr).alloc hzr _).grown hgr3 (by rw [World.size_alloc]; omega) (fun k hk => (C1.out.lt k hk).1); have H1 := Lib.hid hown3; have H2 := Lib.hid hbl; clear hown3 hgr3 hbl)
              go_roundw
              case rel => exact ⟨i + 1, us ++ [y], by omega, by go_num, by rw [List.length_append, HUL.out]; rfl, by rw [List.length_append, ← wt_snoc]; exact H1.out, N1.out.trans H2.out, HP.out, HU2.out⟩
              case measure => simp [intOf]; omega
          · obtain rfl : i = is.length := by omega
            have ES3 := Lib.hid (show ans = (nm ++ Mk.joined us, 0) by rw [ES2.out, hEP, List.drop_length]; simp [En.pick, Mk.joined])
            have RB := Lib.hid (rjoined_calls _ us w3.heap.size wr hown hus (by omega))
            have hjl : (Mk.joined us).length ≤ 700000 := by
              have := flat_short us hus
              have := sizeB_short us.length
              unfold Mk.joined; rw [List.length_append]; omega
            generalize Mk.joined us = jj at RB hjl ES3
            clear hown hB hEP hus
            go_wp2_with fail
            refine RB.out.mono ?_
            rintro e w5 ⟨rfl, hb9⟩
            have N3 := Lib.hid (N2.out.trans (hb9.mono N2.out.size))
            clear hb9
            go_wp2_with fail
            go_ret2
            exact ⟨by rw [ES3.out]; rfl, N3.out⟩
      · rw [if_pos hnm] at ES2
        have hne2 : (nm == tw) = false := by simpa using hnm
        go_wp2_with fail
        go_ret2
        exact ⟨by rw [ES2.out]; rfl, B3.out⟩
end Go.Proofs.YtlpcjiollnnmgaaDoor
