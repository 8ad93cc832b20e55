/-
  compactlaw: step, on a receiver.
-/
import Derived.Test.YtlpcjiollnnmgabGreatDoorLawE
import Derived.Test.YtlpcjiollnnmgabGreatDoorIDs
import Derived.Test.YtlpcjiollnnmgabGreatDoorTxW
set_option maxRecDepth 100000
namespace Go.Proofs.YtlpcjiollnnmgabGreatDoor
open Nums
open Go.RowKit
open Lw

set_option maxHeartbeats 8000000 in
theorem step_ids (w1 w : World) (t Wb : Nat) (τ : Nat → Nat) (ps : List PR) (ls : List Value) (rsv lsv : Value) (h : UpSt w1 w t Wb τ ps ls rsv lsv) (hT : Tabs w1) (hTB : TB w1 t) (a : Int) (s : List UInt8) (hn : ps.length ≤ 2097152) (hps : 0 < ps.length) (hln : ls.length ≤ 4194304)
    (ha : -9223372036854775808 ≤ a ∧ a < 9223372036854775808) :
    Calls Tryz.prog 28 #[.pointer (some ⟨Wb, 0, none⟩), .agg #[.int .i64 4, .int .i64 a, .string (str s)]] w (StepPost w1 t Wb ps ls) := by
  have H := Lib.hid h
  have HT := Lib.hid (hT.below h.bel hT.lt)
  have HTB := Lib.hid (hTB.below h.bel)
  have HT1 := Lib.hid hT
  have HTB1 := Lib.hid hTB
  have hWl := h.wrow.lt
  obtain ⟨ra, rc, rfl⟩ := own_lenN h.rs
  obtain ⟨i, hi, hil⟩ : ∃ i : Nat, Keeps.pick a ps.length = i ∧ i < ps.length := by
    have := Keeps.pick_lt a ps.length (by omega)
    exact ⟨(Keeps.pick a ps.length).toNat, by omega, by omega⟩
  obtain ⟨p, hp⟩ : ∃ p, ps[i]? = some p := ⟨_, List.getElem?_eq_getElem hil⟩
  obtain ⟨g, cap, hra, hgl, hcg⟩ := own_cells2 h.rs (by omega)
  cases hra
  obtain ⟨e0, e1⟩ := pairCells_get ps i p hp
  have c0 := hcg _ _ e0
  have c1 := hcg _ _ e1
  have HP := Lib.hid (h.pairs i p hp)
  have HPI := Lib.hid hp
  have HI := Lib.hid hi
  have T1 := Lib.hid (fun w => lpick_calls a ps.length w (by omega) (by omega) ha)
  have HA := Lib.hid ha
  rw [hi] at T1
  clear h hT hTB hcg e0 e1 ha hi hp
  go_enter Tryz.func28, Tryz.ntmps28
  go_upto_region 1 with fail
  obtain ⟨K, hK⟩ : ∃ K, w.heap.size = K := ⟨_, rfl⟩
  rw [hK]
  have hb0 : Below K w (w.alloc (.cells #[.int .i64 4, .int .i64 a, .string (str s)] 59)) := by rw [← hK]; exact (Below.refl _ _).alloc (Nat.le_refl _) _
  have ho0 : Row (w.alloc (.cells #[.int .i64 4, .int .i64 a, .string (str s)] 59)) K [.int .i64 4, .int .i64 a, .string (str s)] := by rw [← hK]; exact Row.new _ _ _
  have hz0' : (w.alloc (.cells #[.int .i64 4, .int .i64 a, .string (str s)] 59)).heap.size = K + 1 := by rw [World.size_alloc, hK]
  rw [hK] at hWl hgl
  have B0 := Lib.hid hb0
  have O0 := Lib.hid ho0
  have U2 := Lib.hid (H.out.below (by rw [hK]; exact hb0))
  have d0 := (World.cell?_of_block (w := w) (hb0.block g hgl)).trans c0
  have d1 := (World.cell?_of_block (w := w) (hb0.block g hgl)).trans c1
  have o0 := ho0.cell 0
  have o1 := ho0.cell 1
  rw [show [Value.int .i64 4, .int .i64 a, .string (str s)][0]? = some (.int .i64 4) from rfl] at o0
  rw [show [Value.int .i64 4, .int .i64 a, .string (str s)][1]? = some (.int .i64 a) from rfl] at o1
  clear c0 c1 hb0 ho0
  have HK := Lib.hid hK
  have hrl := HP.out.row.lt
  have hml := HP.out.map.lt
  have hql := HP.out.ref.lt
  rw [hK] at hrl hml hql
  clear hK
  generalize w.alloc (.cells #[.int .i64 4, .int .i64 a, .string (str s)] 59) = w2 at B0 O0 hz0' U2 d0 d1 o0 o1 ⊢
  go_upto_region 8 with fail
  have hcw : w2.cell? ⟨Wb, 1, none⟩ = some (.slice (some ⟨g, 0, none⟩) ps.length rc) := U2.out.wrow.cell 1
  have p0 : ¬ (ps.length : Int) = 0 := by omega
  go_upto_region 10 with fail
  haveI hne : Nonempty (Reg.Of (fun u : World => u.cell? ⟨Wb, 1, none⟩ = some (.slice (some ⟨g, 0, none⟩) ps.length rc) ∧ u.cell? ⟨K, 1, none⟩ = some (.int .i64 a))) := ⟨⟨w2, hcw, o1⟩⟩
  have hu0 : ∀ u : Reg.Of (fun u : World => u.cell? ⟨Wb, 1, none⟩ = some (.slice (some ⟨g, 0, none⟩) ps.length rc) ∧ u.cell? ⟨K, 1, none⟩ = some (.int .i64 a)), u.w.cell? ⟨Wb, 1, none⟩ = some (.slice (some ⟨g, 0, none⟩) ps.length rc) := fun u => u.h.1
  have hu1 : ∀ u : Reg.Of (fun u : World => u.cell? ⟨Wb, 1, none⟩ = some (.slice (some ⟨g, 0, none⟩) ps.length rc) ∧ u.cell? ⟨K, 1, none⟩ = some (.int .i64 a)), u.w.cell? ⟨K, 1, none⟩ = some (.int .i64 a) := fun u => u.h.2
  refine Reg.startL [0, 1, 2, 3, 4, 5, 6, 7, 8, 9, 10] 5 mixed (by kernel_rfl) rfl rfl (fun c a d v w h => by cases d <;> exact h) (by as_aux_lemma => kernel_rfl) rfl (fun u : World => u.cell? ⟨Wb, 1, none⟩ = some (.slice (some ⟨g, 0, none⟩) ps.length rc) ∧ u.cell? ⟨K, 1, none⟩ = some (.int .i64 a)) ⟨hcw, o1⟩ ?_
  show wpQuiet _ _ _ _ [_, _, _, _, _, _, _, _, _, _, _] _
  repeat (go_big_quiet_step (fail))
  refine wpQuiet_nil ?_
  have S0 := Lib.hid (show Reg.cls (fun u : World => u.cell? ⟨Wb, 1, none⟩ = some (.slice (some ⟨g, 0, none⟩) ps.length rc) ∧ u.cell? ⟨K, 1, none⟩ = some (.int .i64 a)) w2.drew from Reg.cls_mk ⟨hcw, o1⟩)
  have hcd : w2.drew.cell? ⟨Wb, 1, none⟩ = some (.slice (some ⟨g, 0, none⟩) ps.length rc) := hcw
  have q1 : w2.drew.cell? ⟨K, 1, none⟩ = some (.int .i64 a) := o1
  have q0 : w2.drew.cell? ⟨g, i * 2, none⟩ = some (.pointer (some ⟨p.r, 0, none⟩)) := d0
  have q2 : w2.drew.cell? ⟨g, i * 2 + 1, none⟩ = some (.pointer (some ⟨p.q, 0, none⟩)) := d1
  have hzd : w2.drew.heap.size = K + 1 := hz0'
  have UD := Lib.hid (U2.out.below (Below.refl _ _).drew)
  have BD := Lib.hid (B0.out.drew)
  have OD := Lib.hid (show Row w2.drew K _ from O0.out)
  clear hcw hne hu0 hu1 d0 d1 o0 o1 B0 O0 U2
  generalize w2.drew = w4 at hcd S0 q0 q1 q2 hzd UD BD OD ⊢
  obtain ⟨w5, h5⟩ : ∃ w5, w4.alloc (.cells #[.pointer none, .pointer none] 122) = w5 := ⟨_, rfl⟩
  have hq5 : w5.heap.size = K + 2 := by rw [← h5, World.size_alloc, hzd]
  have r0 : w5.cell? ⟨g, i * 2, none⟩ = some (.pointer (some ⟨p.r, 0, none⟩)) := by rw [← h5, ← q0]; exact World.cell?_alloc_lt _ _ _ (by rw [hzd]; show g < _; omega)
  have r1 : w5.cell? ⟨g, i * 2 + 1, none⟩ = some (.pointer (some ⟨p.q, 0, none⟩)) := by rw [← h5, ← q2]; exact World.cell?_alloc_lt _ _ _ (by rw [hzd]; show g < _; omega)
  have r2 : w5.cell? ⟨Wb, 1, none⟩ = some (.slice (some ⟨g, 0, none⟩) ps.length rc) := by rw [← h5, ← hcd]; exact World.cell?_alloc_lt _ _ _ (by rw [hzd]; show Wb < _; omega)
  have r3 : w5.cell? ⟨K, 1, none⟩ = some (.int .i64 a) := by rw [← h5, ← q1]; exact World.cell?_alloc_lt _ _ _ (by rw [hzd]; show K < _; omega)
  have S1 := Lib.hid (show Reg.cls (fun u : World => u.cell? ⟨Wb, 1, none⟩ = some (.slice (some ⟨g, 0, none⟩) ps.length rc) ∧ u.cell? ⟨K, 1, none⟩ = some (.int .i64 a)) w5 from Reg.cls_mk ⟨r2, r3⟩)
  have N5 := Lib.hid (show Row w5 (K + 1) [.pointer none, .pointer none] from by rw [← h5, ← hzd]; exact Row.new _ _ _)
  have U5 := Lib.hid (show UpSt w1 w5 t Wb τ ps ls _ lsv from by rw [← h5]; exact UD.out.below ((Below.refl _ _).alloc (Nat.le_refl _) _))
  have B5 := Lib.hid (show Below K w w5 from by rw [← h5]; exact BD.out.alloc (by omega) _)
  have O5 := Lib.hid (show Row w5 K _ from by rw [← h5]; exact OD.out.alloc _)
  clear q1 hcd UD BD OD r2 r3
  have pr1 : (i : Int) < (ps.length : Int) := by omega
  refine Reg.two 11 14 _ _ (by kernel_rfl) rfl rfl rfl rfl ?_ ?_
  · try go_frame
    go_wp2_with fail
    refine (T1.out _).mono ?_
    rintro e wx ⟨rfl, hwx⟩
    subst wx
    go_wp2_with fail
    refine ⟨S0.out, ?_⟩
    refine Reg.two 12 14 _ _ (by kernel_rfl) rfl rfl rfl rfl ?_ ?_
    · try go_frame
      go_wp2_with fail
      refine ⟨S0.out, ?_⟩
      refine Reg.two 13 14 _ _ (by kernel_rfl) rfl rfl rfl rfl ?_ ?_
      · try go_frame
        go_wp2_with fail
        refine ⟨S0.out, ?_⟩
        refine Reg.one 14 _ (by kernel_rfl) rfl rfl ?_
        try go_frame
        go_wp2_with fail
        refine ⟨S1.out, ?_⟩
        refine Reg.one 15 _ (by kernel_rfl) rfl rfl ?_
        try go_frame
        refine store_cells (o := ⟨none, _, _, _, _, _⟩) rfl _ _ _ rfl (K + 1) [.pointer none, .pointer none] [.pointer (some ⟨p.r, 0, none⟩), .pointer (some ⟨p.q, 0, none⟩)] rfl rfl N5.out infoPs rfl rfl ?_
        have bz : Below K w (w5.setRow (K + 1) #[.pointer (some ⟨p.r, 0, none⟩), .pointer (some ⟨p.q, 0, none⟩)]) := below_setRow B5.out (by omega) _
        have pz : Row (w5.setRow (K + 1) #[.pointer (some ⟨p.r, 0, none⟩), .pointer (some ⟨p.q, 0, none⟩)]) (K + 1) [.pointer (some ⟨p.r, 0, none⟩), .pointer (some ⟨p.q, 0, none⟩)] := N5.out.setRow [.pointer (some ⟨p.r, 0, none⟩), .pointer (some ⟨p.q, 0, none⟩)]
        have oz : Row (w5.setRow (K + 1) #[.pointer (some ⟨p.r, 0, none⟩), .pointer (some ⟨p.q, 0, none⟩)]) K [.int .i64 4, .int .i64 a, .string (str s)] := O5.out.setOther (by omega) _
        have BZ := Lib.hid bz
        have PZ := Lib.hid pz
        have OZ := Lib.hid oz
        have UZ := Lib.hid (H.out.below (by rw [HK.out]; exact bz))
        have hzl := pz.lt
        have hzo := oz.lt
        clear bz pz oz h5 r0 r1 S0 S1 N5 U5 B5 O5 hq5 q0 q2 hzd
        generalize w5.setRow (K + 1) #[.pointer (some ⟨p.r, 0, none⟩), .pointer (some ⟨p.q, 0, none⟩)] = wz at BZ PZ OZ UZ hzl hzo ⊢
        refine ⟨Reg.cls_mk ⟨UZ.out.wrow.cell 1, OZ.out.cell 1⟩, ?_⟩
        refine wpAnyH_done (by kernel_rfl) ?_ 0
        have z0 : wz.cell? ⟨K, 0, none⟩ = some (.int .i64 4) := OZ.out.cell 0
        have z1 : wz.cell? ⟨K + 1, 0, none⟩ = some (.pointer (some ⟨p.r, 0, none⟩)) := PZ.out.cell 0
        have HY := Lib.hid (UZ.out.pairs i p HPI.out)
        have T2 := Lib.hid (ids_calls p.r p.m p.P wz (HY.out.row.cell 0) HY.out.map)
        go_wp2_with fail
        refine T2.out.mono ?_
        clear T2 z0 z1
        rintro e wa ⟨v, rfl, hva, hba⟩
        have BA := Lib.hid (UZ.out.bel.trans (hba.mono UZ.out.bel.size))
        have PA := Lib.hid (PZ.out.below hba hzl)
        have z2 : wa.cell? ⟨K + 1, 1, none⟩ = some (.pointer (some ⟨p.q, 0, none⟩)) := PA.out.cell 1
        have T3 := Lib.hid (rids_calls p.q t w1.heap.size p.pv p.P wa (HTB1.out.below BA.out) (HY.out.ref.below hba HY.out.ref.lt) (ownN_below HY.out.own hba (Nat.le_refl _)) HY.out.map.short HY.out.map.le)
        have VA := Lib.hid hva
        have DA := Lib.hid hba
        clear hva hba
        go_wp2_with fail
        refine T3.out.mono ?_
        clear T3 z2
        rintro e wb ⟨v2, rfl, hvb, hbb⟩
        have VB := Lib.hid (ownN_below VA.out hbb (Nat.le_refl _))
        have DB := Lib.hid (DA.out.trans (hbb.mono DA.out.size))
        have T4 := Lib.hid (same_calls v v2 (p.P.map Mk.twice) wb (own_texts VB.out (by rw [List.length_map])) (own_texts hvb (by rw [List.length_map])) (by rw [List.length_map]; have := HP.out.map.le; omega))
        clear hvb hbb
        go_wp2_with fail
        refine T4.out.mono ?_
        clear T4
        rintro e wc' ⟨rfl, hbc⟩
        have VC := Lib.hid (ownN_below VB.out hbc (Nat.le_refl _))
        have DC := Lib.hid (DB.out.trans (hbc.mono DB.out.size))
        clear hbc
        have hle := HP.out.map.le
        have hzc := DC.out.size
        have NV := Lib.hid (show ∀ g, v.ownBlock = some g → wz.heap.size ≤ g from fun g hg => (VC.out.lt g hg).1)
        have NL := Lib.hid (show ∀ g, lsv.ownBlock = some g → g < wz.heap.size ∧ g ≠ Wb from fun g hg => ⟨(UZ.out.lso.lt g hg).2, fun e => by have h1 := UZ.out.tls g hg; have h2 := UZ.out.tW; rw [e] at h1; omega⟩)
        have T5 := Lib.hid (mine_calls Wb t wz.heap.size w1.heap.size _ lsv v (p.P.map Mk.twice) ls wc' (UZ.out.wrow.below DC.out UZ.out.wrow.lt) (by rw [List.length_map]; exact VC.out) (ownN_below UZ.out.lso DC.out (Nat.le_refl _))
          (fun g hg => by have := NV.out g hg; omega) (fun g hg => (NL.out g hg).2) (fun g hg he => by have := NV.out g hg; have := (NL.out g he).1; omega) (by rw [List.length_map]; omega) hln hzc (by have := UZ.out.bel.size; omega))
        go_wp2_with fail
        refine T5.out.mono ?_
        clear T5
        rintro e wd ⟨rfl, lv', lsv', hW, hlv, hls, ho1, ho2, hne2, hF⟩
        have UU := Lib.hid (UZ.out.list (n := (p.P.map Mk.twice).length + 2) (by rw [List.length_map]; omega) ((Fr.of_below DC.out).trans (hF.mono hzc (fun k hk hs => by rcases hs with h | h | h; exact .inl h; (have := NV.out k h; omega); exact .inr h))) hW hlv hls (ho2.imp id fun ⟨g, h1, h2⟩ => ⟨g, h1, by omega⟩) hne2)
        clear hW hlv hls ho1 ho2 hne2 hF
        go_wp2_with fail
        go_ret
        exact ⟨rfl, _, _, _, _, _, UU.out, by omega, by simp⟩
      · try go_frame
        go_wp2_with fail
        refine ⟨S1.out, ?_⟩
        refine Reg.one 13 _ (by kernel_rfl) rfl rfl ?_
        try go_frame
        go_wp2_with fail
        refine ⟨S1.out, ?_⟩
        refine Reg.one 15 _ (by kernel_rfl) rfl rfl ?_
        try go_frame
        refine store_cells (o := ⟨none, _, _, _, _, _⟩) rfl _ _ _ rfl (K + 1) [.pointer none, .pointer none] [.pointer (some ⟨p.r, 0, none⟩), .pointer (some ⟨p.q, 0, none⟩)] rfl rfl N5.out infoPs rfl rfl ?_
        have bz : Below K w (w5.setRow (K + 1) #[.pointer (some ⟨p.r, 0, none⟩), .pointer (some ⟨p.q, 0, none⟩)]) := below_setRow B5.out (by omega) _
        have pz : Row (w5.setRow (K + 1) #[.pointer (some ⟨p.r, 0, none⟩), .pointer (some ⟨p.q, 0, none⟩)]) (K + 1) [.pointer (some ⟨p.r, 0, none⟩), .pointer (some ⟨p.q, 0, none⟩)] := N5.out.setRow [.pointer (some ⟨p.r, 0, none⟩), .pointer (some ⟨p.q, 0, none⟩)]
        have oz : Row (w5.setRow (K + 1) #[.pointer (some ⟨p.r, 0, none⟩), .pointer (some ⟨p.q, 0, none⟩)]) K [.int .i64 4, .int .i64 a, .string (str s)] := O5.out.setOther (by omega) _
        have BZ := Lib.hid bz
        have PZ := Lib.hid pz
        have OZ := Lib.hid oz
        have UZ := Lib.hid (H.out.below (by rw [HK.out]; exact bz))
        have hzl := pz.lt
        have hzo := oz.lt
        clear bz pz oz h5 r0 r1 S0 S1 N5 U5 B5 O5 hq5 q0 q2 hzd
        generalize w5.setRow (K + 1) #[.pointer (some ⟨p.r, 0, none⟩), .pointer (some ⟨p.q, 0, none⟩)] = wz at BZ PZ OZ UZ hzl hzo ⊢
        refine ⟨Reg.cls_mk ⟨UZ.out.wrow.cell 1, OZ.out.cell 1⟩, ?_⟩
        refine wpAnyH_done (by kernel_rfl) ?_ 0
        have z0 : wz.cell? ⟨K, 0, none⟩ = some (.int .i64 4) := OZ.out.cell 0
        have z1 : wz.cell? ⟨K + 1, 0, none⟩ = some (.pointer (some ⟨p.r, 0, none⟩)) := PZ.out.cell 0
        have HY := Lib.hid (UZ.out.pairs i p HPI.out)
        have T2 := Lib.hid (ids_calls p.r p.m p.P wz (HY.out.row.cell 0) HY.out.map)
        go_wp2_with fail
        refine T2.out.mono ?_
        clear T2 z0 z1
        rintro e wa ⟨v, rfl, hva, hba⟩
        have BA := Lib.hid (UZ.out.bel.trans (hba.mono UZ.out.bel.size))
        have PA := Lib.hid (PZ.out.below hba hzl)
        have z2 : wa.cell? ⟨K + 1, 1, none⟩ = some (.pointer (some ⟨p.q, 0, none⟩)) := PA.out.cell 1
        have T3 := Lib.hid (rids_calls p.q t w1.heap.size p.pv p.P wa (HTB1.out.below BA.out) (HY.out.ref.below hba HY.out.ref.lt) (ownN_below HY.out.own hba (Nat.le_refl _)) HY.out.map.short HY.out.map.le)
        have VA := Lib.hid hva
        have DA := Lib.hid hba
        clear hva hba
        go_wp2_with fail
        refine T3.out.mono ?_
        clear T3 z2
        rintro e wb ⟨v2, rfl, hvb, hbb⟩
        have VB := Lib.hid (ownN_below VA.out hbb (Nat.le_refl _))
        have DB := Lib.hid (DA.out.trans (hbb.mono DA.out.size))
        have T4 := Lib.hid (same_calls v v2 (p.P.map Mk.twice) wb (own_texts VB.out (by rw [List.length_map])) (own_texts hvb (by rw [List.length_map])) (by rw [List.length_map]; have := HP.out.map.le; omega))
        clear hvb hbb
        go_wp2_with fail
        refine T4.out.mono ?_
        clear T4
        rintro e wc' ⟨rfl, hbc⟩
        have VC := Lib.hid (ownN_below VB.out hbc (Nat.le_refl _))
        have DC := Lib.hid (DB.out.trans (hbc.mono DB.out.size))
        clear hbc
        have hle := HP.out.map.le
        have hzc := DC.out.size
        have NV := Lib.hid (show ∀ g, v.ownBlock = some g → wz.heap.size ≤ g from fun g hg => (VC.out.lt g hg).1)
        have NL := Lib.hid (show ∀ g, lsv.ownBlock = some g → g < wz.heap.size ∧ g ≠ Wb from fun g hg => ⟨(UZ.out.lso.lt g hg).2, fun e => by have h1 := UZ.out.tls g hg; have h2 := UZ.out.tW; rw [e] at h1; omega⟩)
        have T5 := Lib.hid (mine_calls Wb t wz.heap.size w1.heap.size _ lsv v (p.P.map Mk.twice) ls wc' (UZ.out.wrow.below DC.out UZ.out.wrow.lt) (by rw [List.length_map]; exact VC.out) (ownN_below UZ.out.lso DC.out (Nat.le_refl _))
          (fun g hg => by have := NV.out g hg; omega) (fun g hg => (NL.out g hg).2) (fun g hg he => by have := NV.out g hg; have := (NL.out g he).1; omega) (by rw [List.length_map]; omega) hln hzc (by have := UZ.out.bel.size; omega))
        go_wp2_with fail
        refine T5.out.mono ?_
        clear T5
        rintro e wd ⟨rfl, lv', lsv', hW, hlv, hls, ho1, ho2, hne2, hF⟩
        have UU := Lib.hid (UZ.out.list (n := (p.P.map Mk.twice).length + 2) (by rw [List.length_map]; omega) ((Fr.of_below DC.out).trans (hF.mono hzc (fun k hk hs => by rcases hs with h | h | h; exact .inl h; (have := NV.out k h; omega); exact .inr h))) hW hlv hls (ho2.imp id fun ⟨g, h1, h2⟩ => ⟨g, h1, by omega⟩) hne2)
        clear hW hlv hls ho1 ho2 hne2 hF
        go_wp2_with fail
        go_ret
        exact ⟨rfl, _, _, _, _, _, UU.out, by omega, by simp⟩
    · try go_frame
      go_wp2_with fail
      refine ⟨S1.out, ?_⟩
      refine Reg.one 12 _ (by kernel_rfl) rfl rfl ?_
      try go_frame
      go_wp2_with fail
      refine ⟨S1.out, ?_⟩
      refine Reg.one 13 _ (by kernel_rfl) rfl rfl ?_
      try go_frame
      go_wp2_with fail
      refine ⟨S1.out, ?_⟩
      refine Reg.one 15 _ (by kernel_rfl) rfl rfl ?_
      try go_frame
      refine store_cells (o := ⟨none, _, _, _, _, _⟩) rfl _ _ _ rfl (K + 1) [.pointer none, .pointer none] [.pointer (some ⟨p.r, 0, none⟩), .pointer (some ⟨p.q, 0, none⟩)] rfl rfl N5.out infoPs rfl rfl ?_
      have bz : Below K w (w5.setRow (K + 1) #[.pointer (some ⟨p.r, 0, none⟩), .pointer (some ⟨p.q, 0, none⟩)]) := below_setRow B5.out (by omega) _
      have pz : Row (w5.setRow (K + 1) #[.pointer (some ⟨p.r, 0, none⟩), .pointer (some ⟨p.q, 0, none⟩)]) (K + 1) [.pointer (some ⟨p.r, 0, none⟩), .pointer (some ⟨p.q, 0, none⟩)] := N5.out.setRow [.pointer (some ⟨p.r, 0, none⟩), .pointer (some ⟨p.q, 0, none⟩)]
      have oz : Row (w5.setRow (K + 1) #[.pointer (some ⟨p.r, 0, none⟩), .pointer (some ⟨p.q, 0, none⟩)]) K [.int .i64 4, .int .i64 a, .string (str s)] := O5.out.setOther (by omega) _
      have BZ := Lib.hid bz
      have PZ := Lib.hid pz
      have OZ := Lib.hid oz
      have UZ := Lib.hid (H.out.below (by rw [HK.out]; exact bz))
      have hzl := pz.lt
      have hzo := oz.lt
      clear bz pz oz h5 r0 r1 S0 S1 N5 U5 B5 O5 hq5 q0 q2 hzd
      generalize w5.setRow (K + 1) #[.pointer (some ⟨p.r, 0, none⟩), .pointer (some ⟨p.q, 0, none⟩)] = wz at BZ PZ OZ UZ hzl hzo ⊢
      refine ⟨Reg.cls_mk ⟨UZ.out.wrow.cell 1, OZ.out.cell 1⟩, ?_⟩
      refine wpAnyH_done (by kernel_rfl) ?_ 0
      have z0 : wz.cell? ⟨K, 0, none⟩ = some (.int .i64 4) := OZ.out.cell 0
      have z1 : wz.cell? ⟨K + 1, 0, none⟩ = some (.pointer (some ⟨p.r, 0, none⟩)) := PZ.out.cell 0
      have HY := Lib.hid (UZ.out.pairs i p HPI.out)
      have T2 := Lib.hid (ids_calls p.r p.m p.P wz (HY.out.row.cell 0) HY.out.map)
      go_wp2_with fail
      refine T2.out.mono ?_
      clear T2 z0 z1
      rintro e wa ⟨v, rfl, hva, hba⟩
      have BA := Lib.hid (UZ.out.bel.trans (hba.mono UZ.out.bel.size))
      have PA := Lib.hid (PZ.out.below hba hzl)
      have z2 : wa.cell? ⟨K + 1, 1, none⟩ = some (.pointer (some ⟨p.q, 0, none⟩)) := PA.out.cell 1
      have T3 := Lib.hid (rids_calls p.q t w1.heap.size p.pv p.P wa (HTB1.out.below BA.out) (HY.out.ref.below hba HY.out.ref.lt) (ownN_below HY.out.own hba (Nat.le_refl _)) HY.out.map.short HY.out.map.le)
      have VA := Lib.hid hva
      have DA := Lib.hid hba
      clear hva hba
      go_wp2_with fail
      refine T3.out.mono ?_
      clear T3 z2
      rintro e wb ⟨v2, rfl, hvb, hbb⟩
      have VB := Lib.hid (ownN_below VA.out hbb (Nat.le_refl _))
      have DB := Lib.hid (DA.out.trans (hbb.mono DA.out.size))
      have T4 := Lib.hid (same_calls v v2 (p.P.map Mk.twice) wb (own_texts VB.out (by rw [List.length_map])) (own_texts hvb (by rw [List.length_map])) (by rw [List.length_map]; have := HP.out.map.le; omega))
      clear hvb hbb
      go_wp2_with fail
      refine T4.out.mono ?_
      clear T4
      rintro e wc' ⟨rfl, hbc⟩
      have VC := Lib.hid (ownN_below VB.out hbc (Nat.le_refl _))
      have DC := Lib.hid (DB.out.trans (hbc.mono DB.out.size))
      clear hbc
      have hle := HP.out.map.le
      have hzc := DC.out.size
      have NV := Lib.hid (show ∀ g, v.ownBlock = some g → wz.heap.size ≤ g from fun g hg => (VC.out.lt g hg).1)
      have NL := Lib.hid (show ∀ g, lsv.ownBlock = some g → g < wz.heap.size ∧ g ≠ Wb from fun g hg => ⟨(UZ.out.lso.lt g hg).2, fun e => by have h1 := UZ.out.tls g hg; have h2 := UZ.out.tW; rw [e] at h1; omega⟩)
      have T5 := Lib.hid (mine_calls Wb t wz.heap.size w1.heap.size _ lsv v (p.P.map Mk.twice) ls wc' (UZ.out.wrow.below DC.out UZ.out.wrow.lt) (by rw [List.length_map]; exact VC.out) (ownN_below UZ.out.lso DC.out (Nat.le_refl _))
        (fun g hg => by have := NV.out g hg; omega) (fun g hg => (NL.out g hg).2) (fun g hg he => by have := NV.out g hg; have := (NL.out g he).1; omega) (by rw [List.length_map]; omega) hln hzc (by have := UZ.out.bel.size; omega))
      go_wp2_with fail
      refine T5.out.mono ?_
      clear T5
      rintro e wd ⟨rfl, lv', lsv', hW, hlv, hls, ho1, ho2, hne2, hF⟩
      have UU := Lib.hid (UZ.out.list (n := (p.P.map Mk.twice).length + 2) (by rw [List.length_map]; omega) ((Fr.of_below DC.out).trans (hF.mono hzc (fun k hk hs => by rcases hs with h | h | h; exact .inl h; (have := NV.out k h; omega); exact .inr h))) hW hlv hls (ho2.imp id fun ⟨g, h1, h2⟩ => ⟨g, h1, by omega⟩) hne2)
      clear hW hlv hls ho1 ho2 hne2 hF
      go_wp2_with fail
      go_ret
      exact ⟨rfl, _, _, _, _, _, UU.out, by omega, by simp⟩
  · try go_frame
    go_wp2_with fail
    refine ⟨S1.out, ?_⟩
    refine Reg.one 11 _ (by kernel_rfl) rfl rfl ?_
    try go_frame
    go_wp2_with fail
    refine (T1.out _).mono ?_
    rintro e wx ⟨rfl, hwx⟩
    subst wx
    go_wp2_with fail
    refine ⟨S1.out, ?_⟩
    refine Reg.one 12 _ (by kernel_rfl) rfl rfl ?_
    try go_frame
    go_wp2_with fail
    refine ⟨S1.out, ?_⟩
    refine Reg.one 13 _ (by kernel_rfl) rfl rfl ?_
    try go_frame
    go_wp2_with fail
    refine ⟨S1.out, ?_⟩
    refine Reg.one 15 _ (by kernel_rfl) rfl rfl ?_
    try go_frame
    refine store_cells (o := ⟨none, _, _, _, _, _⟩) rfl _ _ _ rfl (K + 1) [.pointer none, .pointer none] [.pointer (some ⟨p.r, 0, none⟩), .pointer (some ⟨p.q, 0, none⟩)] rfl rfl N5.out infoPs rfl rfl ?_
    have bz : Below K w (w5.setRow (K + 1) #[.pointer (some ⟨p.r, 0, none⟩), .pointer (some ⟨p.q, 0, none⟩)]) := below_setRow B5.out (by omega) _
    have pz : Row (w5.setRow (K + 1) #[.pointer (some ⟨p.r, 0, none⟩), .pointer (some ⟨p.q, 0, none⟩)]) (K + 1) [.pointer (some ⟨p.r, 0, none⟩), .pointer (some ⟨p.q, 0, none⟩)] := N5.out.setRow [.pointer (some ⟨p.r, 0, none⟩), .pointer (some ⟨p.q, 0, none⟩)]
    have oz : Row (w5.setRow (K + 1) #[.pointer (some ⟨p.r, 0, none⟩), .pointer (some ⟨p.q, 0, none⟩)]) K [.int .i64 4, .int .i64 a, .string (str s)] := O5.out.setOther (by omega) _
    have BZ := Lib.hid bz
    have PZ := Lib.hid pz
    have OZ := Lib.hid oz
    have UZ := Lib.hid (H.out.below (by rw [HK.out]; exact bz))
    have hzl := pz.lt
    have hzo := oz.lt
    clear bz pz oz h5 r0 r1 S0 S1 N5 U5 B5 O5 hq5 q0 q2 hzd
    generalize w5.setRow (K + 1) #[.pointer (some ⟨p.r, 0, none⟩), .pointer (some ⟨p.q, 0, none⟩)] = wz at BZ PZ OZ UZ hzl hzo ⊢
    refine ⟨Reg.cls_mk ⟨UZ.out.wrow.cell 1, OZ.out.cell 1⟩, ?_⟩
    refine wpAnyH_done (by kernel_rfl) ?_ 0
    have z0 : wz.cell? ⟨K, 0, none⟩ = some (.int .i64 4) := OZ.out.cell 0
    have z1 : wz.cell? ⟨K + 1, 0, none⟩ = some (.pointer (some ⟨p.r, 0, none⟩)) := PZ.out.cell 0
    have HY := Lib.hid (UZ.out.pairs i p HPI.out)
    have T2 := Lib.hid (ids_calls p.r p.m p.P wz (HY.out.row.cell 0) HY.out.map)
    go_wp2_with fail
    refine T2.out.mono ?_
    clear T2 z0 z1
    rintro e wa ⟨v, rfl, hva, hba⟩
    have BA := Lib.hid (UZ.out.bel.trans (hba.mono UZ.out.bel.size))
    have PA := Lib.hid (PZ.out.below hba hzl)
    have z2 : wa.cell? ⟨K + 1, 1, none⟩ = some (.pointer (some ⟨p.q, 0, none⟩)) := PA.out.cell 1
    have T3 := Lib.hid (rids_calls p.q t w1.heap.size p.pv p.P wa (HTB1.out.below BA.out) (HY.out.ref.below hba HY.out.ref.lt) (ownN_below HY.out.own hba (Nat.le_refl _)) HY.out.map.short HY.out.map.le)
    have VA := Lib.hid hva
    have DA := Lib.hid hba
    clear hva hba
    go_wp2_with fail
    refine T3.out.mono ?_
    clear T3 z2
    rintro e wb ⟨v2, rfl, hvb, hbb⟩
    have VB := Lib.hid (ownN_below VA.out hbb (Nat.le_refl _))
    have DB := Lib.hid (DA.out.trans (hbb.mono DA.out.size))
    have T4 := Lib.hid (same_calls v v2 (p.P.map Mk.twice) wb (own_texts VB.out (by rw [List.length_map])) (own_texts hvb (by rw [List.length_map])) (by rw [List.length_map]; have := HP.out.map.le; omega))
    clear hvb hbb
    go_wp2_with fail
    refine T4.out.mono ?_
    clear T4
    rintro e wc' ⟨rfl, hbc⟩
    have VC := Lib.hid (ownN_below VB.out hbc (Nat.le_refl _))
    have DC := Lib.hid (DB.out.trans (hbc.mono DB.out.size))
    clear hbc
    have hle := HP.out.map.le
    have hzc := DC.out.size
    have NV := Lib.hid (show ∀ g, v.ownBlock = some g → wz.heap.size ≤ g from fun g hg => (VC.out.lt g hg).1)
    have NL := Lib.hid (show ∀ g, lsv.ownBlock = some g → g < wz.heap.size ∧ g ≠ Wb from fun g hg => ⟨(UZ.out.lso.lt g hg).2, fun e => by have h1 := UZ.out.tls g hg; have h2 := UZ.out.tW; rw [e] at h1; omega⟩)
    have T5 := Lib.hid (mine_calls Wb t wz.heap.size w1.heap.size _ lsv v (p.P.map Mk.twice) ls wc' (UZ.out.wrow.below DC.out UZ.out.wrow.lt) (by rw [List.length_map]; exact VC.out) (ownN_below UZ.out.lso DC.out (Nat.le_refl _))
      (fun g hg => by have := NV.out g hg; omega) (fun g hg => (NL.out g hg).2) (fun g hg he => by have := NV.out g hg; have := (NL.out g he).1; omega) (by rw [List.length_map]; omega) hln hzc (by have := UZ.out.bel.size; omega))
    go_wp2_with fail
    refine T5.out.mono ?_
    clear T5
    rintro e wd ⟨rfl, lv', lsv', hW, hlv, hls, ho1, ho2, hne2, hF⟩
    have UU := Lib.hid (UZ.out.list (n := (p.P.map Mk.twice).length + 2) (by rw [List.length_map]; omega) ((Fr.of_below DC.out).trans (hF.mono hzc (fun k hk hs => by rcases hs with h | h | h; exact .inl h; (have := NV.out k h; omega); exact .inr h))) hW hlv hls (ho2.imp id fun ⟨g, h1, h2⟩ => ⟨g, h1, by omega⟩) hne2)
    clear hW hlv hls ho1 ho2 hne2 hF
    go_wp2_with fail
    go_ret
    exact ⟨rfl, _, _, _, _, _, UU.out, by omega, by simp⟩
end Go.Proofs.YtlpcjiollnnmgabGreatDoor
