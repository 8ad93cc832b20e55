/-
  compactlaw: step.
-/
import Derived.Test.YtlpcjiollnnmgabGreatDoorLawC
import Derived.Test.YtlpcjiollnnmgabGreatDoorRegion3
set_option maxRecDepth 100000
namespace Go.Proofs.YtlpcjiollnnmgabGreatDoor
open Nums
open Go.RowKit
open Lw
theorem infoPair : (Tryz.prog.info? 122).map (fun i => (i.zero, i.size, i.bytes)) = some (some (.agg #[.pointer none, .pointer none]), 2, 16) := by kernel_rfl
theorem alloc_block (w : World) (o : Obj) {k : Nat} (h : k < w.heap.size) : (w.alloc o).heap[k]? = w.heap[k]? := ((Below.refl w.heap.size w).alloc (Nat.le_refl _) o).block k h
/-- what a step leaves -/
def StepPost (w1 : World) (t Wb : Nat) (ps : List PR) (ls : List Value) (e : Ending) (w' : World) : Prop :=
  e = .returned (.bool true) ∧ ∃ τ' ps' ls' rsv' lsv', UpSt w1 w' t Wb τ' ps' ls' rsv' lsv' ∧ ps'.length ≤ ps.length + 1 ∧ ls'.length ≤ ls.length + 1
set_option maxHeartbeats 4000000 in
theorem step_new (w1 w : World) (t Wb : Nat) (τ : Nat → Nat) (ps : List PR) (ls : List Value) (rsv lsv : Value) (h : UpSt w1 w t Wb τ ps ls rsv lsv) (a : Int) (s : List UInt8) (hn : ps.length ≤ 2097152) :
    Calls Tryz.prog 28 #[.pointer (some ⟨Wb, 0, none⟩), .agg #[.int .i64 1, .int .i64 a, .string (str s)]] w (StepPost w1 t Wb ps ls) := by
  have H := Lib.hid h
  have hWl := h.wrow.lt
  clear h
  go_enter Tryz.func28, Tryz.ntmps28
  go_wp2_with fail
  have hb0 : Below w.heap.size w (w.alloc (.cells #[.int .i64 1, .int .i64 a, .string (str s)] 59)) := (Below.refl _ _).alloc (Nat.le_refl _) _
  have B0 := Lib.hid hb0
  have hz0' : w.heap.size + 1 = (w.alloc (.cells #[.int .i64 1, .int .i64 a, .string (str s)] 59)).heap.size := by simp
  clear hb0
  generalize w.alloc (.cells #[.int .i64 1, .int .i64 a, .string (str s)] 59) = w2 at B0 hz0' ⊢
  refine (new_calls w2).mono ?_
  rintro e w3 ⟨r, m, rfl, hrow, hmap, hrl, hml, hrm, hb3⟩
  have U2 := Lib.hid (H.out.below B0.out)
  have U3 := Lib.hid (U2.out.below (hb3.mono (Nat.le_refl _)))
  have B23 := Lib.hid hb3
  have B3 := Lib.hid (B0.out.trans (hb3.mono (by omega)))
  have RR := Lib.hid hrow
  have MM := Lib.hid hmap
  have hz3 := hb3.size
  have hrl3 := hrow.lt
  have hml3 := hmap.lt
  clear hrow hmap hb3 H
  obtain ⟨i0, hi0, hz0, hz1, hz2⟩ := info_parts infoPair
  have HI := Lib.hid hi0
  clear hi0
  go_upto_region 6 with fail
  obtain ⟨ra, rc, rfl⟩ := own_lenN U3.out.rs
  have hc0 : w3.cell? ⟨Wb, 0, none⟩ = some (.pointer (some ⟨t, 0, none⟩)) := U3.out.wrow.cell 0
  haveI hne : Nonempty (Reg.Of (fun u : World => u.cell? ⟨Wb, 0, none⟩ = some (.pointer (some ⟨t, 0, none⟩)))) := ⟨⟨w3, hc0⟩⟩
  have hu0 : ∀ u : Reg.Of (fun u : World => u.cell? ⟨Wb, 0, none⟩ = some (.pointer (some ⟨t, 0, none⟩))), u.w.cell? ⟨Wb, 0, none⟩ = some (.pointer (some ⟨t, 0, none⟩)) := fun u => u.h
  refine Reg.startL [0, 1, 2, 3, 5, 6, 7, 8, 9, 10] 8 mixed (by kernel_rfl) rfl rfl (fun c a d v w h => by cases d <;> exact h) (by as_aux_lemma => kernel_rfl) rfl (fun u : World => u.cell? ⟨Wb, 0, none⟩ = some (.pointer (some ⟨t, 0, none⟩))) hc0 ?_
  show wpQuiet _ _ _ _ [_, _, _, _, _, _, _, _, _, _] _
  repeat (go_big_quiet_step (fail))
  refine wpQuiet_nil ?_
  have hc1 : w3.drew.cell? ⟨Wb, 1, none⟩ = some (.slice ra ps.length rc) := U3.out.wrow.cell 1
  have S0 := Lib.hid (show Reg.cls (fun u : World => u.cell? ⟨Wb, 0, none⟩ = some (.pointer (some ⟨t, 0, none⟩))) w3.drew from Reg.cls_mk hc0)
  have hWl3 : Wb < w3.heap.size := U3.out.wrow.lt
  have hcd : w3.drew.cell? ⟨Wb, 0, none⟩ = some (.pointer (some ⟨t, 0, none⟩)) := hc0
  have hzd := Lib.hid (show w3.drew.heap.size = w3.heap.size from rfl)
  have UD := Lib.hid (show UpSt w1 w3.drew t Wb τ ps ls _ lsv from U3.out.below (Below.refl _ _).drew)
  have RD := Lib.hid (show Row w3.drew r (Mp.rcv m) from RR.out)
  have MD := Lib.hid (MM.out.block (w' := w3.drew) rfl)
  have BD := Lib.hid (B3.out.drew)
  have BD2 := Lib.hid (show Below w2.heap.size w3 w3.drew from (Below.refl _ _).drew)
  clear hc0 hne hu0 RR MM U3 B3
  generalize w3.drew = w4 at hc1 S0 hcd hzd UD RD MD BD BD2 ⊢
  obtain ⟨q, hq4⟩ : ∃ q, w4.heap.size = q := ⟨_, rfl⟩
  obtain ⟨w5, h5⟩ : ∃ w5, w4.alloc (.cells #[.pointer (some ⟨t, 0, none⟩), .slice none 0 0, .string (str []), .slice none 0 0, .slice none 0 0] 120) = w5 := ⟨_, rfl⟩
  obtain ⟨w6, h6⟩ : ∃ w6, w5.alloc (.cells #[.pointer (some ⟨r, 0, none⟩), .pointer (some ⟨q, 0, none⟩)] 122) = w6 := ⟨_, rfl⟩
  have hq5 : w5.heap.size = q + 1 := by rw [← h5, World.size_alloc, hq4]
  have hq3 : w3.heap.size = q := by rw [← hzd.out, hq4]
  have hWq := Lib.hid (show Wb < q from by have := hzd.out; omega)
  have hc15 : w5.cell? ⟨Wb, 1, none⟩ = some (.slice ra ps.length rc) := by rw [← h5, ← hc1]; exact World.cell?_alloc_lt _ _ _ (by rw [hq4]; exact hWq.out)
  have hc16 : w6.cell? ⟨Wb, 1, none⟩ = some (.slice ra ps.length rc) := by rw [← h6, ← hc15]; exact World.cell?_alloc_lt _ _ _ (by have := hWq.out; show Wb < _; omega)
  have S1 := Lib.hid (show Reg.cls (fun u : World => u.cell? ⟨Wb, 0, none⟩ = some (.pointer (some ⟨t, 0, none⟩))) w5 from Reg.cls_mk (by rw [← h5, ← hcd]; exact World.cell?_alloc_lt _ _ _ (by rw [hq4]; exact hWq.out)))
  have S2 := Lib.hid (show Reg.cls (fun u : World => u.cell? ⟨Wb, 0, none⟩ = some (.pointer (some ⟨t, 0, none⟩))) w6 from Reg.cls_mk (by rw [← h6, ← hcd]; refine (World.cell?_alloc_lt _ _ _ (by have := hWq.out; show Wb < _; omega)).trans ?_; rw [← h5]; exact World.cell?_alloc_lt _ _ _ (by rw [hq4]; exact hWq.out)))
  have RS6 := Lib.hid (show w6.ownsRow w1.heap.size 122 2 (.slice ra ps.length rc) ps.length (pairCells ps) from by rw [← h6, ← h5]; exact (UD.out.rs.alloc _).alloc _)
  have HNW := Lib.hid (show ∀ j u, [Value.pointer (some ⟨r, 0, none⟩), .pointer (some ⟨q, 0, none⟩)][j]? = some u → w6.cell? ((⟨q + 1, 0, none⟩ : Addr).add j) = some u from by rw [← h6, ← hq5]; exact cell_two_new _ _ _ _)
  have HF6 := Lib.hid (show Below w2.heap.size w2 w6 from by rw [← h6, ← h5]; exact (((B23.out.trans (show Below w2.heap.size w3 w4 from BD2.out)).alloc (by have := hzd.out; omega) _).alloc (by rw [World.size_alloc]; have := hzd.out; omega) _))
  have HR6 := Lib.hid (show Row w6 r (Mp.rcv m) from by rw [← h6, ← h5]; exact (RD.out.alloc _).alloc _)
  have HM6 := Lib.hid (show Mp.Map w6 m [] from by
    refine MD.out.block ?_
    rw [← h6, ← h5]; exact ((alloc_block _ _ (by rw [World.size_alloc]; have := hzd.out; omega)).trans (alloc_block _ _ (by have := hzd.out; omega))))
  have HQ6 := Lib.hid (show Row w6 q (Rp.mrc t (.slice none 0 0)) from by rw [← h6, ← h5, ← hq4]; exact (Row.new _ _ _).alloc _)
  have hq6 : w6.heap.size = q + 2 := by rw [← h6, World.size_alloc, hq5]
  have NE := Lib.hid (show ∀ g, (Value.slice ra ps.length rc).ownBlock = some g → g ≠ Wb ∧ g < w2.heap.size from fun g hg => ⟨fun e => by subst e; have h1 := U2.out.trs _ hg; have h2 := U2.out.tW; omega, (U2.out.rs.lt g hg).2⟩)
  refine Reg.two 4 11 _ _ (by kernel_rfl) rfl rfl rfl rfl ?_ ?_
  · try go_frame
    go_wp2_with fail
    refine ⟨S0.out, ?_⟩
    refine Reg.one 11 _ (by kernel_rfl) rfl rfl ?_
    try go_frame
    go_wp2_with fail
    refine ⟨S1.out, ?_⟩
    refine Reg.one 12 _ (by kernel_rfl) rfl rfl ?_
    try go_frame
    go_wp2_with fail
    refine ⟨S1.out, ?_⟩
    refine Reg.one 13 _ (by kernel_rfl) rfl rfl ?_
    try go_frame
    go_wp2_with fail
    refine ⟨S2.out, ?_⟩
    refine Reg.one 14 _ (by kernel_rfl) rfl rfl ?_
    try go_frame
    refine wpList_append_own_at _ rfl _ _ 63 rfl w1.heap.size 122 i0 (.agg #[.pointer none, .pointer none]) 2 16 Tryz.underlying63 HI.out hz0 hz1 hz2 rfl (by decide) _ _ _ rfl RS6.out ⟨q + 1, 0, none⟩ 1 1 [.pointer (some ⟨r, 0, none⟩), .pointer (some ⟨q, 0, none⟩)] rfl rfl HNW.out (by intro u hu; simp at hu; rcases hu with rfl | rfl <;> rfl) (by unfold maxLen; omega) (by omega) (by have := U2.out.bel.size; have := HF6.out.size; omega) ?_
    intro v7 w7 hown7 hgr7 _ hob7; have H7 := Lib.hid hown7; have G7 := Lib.hid hgr7; have O7 := Lib.hid hob7; clear hown7 hgr7 hob7
    obtain ⟨va, vc, rfl⟩ := own_lenN H7.out
    have F7 := Lib.hid (show Fr w2.heap.size (fun k => k = Wb ∨ (Value.slice ra ps.length rc).ownBlock = some k) w2 w7 from (Fr.of_below HF6.out).grown G7.out (by have := HF6.out.size; omega) (fun g hg => .inl (.inr hg)))
    have W7 := Lib.hid (show Row w7 Wb (wc t (.slice ra ps.length rc) lsv) from by
      obtain ⟨T, hT⟩ := U2.out.wrow.below HF6.out U2.out.wrow.lt
      exact ⟨T, by rw [G7.out.block Wb (by have := hWq.out; omega) (fun h => (NE.out Wb h.symm).1 rfl)]; exact hT⟩)
    have S7 := Lib.hid (show Reg.cls (fun u : World => u.cell? ⟨Wb, 0, none⟩ = some (.pointer (some ⟨t, 0, none⟩))) w7 from Reg.cls_mk (W7.out.cell 0))
    have hc7 : w7.cell? ⟨Wb, 1, none⟩ = some (.slice ra ps.length rc) := W7.out.cell 1
    have hf7 := W7.out.free 1
    have hOB := Lib.hid (show ∀ g, (Value.slice va (ps.length + 1) vc).ownBlock = some g → g ≠ Wb ∧ (g < w2.heap.size ∨ g = q + 2) from fun g hg => by
      rcases O7.out with h | h
      · have := NE.out g (h ▸ hg); exact ⟨this.1, .inl this.2⟩
      · rw [h, hq6] at hg; cases hg; exact ⟨by have := hWq.out; omega, .inr rfl⟩)
    have UU := Lib.hid (U2.out.more r m q (F7.out.setCell (a := ⟨Wb, 1, none⟩) (.inl (.inl rfl)) (.slice va (ps.length + 1) vc)) (W7.out.set 1 (.slice va (ps.length + 1) vc))
      (show Row _ r (Mp.rcv m) from (show Row w7 r (Mp.rcv m) from by obtain ⟨T, hT⟩ := HR6.out; exact ⟨T, by rw [G7.out.block r (by omega) (fun h => by have := (NE.out r h.symm).2; omega)]; exact hT⟩).other (show Wb ≠ r from by omega) _)
      (show Mp.Map _ m [] from HM6.out.block (by rw [Below.heap_setCell _ _ _ _ (by show m ≠ Wb; omega)]; exact G7.out.block m (by omega) (fun h => by have := (NE.out m h.symm).2; omega)))
      (show Row _ q (Rp.mrc t (.slice none 0 0)) from (show Row w7 q (Rp.mrc t (.slice none 0 0)) from by obtain ⟨T, hT⟩ := HQ6.out; exact ⟨T, by rw [G7.out.block q (by omega) (fun h => by have := (NE.out q h.symm).2; omega)]; exact hT⟩).other (show Wb ≠ q from by omega) _)
      (ownsRow_setCell_other H7.out (a := ⟨Wb, 1, none⟩) (fun h => (hOB.out Wb h).1 rfl) _)
      (O7.out.imp id fun h => ⟨_, h, by omega⟩) hrl hml (by omega) hrm (by omega) (by omega) (fun g hg => by rcases (hOB.out g hg).2 with h | h <;> omega))
    have S8 := Lib.hid (show Reg.cls (fun u : World => u.cell? ⟨Wb, 0, none⟩ = some (.pointer (some ⟨t, 0, none⟩))) (w7.setCell ⟨Wb, 1, none⟩ (.slice va (ps.length + 1) vc)) from Reg.cls_mk ((W7.out.set 1 (.slice va (ps.length + 1) vc)).cell 0))
    clear O7
    go_wp2_with fail
    refine ⟨S7.out, ?_⟩
    refine Reg.one 15 _ (by kernel_rfl) rfl rfl ?_
    try go_frame
    go_wp2_with fail
    refine ⟨S7.out, ?_⟩
    refine Reg.one 16 _ (by kernel_rfl) rfl rfl ?_
    try go_frame
    go_wp2_with fail
    refine ⟨S7.out, ?_⟩
    refine Reg.one 17 _ (by kernel_rfl) rfl rfl ?_
    try go_frame
    go_wp2_with fail
    refine ⟨S8.out, ?_⟩
    refine wpAnyH_done (by kernel_rfl) ?_ 0
    clear h5 h6 S0 S1 S2 S7 S8 hc7 hf7 hc1 hc15 hc16 hcd
    go_wp2_with fail
    go_ret
    exact ⟨rfl, _, _, _, _, _, UU.out, by simp, by omega⟩
  · try go_frame
    go_wp2_with fail
    refine ⟨S1.out, ?_⟩
    refine Reg.two 4 12 _ _ (by kernel_rfl) rfl rfl rfl rfl ?_ ?_
    · try go_frame
      go_wp2_with fail
      refine ⟨S1.out, ?_⟩
      refine Reg.one 12 _ (by kernel_rfl) rfl rfl ?_
      try go_frame
      go_wp2_with fail
      refine ⟨S1.out, ?_⟩
      refine Reg.one 13 _ (by kernel_rfl) rfl rfl ?_
      try go_frame
      go_wp2_with fail
      refine ⟨S2.out, ?_⟩
      refine Reg.one 14 _ (by kernel_rfl) rfl rfl ?_
      try go_frame
      refine wpList_append_own_at _ rfl _ _ 63 rfl w1.heap.size 122 i0 (.agg #[.pointer none, .pointer none]) 2 16 Tryz.underlying63 HI.out hz0 hz1 hz2 rfl (by decide) _ _ _ rfl RS6.out ⟨q + 1, 0, none⟩ 1 1 [.pointer (some ⟨r, 0, none⟩), .pointer (some ⟨q, 0, none⟩)] rfl rfl HNW.out (by intro u hu; simp at hu; rcases hu with rfl | rfl <;> rfl) (by unfold maxLen; omega) (by omega) (by have := U2.out.bel.size; have := HF6.out.size; omega) ?_
      intro v7 w7 hown7 hgr7 _ hob7; have H7 := Lib.hid hown7; have G7 := Lib.hid hgr7; have O7 := Lib.hid hob7; clear hown7 hgr7 hob7
      obtain ⟨va, vc, rfl⟩ := own_lenN H7.out
      have F7 := Lib.hid (show Fr w2.heap.size (fun k => k = Wb ∨ (Value.slice ra ps.length rc).ownBlock = some k) w2 w7 from (Fr.of_below HF6.out).grown G7.out (by have := HF6.out.size; omega) (fun g hg => .inl (.inr hg)))
      have W7 := Lib.hid (show Row w7 Wb (wc t (.slice ra ps.length rc) lsv) from by
        obtain ⟨T, hT⟩ := U2.out.wrow.below HF6.out U2.out.wrow.lt
        exact ⟨T, by rw [G7.out.block Wb (by have := hWq.out; omega) (fun h => (NE.out Wb h.symm).1 rfl)]; exact hT⟩)
      have S7 := Lib.hid (show Reg.cls (fun u : World => u.cell? ⟨Wb, 0, none⟩ = some (.pointer (some ⟨t, 0, none⟩))) w7 from Reg.cls_mk (W7.out.cell 0))
      have hc7 : w7.cell? ⟨Wb, 1, none⟩ = some (.slice ra ps.length rc) := W7.out.cell 1
      have hf7 := W7.out.free 1
      have hOB := Lib.hid (show ∀ g, (Value.slice va (ps.length + 1) vc).ownBlock = some g → g ≠ Wb ∧ (g < w2.heap.size ∨ g = q + 2) from fun g hg => by
        rcases O7.out with h | h
        · have := NE.out g (h ▸ hg); exact ⟨this.1, .inl this.2⟩
        · rw [h, hq6] at hg; cases hg; exact ⟨by have := hWq.out; omega, .inr rfl⟩)
      have UU := Lib.hid (U2.out.more r m q (F7.out.setCell (a := ⟨Wb, 1, none⟩) (.inl (.inl rfl)) (.slice va (ps.length + 1) vc)) (W7.out.set 1 (.slice va (ps.length + 1) vc))
        (show Row _ r (Mp.rcv m) from (show Row w7 r (Mp.rcv m) from by obtain ⟨T, hT⟩ := HR6.out; exact ⟨T, by rw [G7.out.block r (by omega) (fun h => by have := (NE.out r h.symm).2; omega)]; exact hT⟩).other (show Wb ≠ r from by omega) _)
        (show Mp.Map _ m [] from HM6.out.block (by rw [Below.heap_setCell _ _ _ _ (by show m ≠ Wb; omega)]; exact G7.out.block m (by omega) (fun h => by have := (NE.out m h.symm).2; omega)))
        (show Row _ q (Rp.mrc t (.slice none 0 0)) from (show Row w7 q (Rp.mrc t (.slice none 0 0)) from by obtain ⟨T, hT⟩ := HQ6.out; exact ⟨T, by rw [G7.out.block q (by omega) (fun h => by have := (NE.out q h.symm).2; omega)]; exact hT⟩).other (show Wb ≠ q from by omega) _)
        (ownsRow_setCell_other H7.out (a := ⟨Wb, 1, none⟩) (fun h => (hOB.out Wb h).1 rfl) _)
        (O7.out.imp id fun h => ⟨_, h, by omega⟩) hrl hml (by omega) hrm (by omega) (by omega) (fun g hg => by rcases (hOB.out g hg).2 with h | h <;> omega))
      have S8 := Lib.hid (show Reg.cls (fun u : World => u.cell? ⟨Wb, 0, none⟩ = some (.pointer (some ⟨t, 0, none⟩))) (w7.setCell ⟨Wb, 1, none⟩ (.slice va (ps.length + 1) vc)) from Reg.cls_mk ((W7.out.set 1 (.slice va (ps.length + 1) vc)).cell 0))
      clear O7
      go_wp2_with fail
      refine ⟨S7.out, ?_⟩
      refine Reg.one 15 _ (by kernel_rfl) rfl rfl ?_
      try go_frame
      go_wp2_with fail
      refine ⟨S7.out, ?_⟩
      refine Reg.one 16 _ (by kernel_rfl) rfl rfl ?_
      try go_frame
      go_wp2_with fail
      refine ⟨S7.out, ?_⟩
      refine Reg.one 17 _ (by kernel_rfl) rfl rfl ?_
      try go_frame
      go_wp2_with fail
      refine ⟨S8.out, ?_⟩
      refine wpAnyH_done (by kernel_rfl) ?_ 0
      clear h5 h6 S0 S1 S2 S7 S8 hc7 hf7 hc1 hc15 hc16 hcd
      go_wp2_with fail
      go_ret
      exact ⟨rfl, _, _, _, _, _, UU.out, by simp, by omega⟩
    · try go_frame
      go_wp2_with fail
      refine ⟨S1.out, ?_⟩
      refine Reg.two 4 13 _ _ (by kernel_rfl) rfl rfl rfl rfl ?_ ?_
      · try go_frame
        go_wp2_with fail
        refine ⟨S1.out, ?_⟩
        refine Reg.one 13 _ (by kernel_rfl) rfl rfl ?_
        try go_frame
        go_wp2_with fail
        refine ⟨S2.out, ?_⟩
        refine Reg.one 14 _ (by kernel_rfl) rfl rfl ?_
        try go_frame
        refine wpList_append_own_at _ rfl _ _ 63 rfl w1.heap.size 122 i0 (.agg #[.pointer none, .pointer none]) 2 16 Tryz.underlying63 HI.out hz0 hz1 hz2 rfl (by decide) _ _ _ rfl RS6.out ⟨q + 1, 0, none⟩ 1 1 [.pointer (some ⟨r, 0, none⟩), .pointer (some ⟨q, 0, none⟩)] rfl rfl HNW.out (by intro u hu; simp at hu; rcases hu with rfl | rfl <;> rfl) (by unfold maxLen; omega) (by omega) (by have := U2.out.bel.size; have := HF6.out.size; omega) ?_
        intro v7 w7 hown7 hgr7 _ hob7; have H7 := Lib.hid hown7; have G7 := Lib.hid hgr7; have O7 := Lib.hid hob7; clear hown7 hgr7 hob7
        obtain ⟨va, vc, rfl⟩ := own_lenN H7.out
        have F7 := Lib.hid (show Fr w2.heap.size (fun k => k = Wb ∨ (Value.slice ra ps.length rc).ownBlock = some k) w2 w7 from (Fr.of_below HF6.out).grown G7.out (by have := HF6.out.size; omega) (fun g hg => .inl (.inr hg)))
        have W7 := Lib.hid (show Row w7 Wb (wc t (.slice ra ps.length rc) lsv) from by
          obtain ⟨T, hT⟩ := U2.out.wrow.below HF6.out U2.out.wrow.lt
          exact ⟨T, by rw [G7.out.block Wb (by have := hWq.out; omega) (fun h => (NE.out Wb h.symm).1 rfl)]; exact hT⟩)
        have S7 := Lib.hid (show Reg.cls (fun u : World => u.cell? ⟨Wb, 0, none⟩ = some (.pointer (some ⟨t, 0, none⟩))) w7 from Reg.cls_mk (W7.out.cell 0))
        have hc7 : w7.cell? ⟨Wb, 1, none⟩ = some (.slice ra ps.length rc) := W7.out.cell 1
        have hf7 := W7.out.free 1
        have hOB := Lib.hid (show ∀ g, (Value.slice va (ps.length + 1) vc).ownBlock = some g → g ≠ Wb ∧ (g < w2.heap.size ∨ g = q + 2) from fun g hg => by
          rcases O7.out with h | h
          · have := NE.out g (h ▸ hg); exact ⟨this.1, .inl this.2⟩
          · rw [h, hq6] at hg; cases hg; exact ⟨by have := hWq.out; omega, .inr rfl⟩)
        have UU := Lib.hid (U2.out.more r m q (F7.out.setCell (a := ⟨Wb, 1, none⟩) (.inl (.inl rfl)) (.slice va (ps.length + 1) vc)) (W7.out.set 1 (.slice va (ps.length + 1) vc))
          (show Row _ r (Mp.rcv m) from (show Row w7 r (Mp.rcv m) from by obtain ⟨T, hT⟩ := HR6.out; exact ⟨T, by rw [G7.out.block r (by omega) (fun h => by have := (NE.out r h.symm).2; omega)]; exact hT⟩).other (show Wb ≠ r from by omega) _)
          (show Mp.Map _ m [] from HM6.out.block (by rw [Below.heap_setCell _ _ _ _ (by show m ≠ Wb; omega)]; exact G7.out.block m (by omega) (fun h => by have := (NE.out m h.symm).2; omega)))
          (show Row _ q (Rp.mrc t (.slice none 0 0)) from (show Row w7 q (Rp.mrc t (.slice none 0 0)) from by obtain ⟨T, hT⟩ := HQ6.out; exact ⟨T, by rw [G7.out.block q (by omega) (fun h => by have := (NE.out q h.symm).2; omega)]; exact hT⟩).other (show Wb ≠ q from by omega) _)
          (ownsRow_setCell_other H7.out (a := ⟨Wb, 1, none⟩) (fun h => (hOB.out Wb h).1 rfl) _)
          (O7.out.imp id fun h => ⟨_, h, by omega⟩) hrl hml (by omega) hrm (by omega) (by omega) (fun g hg => by rcases (hOB.out g hg).2 with h | h <;> omega))
        have S8 := Lib.hid (show Reg.cls (fun u : World => u.cell? ⟨Wb, 0, none⟩ = some (.pointer (some ⟨t, 0, none⟩))) (w7.setCell ⟨Wb, 1, none⟩ (.slice va (ps.length + 1) vc)) from Reg.cls_mk ((W7.out.set 1 (.slice va (ps.length + 1) vc)).cell 0))
        clear O7
        go_wp2_with fail
        refine ⟨S7.out, ?_⟩
        refine Reg.one 15 _ (by kernel_rfl) rfl rfl ?_
        try go_frame
        go_wp2_with fail
        refine ⟨S7.out, ?_⟩
        refine Reg.one 16 _ (by kernel_rfl) rfl rfl ?_
        try go_frame
        go_wp2_with fail
        refine ⟨S7.out, ?_⟩
        refine Reg.one 17 _ (by kernel_rfl) rfl rfl ?_
        try go_frame
        go_wp2_with fail
        refine ⟨S8.out, ?_⟩
        refine wpAnyH_done (by kernel_rfl) ?_ 0
        clear h5 h6 S0 S1 S2 S7 S8 hc7 hf7 hc1 hc15 hc16 hcd
        go_wp2_with fail
        go_ret
        exact ⟨rfl, _, _, _, _, _, UU.out, by simp, by omega⟩
      · try go_frame
        go_wp2_with fail
        refine ⟨S2.out, ?_⟩
        refine Reg.one 4 _ (by kernel_rfl) rfl rfl ?_
        try go_frame
        go_wp2_with fail
        refine ⟨S2.out, ?_⟩
        refine Reg.one 14 _ (by kernel_rfl) rfl rfl ?_
        try go_frame
        refine wpList_append_own_at _ rfl _ _ 63 rfl w1.heap.size 122 i0 (.agg #[.pointer none, .pointer none]) 2 16 Tryz.underlying63 HI.out hz0 hz1 hz2 rfl (by decide) _ _ _ rfl RS6.out ⟨q + 1, 0, none⟩ 1 1 [.pointer (some ⟨r, 0, none⟩), .pointer (some ⟨q, 0, none⟩)] rfl rfl HNW.out (by intro u hu; simp at hu; rcases hu with rfl | rfl <;> rfl) (by unfold maxLen; omega) (by omega) (by have := U2.out.bel.size; have := HF6.out.size; omega) ?_
        intro v7 w7 hown7 hgr7 _ hob7; have H7 := Lib.hid hown7; have G7 := Lib.hid hgr7; have O7 := Lib.hid hob7; clear hown7 hgr7 hob7
        obtain ⟨va, vc, rfl⟩ := own_lenN H7.out
        have F7 := Lib.hid (show Fr w2.heap.size (fun k => k = Wb ∨ (Value.slice ra ps.length rc).ownBlock = some k) w2 w7 from (Fr.of_below HF6.out).grown G7.out (by have := HF6.out.size; omega) (fun g hg => .inl (.inr hg)))
        have W7 := Lib.hid (show Row w7 Wb (wc t (.slice ra ps.length rc) lsv) from by
          obtain ⟨T, hT⟩ := U2.out.wrow.below HF6.out U2.out.wrow.lt
          exact ⟨T, by rw [G7.out.block Wb (by have := hWq.out; omega) (fun h => (NE.out Wb h.symm).1 rfl)]; exact hT⟩)
        have S7 := Lib.hid (show Reg.cls (fun u : World => u.cell? ⟨Wb, 0, none⟩ = some (.pointer (some ⟨t, 0, none⟩))) w7 from Reg.cls_mk (W7.out.cell 0))
        have hc7 : w7.cell? ⟨Wb, 1, none⟩ = some (.slice ra ps.length rc) := W7.out.cell 1
        have hf7 := W7.out.free 1
        have hOB := Lib.hid (show ∀ g, (Value.slice va (ps.length + 1) vc).ownBlock = some g → g ≠ Wb ∧ (g < w2.heap.size ∨ g = q + 2) from fun g hg => by
          rcases O7.out with h | h
          · have := NE.out g (h ▸ hg); exact ⟨this.1, .inl this.2⟩
          · rw [h, hq6] at hg; cases hg; exact ⟨by have := hWq.out; omega, .inr rfl⟩)
        have UU := Lib.hid (U2.out.more r m q (F7.out.setCell (a := ⟨Wb, 1, none⟩) (.inl (.inl rfl)) (.slice va (ps.length + 1) vc)) (W7.out.set 1 (.slice va (ps.length + 1) vc))
          (show Row _ r (Mp.rcv m) from (show Row w7 r (Mp.rcv m) from by obtain ⟨T, hT⟩ := HR6.out; exact ⟨T, by rw [G7.out.block r (by omega) (fun h => by have := (NE.out r h.symm).2; omega)]; exact hT⟩).other (show Wb ≠ r from by omega) _)
          (show Mp.Map _ m [] from HM6.out.block (by rw [Below.heap_setCell _ _ _ _ (by show m ≠ Wb; omega)]; exact G7.out.block m (by omega) (fun h => by have := (NE.out m h.symm).2; omega)))
          (show Row _ q (Rp.mrc t (.slice none 0 0)) from (show Row w7 q (Rp.mrc t (.slice none 0 0)) from by obtain ⟨T, hT⟩ := HQ6.out; exact ⟨T, by rw [G7.out.block q (by omega) (fun h => by have := (NE.out q h.symm).2; omega)]; exact hT⟩).other (show Wb ≠ q from by omega) _)
          (ownsRow_setCell_other H7.out (a := ⟨Wb, 1, none⟩) (fun h => (hOB.out Wb h).1 rfl) _)
          (O7.out.imp id fun h => ⟨_, h, by omega⟩) hrl hml (by omega) hrm (by omega) (by omega) (fun g hg => by rcases (hOB.out g hg).2 with h | h <;> omega))
        have S8 := Lib.hid (show Reg.cls (fun u : World => u.cell? ⟨Wb, 0, none⟩ = some (.pointer (some ⟨t, 0, none⟩))) (w7.setCell ⟨Wb, 1, none⟩ (.slice va (ps.length + 1) vc)) from Reg.cls_mk ((W7.out.set 1 (.slice va (ps.length + 1) vc)).cell 0))
        clear O7
        go_wp2_with fail
        refine ⟨S7.out, ?_⟩
        refine Reg.one 15 _ (by kernel_rfl) rfl rfl ?_
        try go_frame
        go_wp2_with fail
        refine ⟨S7.out, ?_⟩
        refine Reg.one 16 _ (by kernel_rfl) rfl rfl ?_
        try go_frame
        go_wp2_with fail
        refine ⟨S7.out, ?_⟩
        refine Reg.one 17 _ (by kernel_rfl) rfl rfl ?_
        try go_frame
        go_wp2_with fail
        refine ⟨S8.out, ?_⟩
        refine wpAnyH_done (by kernel_rfl) ?_ 0
        clear h5 h6 S0 S1 S2 S7 S8 hc7 hf7 hc1 hc15 hc16 hcd
        go_wp2_with fail
        go_ret
        exact ⟨rfl, _, _, _, _, _, UU.out, by simp, by omega⟩
end Go.Proofs.YtlpcjiollnnmgabGreatDoor
