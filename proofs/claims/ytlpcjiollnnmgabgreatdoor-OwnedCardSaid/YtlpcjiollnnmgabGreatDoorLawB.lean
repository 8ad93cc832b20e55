/-
  compactlaw: mine, looks: lists that were handed out.
-/
import Derived.Test.YtlpcjiollnnmgabGreatDoorLawA
import Derived.Maps.AppendAt
import Derived.Laws.OwnMore
import Derived.OneCell
import Derived.WalkSmall
set_option maxRecDepth 100000
namespace Go.Proofs.YtlpcjiollnnmgabGreatDoor
open Nums
open Go.RowKit
namespace Lw
/-- below B nothing has turned but the blocks of S -/
structure Fr (B : Nat) (S : Nat → Prop) (w w' : World) : Prop where
  os : w'.os = w.os
  tape : w'.tape = w.tape
  output : w'.output = w.output
  size : w.heap.size ≤ w'.heap.size
  block : ∀ k, k < B → ¬ S k → w'.heap[k]? = w.heap[k]?
namespace Fr
variable {B : Nat} {S : Nat → Prop} {w w' : World}
theorem refl (B : Nat) (S : Nat → Prop) (w : World) : Fr B S w w := ⟨rfl, rfl, rfl, Nat.le_refl _, fun _ _ _ => rfl⟩
theorem trans {w'' : World} (h : Fr B S w w') (k : Fr B S w' w'') : Fr B S w w'' :=
  ⟨k.os.trans h.os, k.tape.trans h.tape, k.output.trans h.output, Nat.le_trans h.size k.size, fun i hi hs => (k.block i hi hs).trans (h.block i hi hs)⟩
theorem of_below (h : Below B w w') : Fr B S w w' := ⟨h.os, h.tape, h.output, h.size, fun k hk _ => h.block k hk⟩
theorem of_but {s : Nat} (h : But B s w w') (hs : S s ∨ B ≤ s) : Fr B S w w' := ⟨h.os, h.tape, h.output, h.size, fun k hk hn => h.block k hk (fun e => by subst e; rcases hs with hs | hs <;> first | exact hn hs | omega)⟩
theorem mono {B' : Nat} {S' : Nat → Prop} (h : Fr B S w w') (hB : B' ≤ B) (hS : ∀ k, k < B' → S k → S' k) : Fr B' S' w w' := ⟨h.os, h.tape, h.output, h.size, fun k hk hs => h.block k (by omega) (fun hn => hs (hS k hk hn))⟩
theorem alloc (h : Fr B S w w') (hB : B ≤ w'.heap.size) (o : Obj) : Fr B S w (w'.alloc o) := h.trans (of_below ((Below.refl _ _).alloc hB o))
theorem setCell (h : Fr B S w w') {a : Addr} (ha : S a.block ∨ B ≤ a.block) (v : Value) : Fr B S w (w'.setCell a v) :=
  h.trans ⟨rfl, rfl, rfl, by simp [World.setCell], fun k hk hs => Below.heap_setCell _ _ _ _ (fun e => by subst e; rcases ha with ha | ha <;> first | exact hs ha | omega)⟩
theorem grown {w'' : World} {row : Option Nat} (h : Fr B S w w') (hg : w'.grownBy w'' row) (hB : B ≤ w'.heap.size) (hr : ∀ g, row = some g → S g ∨ B ≤ g) : Fr B S w w'' :=
  h.trans ⟨hg.os, hg.tape, hg.output, hg.size, fun k hk hs => hg.block k (by omega) (fun e => by rcases hr k e.symm with h1 | h1 <;> first | exact hs h1 | omega)⟩
theorem row {b : Nat} {l : List Value} (h : Fr B S w w') (hr : Row w b l) (hb : b < B) (hs : ¬ S b) : Row w' b l := by
  obtain ⟨T, hr⟩ := hr; exact ⟨T, by rw [h.block b hb hs]; exact hr⟩
theorem own {C n : Nat} {e : TypeId} {z : Nat} {v : Value} {xs : List Value} (h : Fr B S w w') (ho : w.ownsRow C e z v n xs) (hb : ∀ g, v.ownBlock = some g → g < B ∧ ¬ S g) : w'.ownsRow C e z v n xs := by
  refine ⟨ho.1, ?_⟩
  rcases ho.2 with h1 | ⟨g, cap, cur, rfl, h1, h2, h3⟩
  · exact .inl h1
  · obtain ⟨h4, h5⟩ := hb g rfl
    exact .inr ⟨g, cap, cur, rfl, h1, by rw [h.block g h4 h5]; exact h2, h3⟩
theorem below (h : Fr B S w w') {B' : Nat} (hB : B' ≤ B) (hS : ∀ k, S k → B' ≤ k) : Below B' w w' := ⟨h.os, h.tape, h.output, h.size, fun k hk => h.block k (by omega) (fun hn => by have := hS k hn; omega)⟩
end Fr
theorem infoSl : (Tryz.prog.info? 28).map (fun i => (i.zero, i.size, i.bytes)) = some (some (.slice none 0 0), 1, 24) := by kernel_rfl
/-- the cells of the world of a script -/
def wc (t : Nat) (rsv lsv : Value) : List Value := [.pointer (some ⟨t, 0, none⟩), rsv, lsv, .bool false]
theorem take_mark (l : List (List UInt8)) (m : List UInt8) (j : Nat) (h : j < l.length) : (List.replicate j m ++ l.drop j).set j m = List.replicate (j + 1) m ++ l.drop (j + 1) := by
  rw [List.set_append_right _ _ (by simp)]
  simp only [List.length_replicate, Nat.sub_self]
  rw [List.drop_eq_getElem_cons h, List.set_cons_zero, List.replicate_succ', List.append_assoc]
  rfl
end Lw
open Lw
set_option maxHeartbeats 4000000 in
theorem mine_calls (Wb t Bl Bs : Nat) (rsv lsv lv : Value) (l : List (List UInt8)) (ls : List Value) (w : World) (hW : Row w Wb (wc t rsv lsv)) (hl : w.ownsRow Bl 9 1 lv l.length (wt l)) (hs : w.ownsRow Bs 28 1 lsv ls.length ls)
    (h1 : ∀ g, lv.ownBlock = some g → g ≠ Wb) (h2 : ∀ g, lsv.ownBlock = some g → g ≠ Wb) (h3 : ∀ g, lv.ownBlock = some g → lsv.ownBlock ≠ some g) (h20 : l.length ≤ 1000) (hn : ls.length ≤ 4194304) (hBl : Bl ≤ w.heap.size) (hBs : Bs ≤ w.heap.size) :
    Calls Tryz.prog 62 #[.pointer (some ⟨Wb, 0, none⟩), lv] w fun e w' => e = .returned (.tuple #[]) ∧ ∃ lv' lsv', Row w' Wb (wc t rsv lsv') ∧ w'.ownsRow Bl 9 1 lv' (l.length + 2) (wt (List.replicate (l.length + 2) (mk ls.length))) ∧
      w'.ownsRow Bs 28 1 lsv' (ls.length + 1) (ls ++ [lv']) ∧ (lv'.ownBlock = lv.ownBlock ∨ ∃ g, lv'.ownBlock = some g ∧ w.heap.size ≤ g) ∧ (lsv'.ownBlock = lsv.ownBlock ∨ ∃ g, lsv'.ownBlock = some g ∧ w.heap.size ≤ g) ∧ (∀ g, lv'.ownBlock = some g → lsv'.ownBlock ≠ some g) ∧
      Fr w.heap.size (fun k => k = Wb ∨ lv.ownBlock = some k ∨ lsv.ownBlock = some k) w w' := by
  have HW := Lib.hid hW
  have HL := Lib.hid hl
  have HS := Lib.hid hs
  have H1 := Lib.hid h1
  have H2 := Lib.hid h2
  have H3 := Lib.hid h3
  have hWl := hW.lt
  obtain ⟨la, lc, rfl⟩ := own_lenN hl
  obtain ⟨sa, sc, rfl⟩ := own_lenN hs
  have hc2 : w.cell? ⟨Wb, 2, none⟩ = some (.slice sa ls.length sc) := hW.cell 2
  have T1 := Lib.hid (mark_calls ls.length w (by omega))
  clear hW hl hs h1 h2 h3
  go_enter Tryz.func62, Tryz.ntmps62
  go_wp2_with fail
  refine T1.out.mono ?_
  clear T1 hc2
  rintro e w1 ⟨rfl, hb1⟩
  have B1 := Lib.hid hb1
  have L1 := Lib.hid (ownN_below HL.out hb1 (Nat.le_refl _))
  have hz1 := hb1.size
  clear hb1
  obtain ⟨m, hm⟩ : ∃ m, mk ls.length = m := ⟨_, rfl⟩
  rw [hm]
  have HM := Lib.hid hm
  clear hm
  go_wp2_with fail
  go_loopw [5, 15] (fun _ iv wr => ∃ j : Nat, j ≤ l.length ∧ iv = .int .i64 j ∧ wr.ownsRow Bl 9 1 (.slice la l.length lc) l.length (wt (List.replicate j m ++ l.drop j)) ∧ Fr w1.heap.size (fun k => (Value.slice la l.length lc).ownBlock = some k) w1 wr) (fun _ iv _ => l.length - (intOf iv).toNat)
  case atStart => exact ⟨0, by omega, rfl, by simpa using L1.out, Fr.refl _ _ _⟩
  case round =>
    obtain ⟨j, hj, rfl, hown, hF⟩ := hrel
    have HF := Lib.hid hF
    have HO := Lib.hid hown
    have hzr := hF.size
    clear hown hF
    by_cases hlt : j < l.length
    · have p1 : (j : Int) < (l.length : Int) := by omega
      have hln : (List.replicate j m ++ l.drop j).length = l.length := by simp; omega
      obtain ⟨g, cap, hv, hg, hcell⟩ := Rp.own_get HO.out (by rw [hln]) (by omega)
      cases hv
      have hc := hcell j (by omega)
      have hst := World.ownsRow.stored HO.out j (.string (str m))
      have HT : Hid ((wt (List.replicate j m ++ l.drop j)).set j (.string (str m)) = wt (List.replicate (j + 1) m ++ l.drop (j + 1))) := Lib.hid (by rw [← Lw.take_mark l m j hlt]; simp [wt, List.map_set])
      rw [HT.out] at hst
      have hfz : wr.frozen? ⟨g, j, none⟩ = false := by
        rcases HO.out.2 with ⟨h0, _⟩ | ⟨g', cap', cur, h0, _, hgg, _⟩
        · cases h0
        · cases h0; simp [World.frozen?, hgg]
      have HST := Lib.hid hst
      clear hcell hst hln
      generalize (List.replicate j m ++ l.drop j).getD j [] = old at hc
      go_wp2_with fail
      go_roundw
      case rel => exact ⟨j + 1, by omega, by go_num, HST.out.1, HF.out.setCell (a := ⟨g, j, none⟩) (.inl rfl) _⟩
      case measure => simp [intOf]; omega
    · obtain rfl : j = l.length := by omega
      have HO2 := HO.out
      rw [List.drop_length, List.append_nil] at HO2
      have HX := Lib.hid HO2
      clear HO HO2
      obtain ⟨i0, hi0, hz0, hz1', hz2⟩ := info_parts infoStr
      have HI := Lib.hid hi0
      clear hi0
      go_upto_region 7 with (at_builtin; refine wpList_append_own_at _ rfl _ _ 28 rfl Bl 9 i0 (.string ByteArray.empty) 1 16 Tryz.underlying28 HI.out hz0 hz1' hz2 rfl (by decide) _ _ _ rfl (HX.out.alloc _) ⟨wr.heap.size, 0, none⟩ 2 2 [.string (str m), .string (str m)] rfl rfl (cell_two_new _ _ _ _) (wt_one [m, m]) (by unfold maxLen; omega) (by omega) (by rw [World.size_alloc]; omega) ?_; intro lv2 w5 hown5 hgr5 _ hob5)
      have ZZ := hown5
      obtain ⟨va, vc, rfl⟩ := own_lenN hown5
      have H2b := Lib.hid (show ∀ g, (Value.slice la l.length lc).ownBlock = some g → g < wr.heap.size from fun g hg => (HX.out.lt g hg).2)
      have FA := Lib.hid (show Fr w1.heap.size (fun k => (Value.slice la l.length lc).ownBlock = some k) w1 w5 from (HF.out.alloc hzr _).grown hgr5 (by rw [World.size_alloc]; omega) (fun g hg => .inl hg))
      have hz5 := FA.out.size
      have HSL : Hid (∀ g, (Value.slice sa ls.length sc).ownBlock = some g → g < w.heap.size) := Lib.hid fun g hg => (HS.out.lt g hg).2
      have HW5 : Hid (Row w5 Wb (wc t rsv (.slice sa ls.length sc))) := Lib.hid (FA.out.row (HW.out.below B1.out hWl) (by omega) (fun h => H1.out Wb h rfl))
      have HS5 : Hid (w5.ownsRow Bs 28 1 (.slice sa ls.length sc) ls.length ls) := Lib.hid (FA.out.own (ownN_below HS.out B1.out (Nat.le_refl _)) (fun g hg => ⟨by have := HSL.out g hg; omega, fun h => H3.out g h hg⟩))
      have hc5 : w5.cell? ⟨Wb, 2, none⟩ = some (.slice sa ls.length sc) := HW5.out.cell 2
      have HL5 := Lib.hid hown5
      have HOB := Lib.hid hob5
      obtain ⟨i1, hi1, hy0, hy1, hy2⟩ := info_parts infoSl
      have HI1 := Lib.hid hi1
      clear hown5 hgr5 hob5 ZZ hi1
      go_upto_region 8 with (at_builtin; refine wpList_append_own_at _ rfl _ _ 64 rfl Bs 28 i1 (.slice none 0 0) 1 24 Tryz.underlying64 HI1.out hy0 hy1 hy2 rfl (by decide) _ _ _ rfl (HS5.out.alloc _) ⟨w5.heap.size, 0, none⟩ 1 1 [.slice va (l.length + 2) vc] rfl rfl (cell_one_new _ _ _) (fun u hu => by rw [List.mem_singleton.1 hu]; rfl) (by unfold maxLen; omega) (by omega) (by rw [World.size_alloc]; omega) ?_; intro ls2 w6 hown6 hgr6 _ hob6)
      obtain ⟨ya, yc, rfl⟩ := own_lenN hown6
      have HNE : Hid (∀ g, (Value.slice va (l.length + 2) vc).ownBlock = some g → (Value.slice sa ls.length sc).ownBlock ≠ some g) := Lib.hid fun g hg he => by
        have hsl := HSL.out g he
        rcases HOB.out with h | h
        · exact H3.out g (h ▸ hg) he
        · rw [h, World.size_alloc] at hg; cases hg; omega
      have F6 : Fr w.heap.size (fun k => k = Wb ∨ (Value.slice la l.length lc).ownBlock = some k ∨ (Value.slice sa ls.length sc).ownBlock = some k) w w6 :=
        (((Fr.of_below B1.out).trans (FA.out.mono hz1 (fun k _ h => .inr (.inl h)))).alloc (by omega) _).grown hgr6 (by rw [World.size_alloc]; omega) (fun g hg => .inl (.inr (.inr hg)))
      have HW6 : Row w6 Wb (wc t rsv (.slice sa ls.length sc)) := by
        obtain ⟨T, hT⟩ := HW5.out.alloc (.cells #[.slice va (l.length + 2) vc] 28)
        exact ⟨T, by rw [hgr6.block Wb (by rw [World.size_alloc]; omega) (fun h => H2.out Wb h.symm rfl)]; exact hT⟩
      have HL6 : w6.ownsRow Bl 9 1 (.slice va (l.length + 2) vc) (l.length + 2) (wt (List.replicate l.length m) ++ [.string (str m), .string (str m)]) :=
        (HL5.out.alloc _).kept hgr6 (by
          cases hb : (Value.slice va (l.length + 2) vc).ownBlock with
          | none => exact .inl rfl
          | some g => exact .inr fun h => HNE.out g hb h.symm)
      have hc6 : w6.cell? ⟨Wb, 2, none⟩ = some (.slice sa ls.length sc) := HW6.cell 2
      have hf6 := HW6.free 2
      have ND : Hid (∀ g, (Value.slice va (l.length + 2) vc).ownBlock = some g → (Value.slice ya (ls.length + 1) yc).ownBlock ≠ some g) := Lib.hid fun g hg he => by
        rcases hob6 with h | h
        · exact HNE.out g hg (h ▸ he)
        · have := (HL5.out.lt g hg).2
          rw [h, World.size_alloc] at he; cases he; omega
      have O1 : Hid ((Value.slice va (l.length + 2) vc).ownBlock = (Value.slice la l.length lc).ownBlock ∨ ∃ g, (Value.slice va (l.length + 2) vc).ownBlock = some g ∧ w.heap.size ≤ g) := Lib.hid (HOB.out.imp id fun h => ⟨_, h, by rw [World.size_alloc]; omega⟩)
      have O2 : Hid ((Value.slice ya (ls.length + 1) yc).ownBlock = (Value.slice sa ls.length sc).ownBlock ∨ ∃ g, (Value.slice ya (ls.length + 1) yc).ownBlock = some g ∧ w.heap.size ≤ g) := Lib.hid (hob6.imp id fun h => ⟨_, h, by rw [World.size_alloc]; omega⟩)
      have N1 : Hid ((Value.slice va (l.length + 2) vc).ownBlock ≠ some Wb) := Lib.hid fun h => by
        rcases O1.out with h1 | ⟨g, h1, h2⟩
        · exact H1.out Wb (h1 ▸ h) rfl
        · rw [h] at h1; cases h1; omega
      have N2 : Hid ((Value.slice ya (ls.length + 1) yc).ownBlock ≠ some Wb) := Lib.hid fun h => by
        rcases O2.out with h1 | ⟨g, h1, h2⟩
        · exact H2.out Wb (h1 ▸ h) rfl
        · rw [h] at h1; cases h1; omega
      have FF := Lib.hid F6
      have WW := Lib.hid HW6
      have LL := Lib.hid HL6
      have SS := Lib.hid hown6
      clear F6 HW6 HL6 hown6 hgr6 hob6 hc5
      go_wp2_with fail
      go_end0
      refine ⟨rfl, .slice va (l.length + 2) vc, .slice ya (ls.length + 1) yc, WW.out.set 2 _, ?_, ?_, O1.out, O2.out, ND.out, FF.out.setCell (.inl (.inl rfl)) _⟩
      · have := ownsRow_setCell_other LL.out (a := ⟨Wb, 2, none⟩) N1.out (.slice ya (ls.length + 1) yc)
        rw [HM.out, show wt (List.replicate (l.length + 2) m) = wt (List.replicate l.length m) ++ [.string (str m), .string (str m)] from by simp [wt, List.replicate_succ']]
        exact this
      · exact ownsRow_setCell_other SS.out (a := ⟨Wb, 2, none⟩) N2.out _
/-- the k-th list that was handed out reads as it was written -/
def Marked (w : World) (v : Value) (k : Nat) : Prop := ∃ n a c, n ≤ 2000 ∧ v = .slice a n c ∧ Texts w v (List.replicate n (mk k))
theorem own_cells {w : World} {B n : Nat} {e : TypeId} {v : Value} {xs : List Value} (h : w.ownsRow B e 1 v n xs) (h0 : 0 < n) : ∃ g cap, v = .slice (some ⟨g, 0, none⟩) n cap ∧ g < w.heap.size ∧ ∀ (j : Nat) (u : Value), xs[j]? = some u → w.cell? ⟨g, j, none⟩ = some u := by
  rcases h.2 with ⟨_, h'⟩ | ⟨g, cap, cur, rfl, hb, hg, hnc, _, _, ht⟩
  · omega
  · refine ⟨g, cap, rfl, (Array.getElem?_eq_some_iff.1 hg).1, fun j u hj => ?_⟩
    have hl := h.1
    have hjl : j < xs.length := (List.getElem?_eq_some_iff.1 hj).1
    rw [← hj, ← ht, Nat.mul_one, List.getElem?_take_of_lt (by omega)]
    simp [World.cell?, hg]
set_option maxHeartbeats 4000000 in
theorem looks_calls (Wb t Bs : Nat) (rsv lsv : Value) (ls : List Value) (w : World) (hW : Row w Wb (wc t rsv lsv)) (hs : w.ownsRow Bs 28 1 lsv ls.length ls) (hm : ∀ (k : Nat) (v : Value), ls[k]? = some v → Marked w v k) (hn : ls.length ≤ 4194304) :
    Calls Tryz.prog 29 #[.pointer (some ⟨Wb, 0, none⟩)] w fun e w' => e = .returned (.bool true) ∧ Below w.heap.size w w' := by
  have HS := Lib.hid hs
  have HM := Lib.hid hm
  obtain ⟨sa, sc, rfl⟩ := own_lenN hs
  have hc2 : w.cell? ⟨Wb, 2, none⟩ = some (.slice sa ls.length sc) := hW.cell 2
  clear hW hs hm
  go_enter Tryz.func29, Tryz.ntmps29
  go_wp2_with fail
  clear hc2
  go_loopw [12] (fun iv wr => ∃ k : Nat, k ≤ ls.length ∧ iv = .int .i64 k ∧ Below w.heap.size w wr) (fun iv _ => ls.length - (intOf iv).toNat)
  case atStart => exact ⟨0, by omega, rfl, Below.refl _ _⟩
  case round =>
    obtain ⟨k, hk, rfl, hB⟩ := hrel
    have HB := Lib.hid hB
    have hzr := hB.size
    clear hB
    by_cases hlt : k < ls.length
    · have p1 : (k : Int) < (ls.length : Int) := by omega
      obtain ⟨g, cap, hv, hg, hcell⟩ := own_cells HS.out (by omega)
      cases hv
      obtain ⟨n, ka, kc, hn2, hkv, htx⟩ := HM.out k _ (List.getElem?_eq_getElem hlt)
      have hc := (World.cell?_of_block (w := w) (HB.out.block g hg)).trans (hcell k _ (List.getElem?_eq_getElem hlt))
      rw [hkv] at hc htx
      have HT := Lib.hid htx
      clear hcell hkv htx hg
      go_wp2_with fail
      clear hc
      go_loopw [6, 19] (fun _ iv wx => ∃ j : Nat, j ≤ n ∧ iv = .int .i64 j ∧ Below w.heap.size w wx) (fun _ iv _ => n - (intOf iv).toNat)
      case atStart => exact ⟨0, by omega, rfl, HB.out⟩
      case round =>
        obtain ⟨j, hj, rfl, hB⟩ := hrel
        have HX := Lib.hid hB
        clear hB
        by_cases hjl : j < n
        · have p2 : (j : Int) < (n : Int) := by omega
          obtain ⟨b1, o1, c1, h1, hb1, hp1⟩ := Texts.open HT.out (by simp; omega)
          injection h1 with h2 h3 h4
          subst h2
          have d1 := (World.cell?_of_block (w := w) (HX.out.block b1 hb1)).trans (hp1 j (by simp; omega))
          rw [show (List.replicate n (mk k)).getD j [] = mk k from by rw [List.getD_eq_getElem?_getD, List.getElem?_replicate, if_pos hjl]; rfl] at d1
          have T1 := Lib.hid (mark_calls k wr (by omega))
          clear h3 h4 hb1 hp1
          generalize mk k = m at d1 T1
          go_wp2_with fail
          refine T1.out.mono ?_
          clear T1 d1
          rintro e w1 ⟨rfl, hb1⟩
          have B1 := Lib.hid (HX.out.trans (hb1.mono HX.out.size))
          clear hb1
          go_wp2_with fail
          go_roundw
          case rel => exact ⟨j + 1, by omega, by go_num, B1.out⟩
          case measure => simp [intOf]; omega
        · obtain rfl : j = n := by omega
          go_wp2_with fail
          go_roundw
          case rel => exact ⟨k + 1, by omega, by go_num, HX.out⟩
          case measure => simp [intOf]; omega
    · obtain rfl : k = ls.length := by omega
      go_wp2_with fail
      go_ret
      exact ⟨rfl, HB.out⟩
end Go.Proofs.YtlpcjiollnnmgabGreatDoor
