/-
  THE REFERENCE'S POOL: at, Add, Drop, IDs.
-/
import Derived.Test.YtlpcjiollnnmgabGreatDoorPoolW
import Derived.Test.YtlpcjiollnnmgabGreatDoorRefMk
import Derived.Test.YtlpcjiollnnmgabGreatDoorRdTx
import Derived.Laws.AppendOwnNone
set_option maxRecDepth 100000
namespace Go.Proofs.YtlpcjiollnnmgabGreatDoor
open Nums
open Go.RowKit
namespace Rp
/-- the cells of a receiver of the reference: nothing is under way -/
def mrc (t : Nat) (pv : Value) : List Value := [.pointer (some ⟨t, 0, none⟩), pv, .string (str []), .slice none 0 0, .slice none 0 0]
theorem own_get {w : World} {B n : Nat} {e : TypeId} {v : Value} {l : List (List UInt8)} (h : w.ownsRow B e 1 v n (wt l)) (hn : n = l.length) (h0 : 0 < n) :
    ∃ g cap, v = .slice (some ⟨g, 0, none⟩) n cap ∧ (g < w.heap.size ∧ B ≤ g ∧ n ≤ cap) ∧ ∀ j, j < l.length → w.cell? ⟨g, j, none⟩ = some (.string (str (l.getD j []))) := by
  obtain ⟨_, ⟨_, h0'⟩ | ⟨g, cap, cur, rfl, hb, hg, hnc, _, _, ht⟩⟩ := h
  · omega
  · refine ⟨g, cap, rfl, ⟨(Array.getElem?_eq_some_iff.1 hg).1, hb, hnc⟩, fun j hj => ?_⟩
    have e1 : w.cell? ⟨g, j, none⟩ = (wt l)[j]? := by
      rw [← ht, Nat.mul_one, List.getElem?_take_of_lt (by omega)]
      simp [World.cell?, hg]
    rw [e1, wt_get l j hj]
theorem src_sub {w : World} {g : Nat} {ds l : List (List UInt8)} (hc : ∀ j, j < ds.length → w.cell? ⟨g, j, none⟩ = some (.string (str (ds.getD j [])))) (o : Nat) (hl : ∀ j, j < l.length → o + j < ds.length ∧ l.getD j [] = ds.getD (o + j) []) :
    ∀ (j : Nat) (u : Value), (wt l)[j]? = some u → w.cell? (Addr.add ⟨g, o, none⟩ j) = some u := fun j u hu => by
  have hj : j < l.length := by have := (List.getElem?_eq_some_iff.1 hu).1; rwa [wt_length] at this
  obtain ⟨h1, h2⟩ := hl j hj
  rw [Addr.add_lit, hc _ h1, ← h2, ← wt_get l j hj]
  exact hu
theorem own_form {w : World} {B n : Nat} {e : TypeId} {v : Value} {l : List (List UInt8)} (h : w.ownsRow B e 1 v n (wt l)) (hn : n = l.length) :
    (v = .slice none 0 0 ∧ l = []) ∨ ∃ g cap, v = .slice (some ⟨g, 0, none⟩) n cap ∧ (g < w.heap.size ∧ B ≤ g ∧ n ≤ cap) ∧ ∀ j, j < l.length → w.cell? ⟨g, j, none⟩ = some (.string (str (l.getD j []))) := by
  obtain ⟨_, ⟨hv, h0'⟩ | ⟨g, cap, cur, rfl, hb, hg, hnc, _, _, ht⟩⟩ := h
  · exact .inl ⟨hv, List.length_eq_zero_iff.1 (by omega)⟩
  · refine .inr ⟨g, cap, rfl, ⟨(Array.getElem?_eq_some_iff.1 hg).1, hb, hnc⟩, fun j hj => ?_⟩
    have e1 : w.cell? ⟨g, j, none⟩ = (wt l)[j]? := by
      rw [← ht, Nat.mul_one, List.getElem?_take_of_lt (by omega)]
      simp [World.cell?, hg]
    rw [e1, wt_get l j hj]
/-- a cell of an older block is written -/
theorem own_set {w : World} {B n : Nat} {e : TypeId} {z : Nat} {v : Value} {xs : List Value} (h : w.ownsRow B e z v n xs) {q i : Nat} {u : Value} (hq : q < B) : (w.setCell ⟨q, i, none⟩ u).ownsRow B e z v n xs := by
  refine ⟨h.1, ?_⟩
  rcases h.2 with h | ⟨g, cap, cur, rfl, h1, h2, h3⟩
  · exact .inl h
  · exact .inr ⟨g, cap, cur, rfl, h1, by rw [Below.heap_setCell _ _ _ _ (by show g ≠ q; omega)]; exact h2, h3⟩
/-- how far: the first k have keys below -/
theorem at_skip (id : List UInt8) : ∀ (P : List (List UInt8)) (k : Nat), k ≤ P.length → (∀ j, j < k → Mk.twice (P.getD j []) < id) →
    Pl.at' Mk.twice id P = ((Pl.at' Mk.twice id (P.drop k)).1 + k, (Pl.at' Mk.twice id (P.drop k)).2)
  | _, 0, _, _ => rfl
  | [], k + 1, h, _ => by simp at h
  | x :: l, k + 1, h, hk => by
    have h0 : Mk.twice x < id := hk 0 (by omega)
    have ih := at_skip id l k (by simpa using h) (fun j hj => by have := hk (j + 1) (by omega); simpa using this)
    rw [Pl.at', if_pos h0, ih, List.drop_succ_cons]
    exact Prod.ext (by show _ + 1 = _; omega) rfl
theorem at_here (id : List UInt8) (P : List (List UInt8)) (k : Nat) (hk : k < P.length) (h : ∀ j, j < k → Mk.twice (P.getD j []) < id) (hn : ¬ Mk.twice (P.getD k []) < id) :
    Pl.at' Mk.twice id P = (k, Mk.twice (P.getD k []) == id) := by
  rw [at_skip id P k (by omega) h, List.drop_eq_getElem_cons hk]
  have e : P[k] = P.getD k [] := by rw [List.getD_eq_getElem?_getD, List.getElem?_eq_getElem hk]; rfl
  rw [e, Pl.at', if_neg hn]
  simp
theorem at_none (id : List UInt8) (P : List (List UInt8)) (h : ∀ j, j < P.length → Mk.twice (P.getD j []) < id) : Pl.at' Mk.twice id P = (P.length, false) := by
  rw [at_skip id P P.length (Nat.le_refl _) h, List.drop_length]
  simp [Pl.at']
end Rp
open Rp
set_option maxHeartbeats 2000000 in
theorem rat_calls (q t B : Nat) (pv : Value) (P : List Mp.B) (id : List UInt8) (w : World) (hT : TB w t) (hq : Row w q (mrc t pv)) (ho : w.ownsRow B 9 1 pv P.length (wt P)) (hs : ∀ x ∈ P, x.length ≤ 610) (h20 : P.length ≤ 20) :
    Calls Tryz.prog 100 #[.pointer (some ⟨q, 0, none⟩), .string (str id)] w fun e w' => e = .returned (.tuple #[.int .i64 ((Pl.at' Mk.twice id P).1 : Nat), .bool (Pl.at' Mk.twice id P).2]) ∧ Below w.heap.size w w' := by
  have HT := Lib.hid hT
  have HQ := Lib.hid hq
  have HO := Lib.hid ho
  have HS := Lib.hid hs
  have hql := hq.lt
  have hc1 := hq.cell 1
  rw [show (mrc t pv)[1]? = some pv from rfl] at hc1
  obtain ⟨pa, pc, rfl⟩ := own_lenN ho
  clear hT hq ho hs
  go_enter Tryz.func100, Tryz.ntmps100
  go_wp2_with fail
  clear hc1
  go_loopw [14] (fun iv wr => ∃ k : Nat, k ≤ P.length ∧ iv = .int .i64 k ∧ (∀ j, j < k → Mk.twice (P.getD j []) < id) ∧ Below w.heap.size w wr) (fun iv _ => P.length - (intOf iv).toNat)
  case atStart => exact ⟨0, by omega, rfl, fun j hj => by omega, Below.refl _ _⟩
  case round =>
    obtain ⟨k, hk, rfl, hlow, hB⟩ := hrel
    have HL := Lib.hid hlow
    have HB := Lib.hid hB
    clear hlow hB
    by_cases hlt : k < P.length
    · have p1 : (k : Int) < (P.length : Int) := by omega
      obtain ⟨g, cap, hv, hg, hcell⟩ := own_get HO.out rfl (by omega)
      cases hv
      have hc : wr.cell? ⟨g, k, none⟩ = some (.string (str (P.getD k []))) := (World.cell?_of_block (w := w) (HB.out.block g hg.1)).trans (hcell k hlt)
      have hx := HS.out (P.getD k []) (by rw [List.getD_eq_getElem?_getD, List.getElem?_eq_getElem hlt]; exact List.getElem_mem hlt)
      have hc0 := ((HQ.out.below HB.out hql).cell 0)
      rw [show (mrc t (.slice (some ⟨g, 0, none⟩) P.length pc))[0]? = some (.pointer (some ⟨t, 0, none⟩)) from rfl] at hc0
      have HH := Lib.hid (Rp.at_here id P k hlt HL.out)
      have HN : Hid (Mk.twice (P.getD k []) < id → ∀ j, j < k + 1 → Mk.twice (P.getD j []) < id) := Lib.hid fun h j hj => by
        by_cases e : j = k
        · rw [e]; exact h
        · exact HL.out j (by omega)
      generalize P.getD k [] = x at hc hx HH HN
      have T1 := Lib.hid (rtwice_calls t x wr (HT.out.below HB.out) (by omega))
      clear hcell hg
      go_wp2_with fail
      refine T1.out.mono ?_
      clear T1
      rintro e w1 ⟨rfl, hb1⟩
      have B1 := Lib.hid (HB.out.trans (hb1.mono HB.out.size))
      clear hb1
      by_cases hlx : Mk.twice x < id
      · have HN2 := Lib.hid (HN.out hlx)
        have hbl : Op.bytesLess (Mk.twice x) id = true := by rw [bytesLess_eq]; exact decide_eq_true hlx
        clear hlx
        go_wp2_with fail
        go_roundw
        case rel => exact ⟨k + 1, by omega, by go_num, HN2.out, B1.out⟩
        case measure => simp [intOf]; omega
      · have HH2 := Lib.hid (HH.out hlx)
        have hbl : Op.bytesLess (Mk.twice x) id = false := by rw [bytesLess_eq]; exact decide_eq_false hlx
        clear hlx
        go_wp2_with fail
        go_ret2
        exact ⟨by rw [HH2.out]; rfl, B1.out⟩
    · obtain rfl : k = P.length := by omega
      have HH := Lib.hid (Rp.at_none id P HL.out)
      have hc1 := ((HQ.out.below HB.out hql).cell 1)
      rw [show (mrc t (.slice pa P.length pc))[1]? = some (.slice pa P.length pc) from rfl] at hc1
      go_wp2_with fail
      go_ret2
      exact ⟨by rw [HH.out]; rfl, HB.out⟩
theorem refTx_err {l : List UInt8} : (∃ n, Wr.readTx l = .bad n ∧ Rf.done (Rf.tx (l, 0)).2 = n ∧ n ≠ 0) ∨ (Wr.readTx l = .ok l [] ∧ l.length ≤ 610 ∧ Rf.done (Rf.tx (l, 0)).2 = 0) := by
  have FD := Rf.fin_done (Rf.tx_ag l)
  cases hx : Wr.readTx l with
  | bad n =>
    have hn := readTx_pos hx
    rw [show Wr.fin (Wr.tx l) = .bad n from hx] at FD
    exact .inl ⟨n, rfl, FD.1, by omega⟩
  | ok t r =>
    obtain ⟨rfl, h610⟩ := Mp.readTx_whole hx
    have hr : r = [] := by
      have hx' : (Wr.tx t).bind (fun a r => if r = [] then .ok a r else .bad 5) = .ok t r := hx
      cases hb : Wr.tx t with
      | bad e => rw [hb] at hx'; cases hx'
      | ok u s =>
        rw [hb] at hx'
        have h2 : (if s = [] then (.ok u s : Wr.R (List UInt8)) else .bad 5) = .ok t r := hx'
        by_cases hs : s = []
        · rw [if_pos hs] at h2; cases h2; exact hs
        · rw [if_neg hs] at h2; cases h2
    rw [show Wr.fin (Wr.tx t) = .ok t r from hx] at FD
    rw [hr]
    exact .inr ⟨rfl, h610, FD.1⟩
/-- how the reference's pool stands behind a call -/
def RAfter (w w' : World) (q t : Nat) (pv : Value) (P P' : List Mp.B) : Prop :=
  ∃ pv', Row w' q (mrc t pv') ∧ But w.heap.size q w w' ∧ ((pv' = pv ∧ P' = P) ∨ w'.ownsRow w.heap.size 9 1 pv' P'.length (wt P'))
set_option maxHeartbeats 4000000 in
theorem radd_calls (q t B : Nat) (pv : Value) (P : List Mp.B) (l : List UInt8) (w : World) (hT : TB w t) (hq : Row w q (mrc t pv)) (ho : w.ownsRow B 9 1 pv P.length (wt P)) (hs : ∀ x ∈ P, x.length ≤ 610) (h20 : P.length ≤ 20) (hl : l.length ≤ 9223372036854775807) :
    Calls Tryz.prog 56 #[.pointer (some ⟨q, 0, none⟩), .string (str l)] w fun e w' => e = .returned (.int .i64 (Mp.addErr P (Wr.readTx l) : Int)) ∧ RAfter w w' q t pv P (Mp.addP P (Wr.readTx l)) := by
  have HT := Lib.hid hT
  have HQ := Lib.hid hq
  have HO := Lib.hid ho
  have HS := Lib.hid hs
  have hql := hq.lt
  have T1 := Lib.hid (refTx_calls l w hl)
  clear hT hq ho hs
  rcases refTx_err (l := l) with ⟨n, hx, hd, hn⟩ | ⟨hx, h610, hd⟩
  · have p1 : ¬ (n : Int) = 0 := by omega
    rw [hd] at T1
    have e1 : Mp.addErr P (Wr.readTx l) = n := by rw [hx]; rfl
    have e2 : Mp.addP P (Wr.readTx l) = P := by rw [hx]; rfl
    rw [e1, e2]
    clear hx hd e1 e2
    go_enter Tryz.func56, Tryz.ntmps56
    go_wp2_with fail
    refine T1.out.mono ?_
    clear T1
    rintro e w1 ⟨rfl, hb1⟩
    have B1 := Lib.hid hb1
    clear hb1
    go_wp2_with fail
    go_ret
    exact ⟨rfl, pv, HQ.out.below B1.out hql, But.of_below B1.out, .inl ⟨rfl, rfl⟩⟩
  · rw [hd] at T1
    obtain ⟨err, he⟩ : ∃ err, Mp.addErr P (Wr.readTx l) = err := ⟨_, rfl⟩
    obtain ⟨P', hP'⟩ : ∃ P', Mp.addP P (Wr.readTx l) = P' := ⟨_, rfl⟩
    rw [he, hP']
    rw [hx] at he hP'
    dsimp only [Mp.addErr, Mp.addP] at he hP'
    obtain ⟨d, hdd⟩ : ∃ d, Mk.twice l = d := ⟨_, rfl⟩
    rw [hdd] at he hP'
    have HP := Lib.hid hP'
    have HE := Lib.hid he
    have HD := Lib.hid hdd
    clear hx hd he hP' hdd
    go_enter Tryz.func56, Tryz.ntmps56
    go_wp2_with fail
    refine T1.out.mono ?_
    clear T1
    rintro e w1 ⟨rfl, hb1⟩
    have B1 := Lib.hid hb1
    clear hb1
    have hc0 := (HQ.out.below B1.out hql).cell 0
    rw [show (mrc t pv)[0]? = some (.pointer (some ⟨t, 0, none⟩)) from rfl] at hc0
    have T2 := Lib.hid (rtwice_calls t l w1 (HT.out.below B1.out) (by omega))
    rw [HD.out] at T2
    go_wp2_with fail
    refine T2.out.mono ?_
    clear T2 hc0
    rintro e w2 ⟨rfl, hb2⟩
    have B2 := Lib.hid (B1.out.trans (hb2.mono B1.out.size))
    clear hb2
    have T3 := Lib.hid (rat_calls q t B pv P d w2 (HT.out.below B2.out) (HQ.out.below B2.out hql) (ownN_below HO.out B2.out (Nat.le_refl _)) HS.out h20)
    have HAT := Lib.hid (Pl.at_le Mk.twice d P)
    obtain ⟨k, hk⟩ : ∃ k, (Pl.at' Mk.twice d P).1 = k := ⟨_, rfl⟩
    obtain ⟨ok, hok⟩ : ∃ b, (Pl.at' Mk.twice d P).2 = b := ⟨_, rfl⟩
    rw [hk] at HAT T3
    rw [hok] at T3 HP HE
    have HK := Lib.hid hk
    clear hk hok
    go_wp2_with fail
    refine T3.out.mono ?_
    clear T3
    rintro e w3 ⟨rfl, hb3⟩
    have B3 := Lib.hid (B2.out.trans (hb3.mono B2.out.size))
    clear hb3
    cases ok with
    | true =>
      go_wp2_with fail
      go_ret
      exact ⟨by rw [← HE.out]; rfl, pv, HQ.out.below B3.out hql, But.of_below B3.out, .inl ⟨rfl, by rw [← HP.out]; rfl⟩⟩
    | false =>
      have HQ3 := Lib.hid (HQ.out.below B3.out hql)
      have HO3 := Lib.hid (ownN_below HO.out B3.out (Nat.le_refl _))
      have hc1 := HQ3.out.cell 1
      rw [show (mrc t pv)[1]? = some pv from rfl] at hc1
      have hz3 := B3.out.size
      have hq3 : q < w3.heap.size := by omega
      have hkl := HAT.out
      obtain ⟨pa, pc, rfl⟩ := own_lenN HO.out
      by_cases h2 : P.length = 20
      · have p2 : (P.length : Int) = 20 := by omega
        go_wp2_with fail
        go_ret
        exact ⟨by rw [← HE.out]; simp [h2], _, HQ3.out, But.of_below B3.out, .inl ⟨rfl, by rw [← HP.out]; simp [h2]⟩⟩
      · have p2 : ¬ (P.length : Int) = 20 := by omega
        have HR : Hid (P' = P.take k ++ [l] ++ P.drop k) := Lib.hid (by rw [← HP.out]; simp [h2, Pl.ins, HD.out, HK.out])
        obtain ⟨i0, hi0, hz0, hz1, hz2⟩ := info_parts infoStr
        have HI := Lib.hid hi0
        clear hi0
        rcases Rp.own_form HO.out rfl with ⟨hv, hP0⟩ | ⟨g, cap, hv, hg, hcell⟩
        · injection hv with h3 h4 h5
          subst h3 h5 hP0
          obtain rfl : k = 0 := by simpa using hkl
          clear h4
          have ON := World.ownsRow_nil w3 w.heap.size 9 1
          go_upto_region 10 with (at_builtin; refine wpList_append_own_none rfl _ _ 28 rfl w.heap.size 9 i0 1 Tryz.underlying28 HI.out _ 0 [] rfl ON rfl ?_)
          have hwz : w.heap.size ≤ w3.heap.size := hz3
          go_upto_region 11 with (at_builtin; (refine wpList_append_own _ rfl _ _ 28 rfl w.heap.size 9 i0 (.string ByteArray.empty) 1 16 Tryz.underlying28 HI.out hz0 hz1 hz2 rfl (by decide) _ 0 [] rfl (ON.alloc _) ⟨w3.heap.size, 0, none⟩ 1 1 [.string (str l)] rfl rfl (cell_one_new _ _ _) (wt_one [l]) (by unfold maxLen; omega) (by omega) (by rw [World.size_alloc]; omega) ?_); intro v4 w4 hown4 hgr4 _; have H1 := Lib.hid hown4; have H2 := Lib.hid hgr4; clear hown4 hgr4)
          have B4 := Lib.hid ((B3.out.alloc hz3 _).grown H2.out (by rw [World.size_alloc]; omega) (fun k hk => by cases hk))
          have HQ4 := Lib.hid (HQ.out.below B4.out hql)
          have hc4 : w4.cell? ⟨q, 1, none⟩ = some (.slice none 0 0) := HQ4.out.cell 1
          have hf4 := HQ4.out.free 1
          have hown4 := H1.out
          rw [Nat.zero_add, List.nil_append] at hown4
          obtain ⟨va, vc, rfl⟩ := own_lenN hown4
          have H3 := Lib.hid hown4
          clear H1 H2 ON hc1 hown4
          go_wp2_with (at_builtin; refine wpList_append_own_none rfl _ _ 28 rfl w.heap.size 9 i0 1 Tryz.underlying28 HI.out _ _ _ rfl H3.out rfl ?_)
          go_ret
          refine ⟨by rw [← HE.out]; rfl, .slice va 1 vc, HQ4.out.set 1 _, (But.of_below B4.out).setOwn 1 _, .inr ?_⟩
          rw [HR.out]
          exact own_set H3.out (by omega)
        · injection hv with h3 h4 h5
          subst h3 h5
          have hct : (P.take k).length = k := by rw [List.length_take]; omega
          have hcd : (P.drop k).length = P.length - k := by rw [List.length_drop]
          have hgc := hg.2.2
          have SA := Lib.hid (Rp.src_sub (w := w3) (l := P.take k) (fun j hj => (World.cell?_of_block (w := w) (B3.out.block g hg.1)).trans (hcell j hj)) 0 (fun j hj => ⟨by omega, by rw [Nat.zero_add, List.getD_eq_getElem?_getD, List.getD_eq_getElem?_getD, List.getElem?_take_of_lt (by omega)]⟩))
          have ON := World.ownsRow_nil w3 w.heap.size 9 1
          go_upto_region 10 with (at_builtin; (refine wpList_append_own _ rfl _ _ 28 rfl w.heap.size 9 i0 (.string ByteArray.empty) 1 16 Tryz.underlying28 HI.out hz0 hz1 hz2 rfl (by decide) _ 0 [] rfl ON ⟨g, 0, none⟩ k pc (wt (P.take k)) rfl (by rw [wt_length, hct]; omega) SA.out (wt_one _) (by unfold maxLen; omega) (by omega) hz3 ?_); intro v4 w4 hown4 hgr4 _; have H1 := Lib.hid hown4; have H2 := Lib.hid hgr4; clear hown4 hgr4)
          have hown4 := H1.out
          rw [Nat.zero_add, List.nil_append] at hown4
          have H3 := Lib.hid hown4
          have B4 := Lib.hid (B3.out.grown H2.out hz3 (fun k hk => by cases hk))
          have hz4 := B4.out.size
          clear H1 H2 ON hc1 hown4 SA
          go_upto_region 11 with (at_builtin; (refine wpList_append_own _ rfl _ _ 28 rfl w.heap.size 9 i0 (.string ByteArray.empty) 1 16 Tryz.underlying28 HI.out hz0 hz1 hz2 rfl (by decide) _ _ _ rfl (H3.out.alloc _) ⟨w4.heap.size, 0, none⟩ 1 1 [.string (str l)] rfl rfl (cell_one_new _ _ _) (wt_one [l]) (by unfold maxLen; omega) (by omega) (by rw [World.size_alloc]; omega) ?_); intro v5 w5 hown5 hgr5 _; have H1 := Lib.hid hown5; have H2 := Lib.hid hgr5; clear hown5 hgr5)
          have B5 := Lib.hid ((B4.out.alloc hz4 _).grown H2.out (by rw [World.size_alloc]; omega) (fun k hk => (H3.out.lt k hk).1))
          have hz5 := B5.out.size
          have HQ5 := Lib.hid (HQ.out.below B5.out hql)
          have hc5 : w5.cell? ⟨q, 1, none⟩ = some (.slice (some ⟨g, 0, none⟩) P.length pc) := HQ5.out.cell 1
          have hf5 := HQ5.out.free 1
          have hcell5 : ∀ j, j < P.length → w5.cell? ⟨g, j, none⟩ = some (.string (str (P.getD j []))) := fun j hj => (World.cell?_of_block (w := w) (B5.out.block g hg.1)).trans (hcell j hj)
          have SB := Lib.hid (Rp.src_sub (w := w5) (l := P.drop k) hcell5 k (fun j hj => ⟨by omega, by rw [List.getD_eq_getElem?_getD, List.getD_eq_getElem?_getD, List.getElem?_drop]⟩))
          have S0 := Lib.hid (fun (hk : P.length - k = 0) => Rp.src_sub (w := w5) (l := P.drop k) hcell5 0 (fun j hj => by omega))
          have H5 := Lib.hid H1.out
          clear H1 H2 hcell5 hcell H3
          by_cases hcap : pc = k
          · obtain rfl : k = P.length := by omega
            subst hcap
            go_wp2_with (at_builtin; (refine wpList_append_own _ rfl _ _ 28 rfl w.heap.size 9 i0 (.string ByteArray.empty) 1 16 Tryz.underlying28 HI.out hz0 hz1 hz2 rfl (by decide) _ _ _ rfl H5.out ⟨g, 0, none⟩ 0 0 [] rfl rfl (fun j u hu => by simp at hu) (fun u hu => by cases hu) (by unfold maxLen; omega) (by omega) hz5 ?_); intro v6 w6 hown6 hgr6 _; obtain ⟨va, vc, rfl⟩ := own_lenN hown6; have B6 := Lib.hid (B5.out.grown hgr6 hz5 (fun k hk => (H5.out.lt k hk).1)); have H6 := Lib.hid hown6; have HQ6 := Lib.hid (HQ.out.below B6.out hql); have hc6 := HQ6.out.cell 1; have hf6 := HQ6.out.free 1; rw [show (mrc t (.slice (some ⟨g, 0, none⟩) P.length P.length))[1]? = some (.slice (some ⟨g, 0, none⟩) P.length P.length) from rfl] at hc6; clear hown6 hgr6)
            go_ret
            refine ⟨by rw [← HE.out]; simp [h2], _, HQ6.out.set 1 _, (But.of_below B6.out).setOwn 1 _, .inr ?_⟩
            rw [HR.out]
            have := own_set (q := q) (i := 1) (u := .slice va (P.length + 1 + 0) vc) H6.out (by omega)
            rw [show (P.take P.length ++ [l] ++ P.drop P.length).length = P.length + 1 + 0 from by simp, show wt (P.take P.length ++ [l] ++ P.drop P.length) = wt (P.take P.length) ++ [.string (str l)] ++ [] from by simp [wt]]
            exact this
          · have hcap2 : ¬ (pc : Int) = (k : Int) := by omega
            go_wp2_with (at_builtin; (refine wpList_append_own _ rfl _ _ 28 rfl w.heap.size 9 i0 (.string ByteArray.empty) 1 16 Tryz.underlying28 HI.out hz0 hz1 hz2 rfl (by decide) _ _ _ rfl H5.out ⟨g, k, none⟩ (P.length - k) (pc - k) (wt (P.drop k)) rfl (by rw [wt_length, hcd]; omega) SB.out (wt_one _) (by unfold maxLen; omega) (by omega) hz5 ?_); intro v6 w6 hown6 hgr6 _; obtain ⟨va, vc, rfl⟩ := own_lenN hown6; have B6 := Lib.hid (B5.out.grown hgr6 hz5 (fun k hk => (H5.out.lt k hk).1)); have H6 := Lib.hid hown6; have HQ6 := Lib.hid (HQ.out.below B6.out hql); have hc6 := HQ6.out.cell 1; have hf6 := HQ6.out.free 1; rw [show (mrc t (.slice (some ⟨g, 0, none⟩) P.length pc))[1]? = some (.slice (some ⟨g, 0, none⟩) P.length pc) from rfl] at hc6; clear hown6 hgr6)
            go_ret
            refine ⟨by rw [← HE.out]; simp [h2], _, HQ6.out.set 1 _, (But.of_below B6.out).setOwn 1 _, .inr ?_⟩
            rw [HR.out]
            have := own_set (q := q) (i := 1) (u := .slice va (k + 1 + (P.length - k)) vc) H6.out (by omega)
            rw [show (P.take k ++ [l] ++ P.drop k).length = k + 1 + (P.length - k) from by rw [List.length_append, List.length_append, hct, hcd]; rfl, show wt (P.take k ++ [l] ++ P.drop k) = wt (P.take k) ++ [.string (str l)] ++ wt (P.drop k) from by simp [wt]]
            exact this
set_option maxHeartbeats 4000000 in
theorem rdrop_calls (q t B : Nat) (pv : Value) (P : List Mp.B) (id : List UInt8) (w : World) (hT : TB w t) (hq : Row w q (mrc t pv)) (ho : w.ownsRow B 9 1 pv P.length (wt P)) (hs : ∀ x ∈ P, x.length ≤ 610) (h20 : P.length ≤ 20) :
    Calls Tryz.prog 58 #[.pointer (some ⟨q, 0, none⟩), .string (str id)] w fun e w' => e = .returned (.bool (Pl.at' Mk.twice id P).2) ∧ RAfter w w' q t pv P (Pl.del Mk.twice id P) := by
  have HT := Lib.hid hT
  have HQ := Lib.hid hq
  have HO := Lib.hid ho
  have hql := hq.lt
  have T3 := Lib.hid (rat_calls q t B pv P id w hT hq ho hs h20)
  have HAT := Lib.hid (Pl.at_le Mk.twice id P)
  have HLT := Lib.hid (Pl.at_lt Mk.twice id P)
  obtain ⟨P', hP'⟩ : ∃ P', Pl.del Mk.twice id P = P' := ⟨_, rfl⟩
  rw [hP']
  unfold Pl.del at hP'
  obtain ⟨k, hk⟩ : ∃ k, (Pl.at' Mk.twice id P).1 = k := ⟨_, rfl⟩
  obtain ⟨ok, hok⟩ : ∃ b, (Pl.at' Mk.twice id P).2 = b := ⟨_, rfl⟩
  rw [hk] at HAT HLT T3 hP'
  rw [hok] at T3 HLT hP' ⊢
  have HP := Lib.hid hP'
  clear hT hq ho hs hk hok hP'
  cases ok with
  | false =>
    go_enter Tryz.func58, Tryz.ntmps58
    go_wp2_with fail
    refine T3.out.mono ?_
    clear T3
    rintro e w3 ⟨rfl, hb3⟩
    have B3 := Lib.hid hb3
    clear hb3
    go_wp2_with fail
    go_ret
    exact ⟨rfl, pv, HQ.out.below B3.out hql, But.of_below B3.out, .inl ⟨rfl, by rw [← HP.out]; rfl⟩⟩
  | true =>
    have hkl := HLT.out rfl
    have HR : Hid (P' = P.take k ++ P.drop (k + 1)) := Lib.hid (by rw [← HP.out]; rfl)
    go_enter Tryz.func58, Tryz.ntmps58
    go_wp2_with fail
    refine T3.out.mono ?_
    clear T3
    rintro e w3 ⟨rfl, hb3⟩
    have B3 := Lib.hid hb3
    clear hb3
    have HQ3 := Lib.hid (HQ.out.below B3.out hql)
    have hz3 := B3.out.size
    have hq3 : q < w3.heap.size := by omega
    obtain ⟨i0, hi0, hz0, hz1, hz2⟩ := info_parts infoStr
    have HI := Lib.hid hi0
    clear hi0
    obtain ⟨g, pc, rfl, hg, hcell⟩ := Rp.own_get HO.out rfl (by omega)
    have hc1 := HQ3.out.cell 1
    rw [show (mrc t (.slice (some ⟨g, 0, none⟩) P.length pc))[1]? = some (.slice (some ⟨g, 0, none⟩) P.length pc) from rfl] at hc1
    have hct : (P.take k).length = k := by rw [List.length_take]; omega
    have hcd : (P.drop (k + 1)).length = P.length - (k + 1) := by rw [List.length_drop]
    have hgc := hg.2.2
    have SA := Lib.hid (Rp.src_sub (w := w3) (l := P.take k) (fun j hj => (World.cell?_of_block (w := w) (B3.out.block g hg.1)).trans (hcell j hj)) 0 (fun j hj => ⟨by omega, by rw [Nat.zero_add, List.getD_eq_getElem?_getD, List.getD_eq_getElem?_getD, List.getElem?_take_of_lt (by omega)]⟩))
    have ON := World.ownsRow_nil w3 w.heap.size 9 1
    go_upto_region 4 with (at_builtin; (refine wpList_append_own _ rfl _ _ 28 rfl w.heap.size 9 i0 (.string ByteArray.empty) 1 16 Tryz.underlying28 HI.out hz0 hz1 hz2 rfl (by decide) _ 0 [] rfl ON ⟨g, 0, none⟩ k pc (wt (P.take k)) rfl (by rw [wt_length, hct]; omega) SA.out (wt_one _) (by unfold maxLen; omega) (by omega) hz3 ?_); intro v4 w4 hown4 hgr4 _; have H1 := Lib.hid hown4; have H2 := Lib.hid hgr4; clear hown4 hgr4)
    have hown4 := H1.out
    rw [Nat.zero_add, List.nil_append] at hown4
    have H3 := Lib.hid hown4
    have B4 := Lib.hid (B3.out.grown H2.out hz3 (fun k hk => by cases hk))
    have hz4 := B4.out.size
    have HQ4 := Lib.hid (HQ.out.below B4.out hql)
    have hc4 := HQ4.out.cell 1
    rw [show (mrc t (.slice (some ⟨g, 0, none⟩) P.length pc))[1]? = some (.slice (some ⟨g, 0, none⟩) P.length pc) from rfl] at hc4
    have hcell4 : ∀ j, j < P.length → w4.cell? ⟨g, j, none⟩ = some (.string (str (P.getD j []))) := fun j hj => (World.cell?_of_block (w := w) (B4.out.block g hg.1)).trans (hcell j hj)
    have SB := Lib.hid (Rp.src_sub (w := w4) (l := P.drop (k + 1)) hcell4 (k + 1) (fun j hj => ⟨by omega, by rw [List.getD_eq_getElem?_getD, List.getD_eq_getElem?_getD, List.getElem?_drop]⟩))
    clear H1 H2 ON hc1 hown4 SA hcell hcell4
    by_cases hcap : pc = k + 1
    · have hPk : P.length = k + 1 := by omega
      subst hcap
      rw [hPk] at hc4
      have HPK := Lib.hid hPk
      clear hPk
      go_wp2_with (at_builtin; (refine wpList_append_own _ rfl _ _ 28 rfl w.heap.size 9 i0 (.string ByteArray.empty) 1 16 Tryz.underlying28 HI.out hz0 hz1 hz2 rfl (by decide) _ _ _ rfl H3.out ⟨g, 0, none⟩ 0 0 [] rfl rfl (fun j u hu => by simp at hu) (fun u hu => by cases hu) (by unfold maxLen; omega) (by omega) hz4 ?_); intro v6 w6 hown6 hgr6 _; obtain ⟨va, vc, rfl⟩ := own_lenN hown6; have B6 := Lib.hid (B4.out.grown hgr6 hz4 (fun k hk => (H3.out.lt k hk).1)); have H6 := Lib.hid hown6; have HQ6 := Lib.hid (HQ.out.below B6.out hql); have hc6 := HQ6.out.cell 1; have hf6 := HQ6.out.free 1; rw [show (mrc t (.slice (some ⟨g, 0, none⟩) P.length (k + 1)))[1]? = some (.slice (some ⟨g, 0, none⟩) P.length (k + 1)) from rfl] at hc6; clear hown6 hgr6)
      go_ret
      refine ⟨rfl, _, HQ6.out.set 1 _, (But.of_below B6.out).setOwn 1 _, .inr ?_⟩
      rw [HR.out]
      have := own_set (q := q) (i := 1) (u := .slice va (k + 0) vc) H6.out (by omega)
      have hd0 : P.drop (k + 1) = [] := List.drop_eq_nil_of_le (by rw [HPK.out]; omega)
      have e1 : (P.take k ++ ([] : List Mp.B)).length = k + 0 := by rw [List.length_append, hct]; rfl
      have e2 : wt (P.take k ++ ([] : List Mp.B)) = wt (P.take k) ++ [] := by simp [wt]
      rw [hd0, e1, e2]
      exact this
    · have hcap2 : ¬ (pc : Int) = (k : Int) + 1 := by omega
      go_wp2_with (at_builtin; (refine wpList_append_own _ rfl _ _ 28 rfl w.heap.size 9 i0 (.string ByteArray.empty) 1 16 Tryz.underlying28 HI.out hz0 hz1 hz2 rfl (by decide) _ _ _ rfl H3.out ⟨g, k + 1, none⟩ (P.length - (k + 1)) (pc - (k + 1)) (wt (P.drop (k + 1))) rfl (by rw [wt_length, hcd]; omega) SB.out (wt_one _) (by unfold maxLen; omega) (by omega) hz4 ?_); intro v6 w6 hown6 hgr6 _; obtain ⟨va, vc, rfl⟩ := own_lenN hown6; have B6 := Lib.hid (B4.out.grown hgr6 hz4 (fun k hk => (H3.out.lt k hk).1)); have H6 := Lib.hid hown6; have HQ6 := Lib.hid (HQ.out.below B6.out hql); have hc6 := HQ6.out.cell 1; have hf6 := HQ6.out.free 1; rw [show (mrc t (.slice (some ⟨g, 0, none⟩) P.length pc))[1]? = some (.slice (some ⟨g, 0, none⟩) P.length pc) from rfl] at hc6; clear hown6 hgr6)
      go_ret
      refine ⟨rfl, _, HQ6.out.set 1 _, (But.of_below B6.out).setOwn 1 _, .inr ?_⟩
      rw [HR.out]
      have := own_set (q := q) (i := 1) (u := .slice va (k + (P.length - (k + 1))) vc) H6.out (by omega)
      rw [show (P.take k ++ P.drop (k + 1)).length = k + (P.length - (k + 1)) from by rw [List.length_append, hct, hcd], show wt (P.take k ++ P.drop (k + 1)) = wt (P.take k) ++ wt (P.drop (k + 1)) from by simp [wt]]
      exact this
set_option maxHeartbeats 4000000 in
theorem rids_calls (q t B : Nat) (pv : Value) (P : List Mp.B) (w : World) (hT : TB w t) (hq : Row w q (mrc t pv)) (ho : w.ownsRow B 9 1 pv P.length (wt P)) (hs : ∀ x ∈ P, x.length ≤ 610) (h20 : P.length ≤ 20) :
    Calls Tryz.prog 61 #[.pointer (some ⟨q, 0, none⟩)] w fun e w' => ∃ v, e = .returned v ∧ w'.ownsRow w.heap.size 9 1 v P.length (wt (P.map Mk.twice)) ∧ Below w.heap.size w w' := by
  obtain ⟨i0, hi0, hz0, hz1, hz2⟩ := info_parts infoStr
  have HI := Lib.hid hi0
  have HT := Lib.hid hT
  have HQ := Lib.hid hq
  have HO := Lib.hid ho
  have HS := Lib.hid hs
  have hql := hq.lt
  have hc1 := hq.cell 1
  rw [show (mrc t pv)[1]? = some pv from rfl] at hc1
  obtain ⟨pa, pc, rfl⟩ := own_lenN ho
  clear hT hq ho hs hi0
  go_enter Tryz.func61, Tryz.ntmps61
  go_wp2_with fail
  clear hc1
  go_loopw [3, 11] (fun ov iv wr => ∃ k : Nat, k ≤ P.length ∧ iv = .int .i64 k ∧ wr.ownsRow w.heap.size 9 1 ov k (wt ((P.take k).map Mk.twice)) ∧ Below w.heap.size w wr) (fun _ iv _ => P.length - (intOf iv).toNat)
  case atStart => exact ⟨0, by omega, rfl, World.ownsRow_nil _ _ _ _, Below.refl _ _⟩
  case round =>
    obtain ⟨k, hk, rfl, hown, hB⟩ := hrel
    have HW := Lib.hid hown
    have HB := Lib.hid hB
    have hzr := hB.size
    clear hown hB
    by_cases hlt : k < P.length
    · have p1 : (k : Int) < (P.length : Int) := by omega
      obtain ⟨g, cap, hv, hg, hcell⟩ := Rp.own_get HO.out rfl (by omega)
      cases hv
      have hc : wr.cell? ⟨g, k, none⟩ = some (.string (str (P.getD k []))) := (World.cell?_of_block (w := w) (HB.out.block g hg.1)).trans (hcell k hlt)
      have hx := HS.out (P.getD k []) (by rw [List.getD_eq_getElem?_getD, List.getElem?_eq_getElem hlt]; exact List.getElem_mem hlt)
      have hc0 := ((HQ.out.below HB.out hql).cell 0)
      rw [show (mrc t (.slice (some ⟨g, 0, none⟩) P.length pc))[0]? = some (.pointer (some ⟨t, 0, none⟩)) from rfl] at hc0
      have HX : Hid ((P.take (k + 1)).map Mk.twice = (P.take k).map Mk.twice ++ [Mk.twice (P.getD k [])]) := Lib.hid (by
        rw [List.take_succ_eq_append_getElem hlt, List.map_append, List.getD_eq_getElem?_getD, List.getElem?_eq_getElem hlt]; rfl)
      generalize P.getD k [] = x at hc hx HX
      have T1 := Lib.hid (rtwice_calls t x wr (HT.out.below HB.out) (by omega))
      clear hcell hg
      obtain ⟨va, vc, rfl⟩ := own_lenN HW.out
      go_wp2_with fail
      refine T1.out.mono ?_
      clear T1
      rintro e w1 ⟨rfl, hb1⟩
      have B1 := Lib.hid (HB.out.trans (hb1.mono hzr))
      have W1 := Lib.hid (ownN_below HW.out hb1 (Nat.le_refl _))
      have hz1' := hb1.size
      clear hb1 HW
      go_wp2_with (at_builtin; (refine wpList_append_own _ rfl _ _ 28 rfl w.heap.size 9 i0 (.string ByteArray.empty) 1 16 Tryz.underlying28 HI.out hz0 hz1 hz2 rfl (by decide) _ _ _ rfl (W1.out.alloc _) ⟨w1.heap.size, 0, none⟩ 1 1 [.string (str (Mk.twice x))] rfl rfl (cell_one_new _ _ _) (wt_one [Mk.twice x]) (by unfold maxLen; omega) (by omega) (by rw [World.size_alloc]; omega) ?_); intro v4 w4 hown4 hgr4 _; have H1 := Lib.hid hown4; have H2 := Lib.hid hgr4; clear hown4 hgr4)
      have B4 := Lib.hid ((B1.out.alloc B1.out.size _).grown H2.out (by rw [World.size_alloc]; omega) (fun k hk => (W1.out.lt k hk).1))
      clear H2
      go_roundw
      case rel => exact ⟨k + 1, by omega, by go_num, by rw [HX.out, ← wt_snoc]; exact H1.out, B4.out⟩
      case measure => simp [intOf]; omega
    · obtain rfl : k = P.length := by omega
      have H1 := HW.out
      rw [List.take_length] at H1
      have H2 := Lib.hid H1
      clear H1
      go_wp2_with fail
      go_ret
      exact ⟨_, rfl, H2.out, HB.out⟩
end Go.Proofs.YtlpcjiollnnmgabGreatDoor
