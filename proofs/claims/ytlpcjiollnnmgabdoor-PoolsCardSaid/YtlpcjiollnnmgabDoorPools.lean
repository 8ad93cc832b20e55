/-
  PROVED: the tied card of compactkeep.Pools: transactions that come and go; those that are there are told, each once, rising. Conditions: the two tables as the program's text lays them.
-/
import Derived.Test.YtlpcjiollnnmgabDoorIDs
import Derived.Test.YtlpcjiollnnmgabDoorTxLaw
import Derived.Test.YtlpcjiollnnmgabDoorIntsArg
import Derived.Deep.CutRange
import Derived.Deep.CutBlock
set_option maxRecDepth 100000
namespace Go.Proofs.YtlpcjiollnnmgabDoor.pools
open Nums
open Go.RowKit
/-- the digests told are those of the pool -/
structure Same (ds : List (List UInt8)) (P : List Mp.B) : Prop where
  perm : ds.Perm (P.map Mk.twice)
  all : All32 ds
theorem Same.has {ds : List (List UInt8)} {P : List Mp.B} (h : Same ds P) (hup : Pl.Up Mk.twice P) (d : List UInt8) : ds.contains d = (Pl.at' Mk.twice d P).2 := by
  rw [Bool.eq_iff_iff, List.contains_iff_mem, Pl.at_mem Mk.twice d P hup, h.perm.mem_iff, List.mem_map]
theorem own_get {w : World} {B n : Nat} {e : TypeId} {v : Value} {l : List (List UInt8)} (h : w.ownsRow B e 1 v n (wt l)) (hn : n = l.length) (h0 : 0 < n) :
    ∃ g cap, v = .slice (some ⟨g, 0, none⟩) n cap ∧ (g < w.heap.size ∧ B ≤ g ∧ n ≤ cap) ∧ ∀ j, j < l.length → w.cell? ⟨g, j, none⟩ = some (.string (str (l.getD j []))) := by
  obtain ⟨_, ⟨_, h0'⟩ | ⟨g, cap, cur, rfl, hb, hg, hnc, _, _, ht⟩⟩ := h
  · omega
  · refine ⟨g, cap, rfl, ⟨(Array.getElem?_eq_some_iff.1 hg).1, hb, hnc⟩, fun j hj => ?_⟩
    have e1 : w.cell? ⟨g, j, none⟩ = (wt l)[j]? := by
      rw [← ht, Nat.mul_one, List.getElem?_take_of_lt (by omega)]
      simp [World.cell?, hg]
    rw [e1, wt_get l j hj]
theorem has_take (ds : List (List UInt8)) (d : List UInt8) (j : Nat) (h : j < ds.length) : (ds.take (j + 1)).contains d = ((ds.take j).contains d || ds.getD j [] == d) := by
  have e : ds.take (j + 1) = ds.take j ++ [ds.getD j []] := by
    rw [List.take_succ_eq_append_getElem h, List.getD_eq_getElem?_getD, List.getElem?_eq_getElem h]; rfl
  rw [e]
  generalize ds.getD j [] = y
  generalize ds.take j = l
  rw [Bool.eq_iff_iff, Bool.or_eq_true, List.contains_iff_mem, List.contains_iff_mem, beq_iff_eq, List.mem_append, List.mem_singleton]
  exact or_congr_right eq_comm
theorem add_cases {P : List Mp.B} {t d : List UInt8} (hr : Wr.readTx t = .ok t []) (hd : Mk.twice t = d) : ∃ (err : Nat) (P' : List Mp.B), Mp.addErr P (Wr.readTx t) = err ∧ Mp.addP P (Wr.readTx t) = P' ∧
    (((Pl.at' Mk.twice d P).2 = true ∧ err = 10 ∧ P' = P) ∨ ((Pl.at' Mk.twice d P).2 = false ∧ P.length = 20 ∧ err = 9 ∧ P' = P) ∨ ((Pl.at' Mk.twice d P).2 = false ∧ ¬ P.length = 20 ∧ err = 0 ∧ P' = Pl.ins Mk.twice t P)) := by
  refine ⟨_, _, rfl, rfl, ?_⟩
  rw [hr, ← hd]
  unfold Mp.addErr Mp.addP
  dsimp only
  cases hh : (Pl.at' Mk.twice (Mk.twice t) P).2
  · by_cases h20 : P.length = 20
    · exact .inr (.inl ⟨rfl, h20, by simp [h20], by simp [h20]⟩)
    · exact .inr (.inr ⟨rfl, h20, by simp [h20], by simp [h20]⟩)
  · exact .inl ⟨rfl, by simp, by simp⟩
theorem Same.ins {ds : List (List UInt8)} {P : List Mp.B} {t d : List UInt8} (h : Same ds P) (hd : Mk.twice t = d) : Same (ds ++ [d]) (Pl.ins Mk.twice t P) := by
  refine ⟨?_, fun x hx => ?_⟩
  · have h1 : (Pl.ins Mk.twice t P).Perm (t :: P) := by
      unfold Pl.ins
      have h2 : (P.take (Pl.at' Mk.twice (Mk.twice t) P).1 ++ [t] ++ P.drop (Pl.at' Mk.twice (Mk.twice t) P).1).Perm (t :: (P.take (Pl.at' Mk.twice (Mk.twice t) P).1 ++ P.drop (Pl.at' Mk.twice (Mk.twice t) P).1)) := by
        rw [List.append_assoc]; exact List.perm_middle
      rwa [List.take_append_drop] at h2
    have h3 := h1.map Mk.twice
    rw [List.map_cons, hd] at h3
    exact ((List.perm_append_singleton d ds).trans (h.perm.cons d)).trans h3.symm
  · rcases List.mem_append.1 hx with hx | hx
    · exact h.all x hx
    · rw [List.mem_singleton.1 hx, ← hd]; exact twice32 t
theorem Same.len {ds : List (List UInt8)} {P : List Mp.B} (h : Same ds P) : ds.length = P.length := by simpa using h.perm.length_eq
theorem src_sub {w : World} {g : Nat} {ds l : List (List UInt8)} (hc : ∀ j, j < ds.length → w.cell? ⟨g, j, none⟩ = some (.string (str (ds.getD j [])))) (o : Nat) (hl : ∀ j, j < l.length → o + j < ds.length ∧ l.getD j [] = ds.getD (o + j) []) :
    ∀ (j : Nat) (u : Value), (wt l)[j]? = some u → w.cell? (Addr.add ⟨g, o, none⟩ j) = some u := fun j u hu => by
  have hj : j < l.length := by have := (List.getElem?_eq_some_iff.1 hu).1; rwa [wt_length] at this
  obtain ⟨h1, h2⟩ := hl j hj
  rw [Addr.add_lit, hc _ h1, ← h2, ← wt_get l j hj]
  exact hu
def cutOut (ds : List (List UInt8)) (i : Nat) : List (List UInt8) := ds.take i ++ ds.drop (i + 1)
theorem Same.out {ds : List (List UInt8)} {P : List Mp.B} (h : Same ds P) (hup : Pl.Up Mk.twice P) (i : Nat) (hi : i < ds.length) : Same (cutOut ds i) (Pl.del Mk.twice (ds.getD i []) P) := by
  have e1 : ds = ds.take i ++ ds.getD i [] :: ds.drop (i + 1) := by
    rw [List.getD_eq_getElem?_getD, List.getElem?_eq_getElem hi, Option.getD_some, ← List.drop_eq_getElem_cons hi, List.take_append_drop]
  have hmem : ds.getD i [] ∈ ds := by rw [List.getD_eq_getElem?_getD, List.getElem?_eq_getElem hi]; exact List.getElem_mem hi
  generalize ds.getD i [] = d at e1 hmem
  refine ⟨?_, fun x hx => h.all x ?_⟩
  · have h1 : ds.Perm (d :: cutOut ds i) := by
      have : (ds.take i ++ d :: ds.drop (i + 1)).Perm (d :: (ds.take i ++ ds.drop (i + 1))) := List.perm_middle
      rw [← e1] at this
      exact this
    have hnd : (P.map Mk.twice).Nodup := (Pl.keys_up Mk.twice P hup).imp fun {a b} hab e => by rw [e] at hab; exact Pl.lt_irr _ hab
    have h2 : d ∈ P.map Mk.twice := h.perm.mem_iff.1 hmem
    have h3 : (P.map Mk.twice).Perm (d :: (Pl.del Mk.twice d P).map Mk.twice) := by
      have e2 : (Pl.del Mk.twice d P).map Mk.twice = (P.map Mk.twice).erase d := by
        rw [← Mp.filter_del d P hup, hnd.erase_eq_filter, List.filter_map]
        congr 1
      rw [e2]
      exact List.perm_cons_erase h2
    exact (h1.symm.trans (h.perm.trans h3)).cons_inv
  · rcases List.mem_append.1 hx with hx | hx
    · exact List.mem_of_mem_take hx
    · exact List.mem_of_mem_drop hx
theorem Same.there {ds : List (List UInt8)} {P : List Mp.B} (h : Same ds P) (hup : Pl.Up Mk.twice P) (i : Nat) (hi : i < ds.length) : Mp.dropB P (ds.getD i []) = true ∧ Mp.dropP P (ds.getD i []) = Pl.del Mk.twice (ds.getD i []) P ∧
    Mp.dropB (Pl.del Mk.twice (ds.getD i []) P) (ds.getD i []) = false ∧ Mp.dropP (Pl.del Mk.twice (ds.getD i []) P) (ds.getD i []) = Pl.del Mk.twice (ds.getD i []) P := by
  have hmem : ds.getD i [] ∈ ds := by rw [List.getD_eq_getElem?_getD, List.getElem?_eq_getElem hi]; exact List.getElem_mem hi
  generalize ds.getD i [] = d at hmem
  have hl := h.all d hmem
  have h2 : d ∈ P.map Mk.twice := h.perm.mem_iff.1 hmem
  have h3 : (Pl.at' Mk.twice d P).2 = true := (Pl.at_mem Mk.twice d P hup).2 (by obtain ⟨t, ht, e⟩ := List.mem_map.1 h2; exact ⟨t, ht, e⟩)
  have hup2 := Pl.del_up Mk.twice d P hup
  have h4 : (Pl.at' Mk.twice d (Pl.del Mk.twice d P)).2 = false := by
    cases hh : (Pl.at' Mk.twice d (Pl.del Mk.twice d P)).2
    · rfl
    · obtain ⟨t, ht, e⟩ := (Pl.at_mem Mk.twice d _ hup2).1 hh
      exact absurd e ((Pl.mem_del Mk.twice d P hup t).1 ht).2
  refine ⟨by unfold Mp.dropB; rw [hl, h3]; rfl, if_pos hl, by unfold Mp.dropB; rw [hl, h4]; rfl, ?_⟩
  unfold Mp.dropP
  rw [if_pos hl]
  show (if (Pl.at' Mk.twice d (Pl.del Mk.twice d P)).2 then _ else _) = _
  rw [h4]; rfl
/-- how it stands between two steps -/
structure PoolSt (w w1 wr : World) (r m : Nat) (ov : Value) (ds : List (List UInt8)) (P : List Mp.B) : Prop where
  row : Row wr r (Mp.rcv m)
  map : Mp.Map wr m P
  own : wr.ownsRow w1.heap.size 9 1 ov ds.length (wt ds)
  same : Same ds P
  bel : Below w.heap.size w wr
  sz : w1.heap.size ≤ wr.heap.size
theorem own_but {w w' : World} {B S n : Nat} {e : TypeId} {z : Nat} {v : Value} {xs : List Value} (h : w.ownsRow B e z v n xs) (hb : But w.heap.size S w w') (hS : S < B) : w'.ownsRow B e z v n xs := by
  refine ⟨h.1, ?_⟩
  rcases h.2 with h | ⟨g, cap, cur, rfl, h1, h2, h3⟩
  · exact .inl h
  · exact .inr ⟨g, cap, cur, rfl, h1, by rw [hb.block g (Array.getElem?_eq_some_iff.1 h2).1 (by omega)]; exact h2, h3⟩
theorem PoolSt.below {w w1 wr w' : World} {r m : Nat} {ov : Value} {ds : List (List UInt8)} {P : List Mp.B} (h : PoolSt w w1 wr r m ov ds P) (hb : Below wr.heap.size wr w') : PoolSt w w1 w' r m ov ds P :=
  ⟨h.row.below hb h.row.lt, h.map.below hb h.map.lt, ownN_below h.own hb (Nat.le_refl _), h.same, h.bel.trans (hb.mono h.bel.size), Nat.le_trans h.sz hb.size⟩
theorem PoolSt.but {w w1 wr w' : World} {r m : Nat} {ov : Value} {ds : List (List UInt8)} {P : List Mp.B} (h : PoolSt w w1 wr r m ov ds P) (hb : But wr.heap.size m wr w') (hrm : r ≠ m) (hmw : w.heap.size ≤ m) (hm1 : m < w1.heap.size) :
    Row w' r (Mp.rcv m) ∧ w'.ownsRow w1.heap.size 9 1 ov ds.length (wt ds) ∧ Below w.heap.size w w' ∧ w1.heap.size ≤ w'.heap.size :=
  ⟨hb.row h.row h.row.lt hrm, own_but h.own hb hm1, h.bel.trans ((hb.mono h.bel.size).below hmw), Nat.le_trans h.sz hb.size⟩
set_option maxHeartbeats 8000000 in
theorem pools_calls (av bv : Value) (al bl : List Int) (w : World) (hT : Tabs w) (ha : IntsAt w av al) (hb : IntsAt w bv bl) (hra : ∀ j, j < al.length → -9223372036854775808 ≤ al.getD j 0 ∧ al.getD j 0 ≤ 9223372036854775807) (hrb : ∀ j, j < bl.length → -9223372036854775808 ≤ bl.getD j 0 ∧ bl.getD j 0 ≤ 9223372036854775807) :
    Calls Tryd.prog 3 #[av, bv] w fun e w' => e = .returned (.bool true) ∧ Below w.heap.size w w' := by
  have HT := Lib.hid hT
  have h1w := hT.lt
  obtain ⟨aa, ac, rfl⟩ := ha.form
  obtain ⟨ba, bc, rfl⟩ := hb.form
  have HA := Lib.hid ha
  have HBL := Lib.hid hb
  have HRA := Lib.hid hra
  have HRB := Lib.hid hrb
  clear hT ha hb hra hrb
  by_cases hbig : al.length > 200 ∨ bl.length > 200
  · by_cases h1 : al.length > 200
    · have p1 : (al.length : Int) > 200 := by omega
      go_enter Tryd.func3, Tryd.ntmps3
      go_wp2_with fail
      go_ret
      exact ⟨rfl, Below.refl _ _⟩
    · have p1 : ¬ (al.length : Int) > 200 := by omega
      have p2 : (bl.length : Int) > 200 := by omega
      go_enter Tryd.func3, Tryd.ntmps3
      go_wp2_with fail
      go_ret
      exact ⟨rfl, Below.refl _ _⟩
  · have p1 : ¬ (al.length : Int) > 200 := by omega
    have p2 : ¬ (bl.length : Int) > 200 := by omega
    have hal : al.length ≤ 200 := by omega
    have hbl : bl.length ≤ 200 := by omega
    obtain ⟨i0, hi0, hz0, hz1, hz2⟩ := info_parts infoStr
    have HI := Lib.hid hi0
    clear hbig hi0
    have T1 := Lib.hid (new_calls w)
    go_enter Tryd.func3, Tryd.ntmps3
    go_wp2_with fail
    refine T1.out.mono ?_
    clear T1
    rintro e w1 ⟨r, m, rfl, hr1, hm1, hrw, hmw, hrm, hb1⟩
    go_wp2_with fail
    have ST := Lib.hid (show PoolSt w w1 w1 r m (.slice none 0 0) [] [] from ⟨hr1, hm1, World.ownsRow_nil _ _ _ _, ⟨by simp, fun _ h => by cases h⟩, hb1, Nat.le_refl _⟩)
    have hrl := hr1.lt
    have hml := hm1.lt
    have HB1 := Lib.hid hb1
    clear hr1 hm1 hb1
    go_loopw [6, 36] (fun ov iv wr => ∃ (k : Nat) (ds : List (List UInt8)) (P : List Mp.B), k ≤ al.length ∧ iv = .int .i64 k ∧ ds.length ≤ k ∧ PoolSt w w1 wr r m ov ds P) (fun _ iv _ => al.length - (intOf iv).toNat)
    case atStart => exact ⟨0, [], [], by omega, rfl, by simp, ST.out⟩
    case round =>
      obtain ⟨k, ds, P, hk, rfl, hdk, hst⟩ := hrel
      clear ST
      have ST := Lib.hid hst
      clear hst
      by_cases hlt : k < al.length
      · have p3 : (k : Int) < (al.length : Int) := by omega
        obtain ⟨ab, ao, rfl, hab, hcs⟩ := HA.out.at (by omega)
        have hc : wr.cell? ⟨ab, ao + k, none⟩ = some (.int .i64 (al.getD k 0)) := by
          rw [← hcs k hlt]; exact World.cell?_of_block (w := w) (ST.out.bel.block ab hab)
        have hxr := HRA.out k hlt
        generalize al.getD k 0 = x at hc hxr
        have T2 := Lib.hid (fun v => txgen_calls x v (by omega))
        have RD := Lib.hid (Keeps.readTx_tx x)
        generalize Keeps.tx x = t at T2 RD
        have htl := Mp.readTx_short RD.out
        clear hcs hxr
        go_wp2_with fail
        refine (T2.out _).mono ?_
        clear T2
        rintro e w2 ⟨rfl, hb2⟩
        have S2 := Lib.hid (ST.out.below hb2)
        clear hb2 ST hc
        have T3 := Lib.hid (txid_calls t w2 (HT.out.below S2.out.bel h1w) (by omega))
        rw [RD.out] at T3
        dsimp only [txidV] at T3
        have h32 := twice32 t
        go_wp2_with fail
        refine T3.out.mono ?_
        clear T3
        rintro e w3 ⟨rfl, hb3⟩
        have S3 := Lib.hid (S2.out.below hb3)
        clear hb3 S2
        obtain ⟨d, hd⟩ : ∃ d, Mk.twice t = d := ⟨_, rfl⟩
        rw [hd] at h32 ⊢
        have HD := Lib.hid hd
        clear hd
        obtain ⟨oa, oc, rfl⟩ := own_lenN S3.out.own
        go_wp2_with fail
        go_loopw [12, 14, 52] (fun hv _ iv wx => ∃ j : Nat, j ≤ ds.length ∧ iv = .int .i64 j ∧ hv = .bool ((ds.take j).contains d) ∧ wx = w3) (fun _ _ iv _ => ds.length - (intOf iv).toNat)
        case atStart => exact ⟨0, by omega, rfl, by simp, rfl⟩
        case round =>
          obtain ⟨j, hj, rfl, rfl, rfl⟩ := hrel
          by_cases hjl : j < ds.length
          · have p4 : (j : Int) < (ds.length : Int) := by omega
            obtain ⟨g, cap', hv', _, hcell⟩ := own_get S3.out.own rfl (by omega)
            cases hv'
            have hc := hcell j hjl
            have E := Lib.hid (has_take ds d j hjl)
            generalize ds.getD j [] = y at hc E
            clear hcell
            cases hb : (ds.take j).contains d
            · rw [hb] at E
              cases hy : (y == d)
              · rw [hy] at E
                go_wp2_with fail
                go_roundw
                case rel => exact ⟨j + 1, by omega, by go_num, by rw [E.out]; rfl, by first | trivial | rfl⟩
                case measure => simp [intOf]; omega
              · rw [hy] at E
                go_wp2_with fail
                go_roundw
                case rel => exact ⟨j + 1, by omega, by go_num, by rw [E.out]; rfl, by first | trivial | rfl⟩
                case measure => simp [intOf]; omega
            · rw [hb] at E
              go_wp2_with fail
              go_roundw
              case rel => exact ⟨j + 1, by omega, by go_num, by rw [E.out]; rfl, by first | trivial | rfl⟩
              case measure => simp [intOf]; omega
          · obtain rfl : j = ds.length := by omega
            rw [List.take_of_length_le (Nat.le_refl _)]
            have hhas := S3.out.same.has S3.out.map.up d
            obtain ⟨has, hhs⟩ : ∃ b, ds.contains d = b := ⟨_, rfl⟩
            rw [hhs] at hhas ⊢
            have HH := Lib.hid hhas
            have HS := Lib.hid hhs
            clear hhas hhs
            have hr0 := S3.out.row.cell 0
            rw [show (Mp.rcv m)[0]? = some (.map (some m)) from rfl] at hr0
            obtain ⟨err, P', he1, he2, hcases⟩ := add_cases (P := P) RD.out HD.out
            have T4 := Lib.hid (add_calls t r m P wr (HT.out.below S3.out.bel h1w) (by omega) hr0 S3.out.map S3.out.row.lt hrm)
            rw [he1, he2] at T4
            rw [← HH.out] at hcases
            have HC := Lib.hid hcases
            clear he1 he2 hcases hr0
            go_upto_region 20 with fail
            go_upto_block 4 with fail
            refine T4.out.mono ?_
            clear T4
            rintro e w4 ⟨rfl, hM4, hb4⟩
            have S4 := Lib.hid (S3.out.but hb4 hrm hmw hml)
            have M4 := Lib.hid hM4
            clear hb4 hM4
            go_upto_block 4 with fail
            go_cut [6, 36] from 36 to 180 (fun ov iv wx => iv = .int .i64 k ∧ ∃ (ds' : List (List UInt8)), ds'.length ≤ k + 1 ∧ PoolSt w w1 wx r m ov ds' P')
            case first =>
              -- done
              have hlen := S3.out.same.len
              obtain ⟨R4, O4, B4, Z4⟩ := S4.out
              have RR4 := Lib.hid R4
              have OO4 := Lib.hid O4
              have BB4 := Lib.hid B4
              clear R4 O4 B4 S4
              rcases HC.out with ⟨hs, he, hp⟩ | ⟨hs, h20, he, hp⟩ | ⟨hs, h20, he, hp⟩
              · subst hs he hp
                have S5 := Lib.hid (show PoolSt w w1 w4 r m (.slice oa ds.length oc) ds P' from ⟨RR4.out, M4.out, OO4.out, S3.out.same, BB4.out, Z4⟩)
                clear S3 M4 RR4 OO4 BB4 hlen HC
                rw [show ((10 : Nat) : Int) = 10 from rfl]
                go_wp2_with fail
                go_meet
                case rel => exact ⟨rfl, ds, by omega, S5.out⟩
              · subst hs he hp
                have p5 : (ds.length : Int) = 20 := by omega
                have hn20 : ds.length = 20 := by omega
                have S5 := Lib.hid (show PoolSt w w1 w4 r m (.slice oa ds.length oc) ds P' from ⟨RR4.out, M4.out, OO4.out, S3.out.same, BB4.out, Z4⟩)
                clear S3 M4 RR4 OO4 BB4 hlen HC h20
                rw [show ((9 : Nat) : Int) = 9 from rfl]
                go_wp2_with fail
                go_meet
                case rel => exact ⟨rfl, ds, by omega, S5.out⟩
              · subst hs he
                have p5 : ¬ (ds.length : Int) = 20 := by omega
                rw [show ((0 : Nat) : Int) = 0 from rfl]
                go_wp2_with (at_builtin; refine wpList_append_own _ rfl _ _ 25 rfl w1.heap.size 9 i0 (.string ByteArray.empty) 1 16 Tryd.underlying25 HI.out hz0 hz1 hz2 rfl (by decide) _ _ _ rfl (OO4.out.alloc _) ⟨w4.heap.size, 0, none⟩ 1 1 [.string (str d)] rfl rfl (cell_one_new _ _ _) (wt_one [d]) (by unfold maxLen; omega) (by omega) (by rw [World.size_alloc]; omega) ?_; intro v5 w5 hown5 hgr5 _; have H1 := Lib.hid hown5; have H2 := Lib.hid hgr5; clear hown5 hgr5)
                have hb5 : Below w1.heap.size w4 w5 := ((Below.refl w1.heap.size w4).alloc Z4 _).grown H2.out (by rw [World.size_alloc]; omega) (fun q hq => (OO4.out.lt q hq).1)
                have S5 := Lib.hid (show PoolSt w w1 w5 r m v5 (ds ++ [d]) P' from ⟨RR4.out.below hb5 hrl, M4.out.below hb5 hml, by rw [List.length_append, ← wt_snoc]; exact H1.out, by rw [hp]; exact S3.out.same.ins HD.out, BB4.out.trans (hb5.mono HB1.out.size), Nat.le_trans Z4 hb5.size⟩)
                clear S3 M4 RR4 OO4 BB4 hlen HC H1 H2 hb5
                go_meet
                case rel => exact ⟨rfl, ds ++ [d], by simp; omega, S5.out⟩
            case rest =>
              obtain ⟨rfl, ds', hd', hst⟩ := hcut
              clear HC S4 M4 S3
              have S6 := Lib.hid hst
              clear hst
              obtain ⟨ta, tc, rfl⟩ := own_lenN S6.out.own
              go_upto_region 30 with fail
              go_cut [36, 101] from 36 to 180 (fun iv cv wx => iv = .int .i64 k ∧ ∃ c : Bool, cv = .bool c ∧ (c = true → k < bl.length ∧ 0 < ds'.length) ∧ wx = wc)
              case first =>
                -- done
                by_cases hkb : k < bl.length
                · have p5 : (k : Int) < (bl.length : Int) := by omega
                  by_cases h0 : 0 < ds'.length
                  · have p6 : (ds'.length : Int) > 0 := by omega
                    obtain ⟨bb, bo, rfl, hbb, hcs⟩ := HBL.out.at (by omega)
                    have hc : wc.cell? ⟨bb, bo + k, none⟩ = some (.int .i64 (bl.getD k 0)) := by
                      rw [← hcs k hkb]; exact World.cell?_of_block (w := w) (S6.out.bel.block bb hbb)
                    generalize bl.getD k 0 = y at hc
                    clear hcs
                    go_wp2_with fail
                    go_meet
                    case rel => exact ⟨rfl, _, rfl, fun _ => ⟨hkb, h0⟩, rfl⟩
                  · have p6 : ¬ (ds'.length : Int) > 0 := by omega
                    go_wp2_with fail
                    go_meet
                    case rel => exact ⟨rfl, false, rfl, (fun h => by cases h), rfl⟩
                · have p5 : ¬ (k : Int) < (bl.length : Int) := by omega
                  go_wp2_with fail
                  go_meet
                  case rel => exact ⟨rfl, false, rfl, (fun h => by cases h), rfl⟩
              case rest =>
                obtain ⟨rfl, c, rfl, hcc, rfl⟩ := hcut
                have HCC := Lib.hid hcc
                clear hcc
                go_upto_if 101 with fail
                go_cut [6, 36] from 36 to 180 (fun ov iv wx => iv = .int .i64 k ∧ ∃ (ds' : List (List UInt8)) (P' : List Mp.B), ds'.length ≤ k + 1 ∧ PoolSt w w1 wx r m ov ds' P')
                case first =>
                  -- done
                  cases c
                  · go_wp2_with fail
                    go_meet
                    case rel => exact ⟨rfl, ds', P', hd', S6.out⟩
                  · obtain ⟨hkb, h0⟩ := HCC.out rfl
                    clear HCC
                    have p5 : (k : Int) < (bl.length : Int) := by omega
                    obtain ⟨bb, bo, rfl, hbb, hcs⟩ := HBL.out.at (by omega)
                    have hc : wc.cell? ⟨bb, bo + k, none⟩ = some (.int .i64 (bl.getD k 0)) := by
                      rw [← hcs k hkb]; exact World.cell?_of_block (w := w) (S6.out.bel.block bb hbb)
                    have hyr := HRB.out k hkb
                    generalize bl.getD k 0 = y at hc hyr
                    clear hcs
                    have T5 := Lib.hid (fun v => pick_calls y (ds'.length : Int) v (by omega) (by omega) (by omega))
                    have hpl := Keeps.pick_lt y (ds'.length : Int) (by omega)
                    obtain ⟨i, hi⟩ : ∃ i : Nat, Keeps.pick y (ds'.length : Int) = (i : Int) := ⟨(Keeps.pick y (ds'.length : Int)).toNat, by omega⟩
                    rw [hi] at T5 hpl
                    clear hi hyr
                    have hil : i < ds'.length := by omega
                    obtain ⟨g, cap, hv', hgw, hcell⟩ := own_get S6.out.own rfl (by omega)
                    cases hv'
                    have hci := hcell i hil
                    have hmem : ds'.getD i [] ∈ ds' := by rw [List.getD_eq_getElem?_getD, List.getElem?_eq_getElem hil]; exact List.getElem_mem hil
                    obtain ⟨d', hde⟩ : ∃ d, ds'.getD i [] = d := ⟨_, rfl⟩
                    rw [hde] at hci hmem
                    have HDE := Lib.hid hde
                    have HCE := Lib.hid hcell
                    clear hde hcell
                    go_wp2_with fail
                    refine (T5.out _).mono ?_
                    clear T5
                    rintro e w5 ⟨rfl, rfl⟩
                    go_upto_region 33 with fail
                    haveI hne : Nonempty (Reg.Of (fun _ : World => True)) := ⟨⟨w, trivial⟩⟩
                    have hgc := hgw.2.2
                    go_cut [6, 36] from 36 to 180 (fun ov iv wx => iv = .int .i64 k ∧ wx.ownsRow w1.heap.size 9 1 ov (cutOut ds' i).length (wt (cutOut ds' i)) ∧ Below w1.heap.size w5 wx)
                    case first =>
                      -- done
                      have hz5 := S6.out.sz
                      have hct : (ds'.take i).length = i := by rw [List.length_take]; omega
                      have hcd : (ds'.drop (i + 1)).length = ds'.length - (i + 1) := by rw [List.length_drop]
                      have SA := Lib.hid (src_sub (w := w5.drew) (l := ds'.take i) HCE.out 0 (fun j hj => ⟨by omega, by rw [Nat.zero_add, List.getD_eq_getElem?_getD, List.getD_eq_getElem?_getD, List.getElem?_take_of_lt (by omega)]⟩))
                      have SB := Lib.hid (src_sub (w := w5.drew) (l := ds'.drop (i + 1)) HCE.out (i + 1) (fun j hj => ⟨by omega, by rw [List.getD_eq_getElem?_getD, List.getD_eq_getElem?_getD, List.getElem?_drop]⟩))
                      by_cases hcap : tc = i + 1
                      · subst hcap
                        refine Reg.startL [0, 1, 2, 4, 5, 6, 7] 3 mixed (by kernel_rfl) rfl rfl (fun c a d v w h => by cases d <;> exact h) (by as_aux_lemma => kernel_rfl) rfl (fun _ => True) trivial ?_
                        show wpQuiet _ _ _ _ [_, _, _, _, _, _, _] _
                        repeat (go_big_quiet_step (fail))
                        refine wpQuiet_nil ?_
                        refine Reg.one 3 _ (by kernel_rfl) rfl rfl ?_
                        refine wpList_append_own _ (o := ⟨some 116, .call { callee := .builtin .append, args := #[.const (.slice none 0 0), .tmp 115], argTypes := #[25, 25] }, _, _, _, _⟩) rfl _ _ 25 rfl w1.heap.size 9 i0 (.string ByteArray.empty) 1 16 Tryd.underlying25 HI.out hz0 hz1 hz2 rfl (by decide) _ 0 [] rfl (World.ownsRow_nil _ _ _ _) ⟨g, 0, none⟩ i (i + 1) (wt (ds'.take i)) rfl (by rw [wt_length, hct]; omega) SA.out (wt_one _) (by unfold maxLen; omega) (by omega) (show w1.heap.size ≤ w5.drew.heap.size from hz5) ?_
                        intro v6 w6 hown6 hgr6 _
                        refine ⟨Reg.cls_mk trivial, ?_⟩
                        have hgr6' : w5.drew.grownBy w6 none := hgr6
                        have hb6 : Below w1.heap.size w5 w6 := (Below.refl w1.heap.size w5).drew.grown hgr6' (show w1.heap.size ≤ w5.drew.heap.size from hz5) (fun q hq => by cases hq)
                        have hz6 := hb6.size
                        refine Reg.one 8 _ (by kernel_rfl) rfl rfl ?_
                        refine wpList_append_own _ (o := ⟨some 121, .call { callee := .builtin .append, args := #[.tmp 116, .tmp 120], argTypes := #[25, 25] }, _, _, _, _⟩) rfl _ _ 25 rfl w1.heap.size 9 i0 (.string ByteArray.empty) 1 16 Tryd.underlying25 HI.out hz0 hz1 hz2 rfl (by decide) _ _ _ rfl hown6 ⟨g, 0, none⟩ 0 0 [] rfl rfl (fun j u hu => by simp at hu) (fun u hu => by cases hu) (by unfold maxLen; omega) (by omega) (Nat.le_trans hz5 hz6) ?_
                        intro v7 w7 hown7 hgr7 _
                        refine ⟨Reg.cls_mk trivial, ?_⟩
                        have hb7 : Below w1.heap.size w5 w7 := hb6.grown hgr7 (Nat.le_trans hz5 hz6) (fun q hq => (hown6.lt q hq).1)
                        have O7 := Lib.hid (show w7.ownsRow w1.heap.size 9 1 v7 (cutOut ds' i).length (wt (cutOut ds' i)) from by
                          have e1 : (cutOut ds' i).length = 0 + i + 0 := by unfold cutOut; rw [List.length_append, hct, hcd]; omega
                          have e2 : wt (cutOut ds' i) = [] ++ wt (ds'.take i) ++ [] := by unfold cutOut wt; rw [List.drop_eq_nil_of_le (by omega)]; simp
                          rw [e1, e2]; exact hown7)
                        clear hown6 hown7 hgr6 hgr6' hgr7
                        refine Reg.one 9 _ (by kernel_rfl) rfl rfl ?_
                        try go_frame
                        go_wp2_with fail
                        refine ⟨Reg.cls_mk trivial, ?_⟩
                        refine wpAnyH_done (by kernel_rfl) ?_ 0
                        go_wp2_with fail
                        go_meet
                        case rel => exact ⟨rfl, O7.out, hb7⟩
                      · have hcap2 : ¬ (tc : Int) = (i : Int) + 1 := by omega
                        refine Reg.startL [0, 1, 2, 4, 5, 6, 7] 3 mixed (by kernel_rfl) rfl rfl (fun c a d v w h => by cases d <;> exact h) (by as_aux_lemma => kernel_rfl) rfl (fun _ => True) trivial ?_
                        show wpQuiet _ _ _ _ [_, _, _, _, _, _, _] _
                        repeat (go_big_quiet_step (fail))
                        refine wpQuiet_nil ?_
                        refine Reg.one 3 _ (by kernel_rfl) rfl rfl ?_
                        refine wpList_append_own _ (o := ⟨some 116, .call { callee := .builtin .append, args := #[.const (.slice none 0 0), .tmp 115], argTypes := #[25, 25] }, _, _, _, _⟩) rfl _ _ 25 rfl w1.heap.size 9 i0 (.string ByteArray.empty) 1 16 Tryd.underlying25 HI.out hz0 hz1 hz2 rfl (by decide) _ 0 [] rfl (World.ownsRow_nil _ _ _ _) ⟨g, 0, none⟩ i tc (wt (ds'.take i)) rfl (by rw [wt_length, hct]; omega) SA.out (wt_one _) (by unfold maxLen; omega) (by omega) (show w1.heap.size ≤ w5.drew.heap.size from hz5) ?_
                        intro v6 w6 hown6 hgr6 _
                        refine ⟨Reg.cls_mk trivial, ?_⟩
                        have hgr6' : w5.drew.grownBy w6 none := hgr6
                        have hb6 : Below w1.heap.size w5 w6 := (Below.refl w1.heap.size w5).drew.grown hgr6' (show w1.heap.size ≤ w5.drew.heap.size from hz5) (fun q hq => by cases hq)
                        have hz6 := hb6.size
                        have SB6 := Lib.hid (show ∀ (j : Nat) (u : Value), (wt (ds'.drop (i + 1)))[j]? = some u → w6.cell? (Addr.add ⟨g, i + 1, none⟩ j) = some u from fun j u hu => by
                          rw [← SB.out j u hu, Addr.add_lit]
                          exact World.cell?_of_block (w := w5.drew) (hgr6'.block g hgw.1 (by simp)))
                        refine Reg.one 8 _ (by kernel_rfl) rfl rfl ?_
                        refine wpList_append_own _ (o := ⟨some 121, .call { callee := .builtin .append, args := #[.tmp 116, .tmp 120], argTypes := #[25, 25] }, _, _, _, _⟩) rfl _ _ 25 rfl w1.heap.size 9 i0 (.string ByteArray.empty) 1 16 Tryd.underlying25 HI.out hz0 hz1 hz2 rfl (by decide) _ _ _ rfl hown6 ⟨g, i + 1, none⟩ (ds'.length - (i + 1)) (tc - (i + 1)) (wt (ds'.drop (i + 1))) rfl (by rw [wt_length, hcd]; omega) SB6.out (wt_one _) (by unfold maxLen; omega) (by omega) (Nat.le_trans hz5 hz6) ?_
                        intro v7 w7 hown7 hgr7 _
                        refine ⟨Reg.cls_mk trivial, ?_⟩
                        have hb7 : Below w1.heap.size w5 w7 := hb6.grown hgr7 (Nat.le_trans hz5 hz6) (fun q hq => (hown6.lt q hq).1)
                        have O7 := Lib.hid (show w7.ownsRow w1.heap.size 9 1 v7 (cutOut ds' i).length (wt (cutOut ds' i)) from by
                          have e1 : (cutOut ds' i).length = 0 + i + (ds'.length - (i + 1)) := by unfold cutOut; rw [List.length_append, hct, hcd]; omega
                          have e2 : wt (cutOut ds' i) = [] ++ wt (ds'.take i) ++ wt (ds'.drop (i + 1)) := by unfold cutOut wt; rw [List.map_append]; rfl
                          rw [e1, e2]; exact hown7)
                        clear hown6 hown7 hgr6 hgr6' hgr7 SB6
                        refine Reg.one 9 _ (by kernel_rfl) rfl rfl ?_
                        try go_frame
                        go_wp2_with fail
                        refine ⟨Reg.cls_mk trivial, ?_⟩
                        refine wpAnyH_done (by kernel_rfl) ?_ 0
                        go_wp2_with fail
                        go_meet
                        case rel => exact ⟨rfl, O7.out, hb7⟩
                    case rest =>
                      obtain ⟨rfl, hown7, hb7⟩ := hcut
                      have hup := S6.out.map.up
                      obtain ⟨g1, g2, g3, g4⟩ := S6.out.same.there hup i hil
                      have SO := Lib.hid (S6.out.same.out hup i hil)
                      rw [HDE.out] at g1 g2 g3 g4 SO
                      have h32' : d'.length = 32 := S6.out.same.all d' hmem
                      have R7 := S6.out.row.below hb7 hrl
                      have M7 := S6.out.map.below hb7 hml
                      have B7 := S6.out.bel.trans (hb7.mono HB1.out.size)
                      have Z7 := Nat.le_trans S6.out.sz hb7.size
                      have hrc := R7.cell 0
                      rw [show (Mp.rcv m)[0]? = some (.map (some m)) from rfl] at hrc
                      have T7 := Lib.hid (drop_calls d' r m P' wc (by omega) hrc M7 R7.lt hrm)
                      rw [g1, g2] at T7
                      have G3 := Lib.hid g3
                      have G4 := Lib.hid g4
                      have O7 := Lib.hid hown7
                      have BB7 := Lib.hid B7
                      have RR7 := Lib.hid R7
                      have HLC := Lib.hid (show (cutOut ds' i).length ≤ k + 1 from by unfold cutOut; rw [List.length_append, List.length_take, List.length_drop]; omega)
                      clear g1 g2 g3 g4 hrc R7 M7 B7 hown7 hb7 hup hc hci HCE hmem S6
                      go_wp2_with fail
                      refine T7.out.mono ?_
                      clear T7
                      rintro e w8 ⟨rfl, hM8, hb8⟩
                      have R8 := hb8.row RR7.out RR7.out.lt hrm
                      have O8 := Lib.hid (own_but O7.out hb8 hml)
                      have BB8 := Lib.hid (BB7.out.trans ((hb8.mono BB7.out.size).below hmw))
                      have Z8 := Nat.le_trans Z7 hb8.size
                      have hrc := R8.cell 0
                      rw [show (Mp.rcv m)[0]? = some (.map (some m)) from rfl] at hrc
                      have T8 := Lib.hid (drop_calls d' r m (Pl.del Mk.twice d' P') w8 (by omega) hrc hM8 R8.lt hrm)
                      rw [G3.out, G4.out] at T8
                      have RR8 := Lib.hid R8
                      clear hb8 hM8 hrc R8 O7 BB7 RR7
                      go_wp2_with fail
                      refine T8.out.mono ?_
                      clear T8
                      rintro e w9 ⟨rfl, hM9, hb9⟩
                      have S9 := Lib.hid (show PoolSt w w1 w9 r m u6 (cutOut ds' i) (Pl.del Mk.twice d' P') from ⟨hb9.row RR8.out RR8.out.lt hrm, hM9, own_but O8.out hb9 hml, SO.out, BB8.out.trans ((hb9.mono BB8.out.size).below hmw), Nat.le_trans Z8 hb9.size⟩)
                      clear hb9 hM9 RR8 O8 BB8 SO
                      go_wp2_with fail
                      go_meet
                      case rel => exact ⟨rfl, cutOut ds' i, _, HLC.out, S9.out⟩
                case rest =>
                  obtain ⟨rfl, ds2, P2, hd2, hst⟩ := hcut
                  clear HCC S6
                  have S10 := Lib.hid hst
                  clear hst
                  have hr0 := S10.out.row.cell 0
                  rw [show (Mp.rcv m)[0]? = some (.map (some m)) from rfl] at hr0
                  have T10 := Lib.hid (ids_calls r m P2 wc hr0 S10.out.map)
                  clear hr0
                  obtain ⟨ta, tc, rfl⟩ := own_lenN S10.out.own
                  go_upto_region 36 with fail
                  go_wp2_with fail
                  refine T10.out.mono ?_
                  clear T10
                  rintro e w11 ⟨lv, rfl, hlo, hb11⟩
                  have S11 := Lib.hid (S10.out.below hb11)
                  have hln := S10.out.same.len
                  rw [← hln] at hlo
                  have HLN := Lib.hid hln
                  clear hln
                  have LO := Lib.hid hlo
                  obtain ⟨la, lc, rfl⟩ := own_lenN hlo
                  have LR := Lib.hid (S10.out.map.up)
                  have SM := Lib.hid S10.out.same
                  clear hb11 hlo S10
                  have hd2' : ds2.length ≤ k + 1 := hd2
                  clear hd2
                  go_wp2_with fail
                  go_loopw [146] (fun iv wx => ∃ i : Nat, i ≤ ds2.length ∧ iv = .int .i64 i ∧ wx = w11) (fun iv _ => ds2.length - (intOf iv).toNat)
                  case atStart => exact ⟨0, by omega, rfl, rfl⟩
                  case round =>
                    obtain ⟨i, hi, rfl, rfl⟩ := hrel
                    by_cases hil : i < ds2.length
                    · have p8 : (i : Int) < (ds2.length : Int) := by omega
                      obtain ⟨g, cap', hv', _, hcell⟩ := own_get LO.out (by rw [List.length_map, HLN.out]) (by omega)
                      cases hv'
                      have hlm : (P2.map Mk.twice).length = ds2.length := by rw [List.length_map, HLN.out]
                      have HLL := Lib.hid hcell
                      have hc := hcell i (by omega)
                      have hmem : (P2.map Mk.twice).getD i [] ∈ P2.map Mk.twice := by rw [List.getD_eq_getElem?_getD, List.getElem?_eq_getElem (by omega)]; exact List.getElem_mem (by omega)
                      have hm2 : ds2.contains ((P2.map Mk.twice).getD i []) = true := List.contains_iff_mem.2 (SM.out.perm.mem_iff.2 hmem)
                      have HK : Hid (0 < i → (P2.map Mk.twice).getD (i - 1) [] < (P2.map Mk.twice).getD i []) := Lib.hid fun h0 => by
                        rw [List.getD_eq_getElem?_getD, List.getD_eq_getElem?_getD, List.getElem?_eq_getElem (by omega), List.getElem?_eq_getElem (by omega)]
                        exact List.pairwise_iff_getElem.1 (Pl.keys_up Mk.twice P2 LR.out) (i - 1) i (by omega) (by omega) (by omega)
                      obtain ⟨x, hx⟩ : ∃ x, (P2.map Mk.twice).getD i [] = x := ⟨_, rfl⟩
                      rw [hx] at hc hm2 HK
                      have HM2 := Lib.hid hm2
                      clear hcell hmem hm2 hx hlm
                      obtain ⟨ub, uc, hu0⟩ : ∃ ub uc, Value.slice ta ds2.length tc = .slice ub ds2.length uc := ⟨_, _, rfl⟩
                      go_wp2_with fail
                      clear hc
                      go_loopw [20, 22, 153] (fun hv _ jv wx => ∃ j : Nat, j ≤ ds2.length ∧ jv = .int .i64 j ∧ hv = .bool ((ds2.take j).contains x) ∧ wx = wr) (fun _ _ jv _ => ds2.length - (intOf jv).toNat)
                      case atStart => exact ⟨0, by omega, rfl, by simp, rfl⟩
                      case round =>
                        obtain ⟨j, hj, rfl, rfl, rfl⟩ := hrel
                        by_cases hjl : j < ds2.length
                        · have p4 : (j : Int) < (ds2.length : Int) := by omega
                          obtain ⟨g2, cap2, hv2, _, hcell⟩ := own_get S11.out.own rfl (by omega)
                          cases hv2
                          have hc := hcell j hjl
                          have E := Lib.hid (has_take ds2 x j hjl)
                          generalize ds2.getD j [] = y at hc E
                          clear hcell
                          cases hb : (ds2.take j).contains x
                          · rw [hb] at E
                            cases hy : (y == x)
                            · rw [hy] at E
                              go_wp2_with fail
                              go_roundw
                              case rel => exact ⟨j + 1, by omega, by go_num, by rw [E.out]; rfl, by first | trivial | rfl⟩
                              case measure => simp [intOf]; omega
                            · rw [hy] at E
                              go_wp2_with fail
                              go_roundw
                              case rel => exact ⟨j + 1, by omega, by go_num, by rw [E.out]; rfl, by first | trivial | rfl⟩
                              case measure => simp [intOf]; omega
                          · rw [hb] at E
                            go_wp2_with fail
                            go_roundw
                            case rel => exact ⟨j + 1, by omega, by go_num, by rw [E.out]; rfl, by first | trivial | rfl⟩
                            case measure => simp [intOf]; omega
                        · obtain rfl : j = ds2.length := by omega
                          rw [List.take_of_length_le (Nat.le_refl _), HM2.out]
                          cases i with
                          | zero =>
                            go_wp2_with fail
                            go_roundw
                            case rel => exact ⟨1, by omega, rfl, trivial⟩
                            case measure => simp [intOf]; omega
                          | succ i' =>
                            have hk := HK.out (by omega)
                            rw [Nat.add_sub_cancel] at hk
                            have hc1 := HLL.out i' (by rw [List.length_map, ← HLN.out]; omega)
                            generalize (P2.map Mk.twice).getD i' [] = z at hc1 hk
                            have hge : Op.bytesLess z x = true := by rw [bytesLess_eq]; exact decide_eq_true hk
                            clear hk
                            go_wp2_with fail
                            go_roundw
                            case rel => exact ⟨i' + 2, by omega, by go_num, trivial⟩
                            case measure => simp [intOf]; omega
                    · obtain rfl : i = ds2.length := by omega
                      go_wp2_with fail
                      go_roundw
                      case rel => exact ⟨k + 1, ds2, P2, by omega, by go_num, hd2', S11.out⟩
                      case measure => simp [intOf]; omega
      · obtain rfl : k = al.length := by omega
        go_wp2_with fail
        go_ret
        exact ⟨rfl, ST.out.bel⟩
end Go.Proofs.YtlpcjiollnnmgabDoor.pools
