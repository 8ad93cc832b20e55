/-
  THE WALKS OF THE REFERENCE's primes, NewTables.
-/
import Derived.Test.YtlpcjiollnnmgabGreatDoorRefRoot
import Derived.Deep.AppendLies
import Derived.Deep.RegionHeld3
namespace Go.Proofs.YtlpcjiollnnmgabGreatDoor
open Go.RowKit Nums
theorem own_len {w : World} {B : Nat} {e : TypeId} {v : Value} {n : Nat} {xs : List Value} (h : w.ownsRow B e 1 v n xs) : ∃ a cap, v = .slice a n cap := by
  obtain ⟨_, ⟨rfl, rfl⟩ | ⟨g, cap, cur, rfl, _⟩⟩ := h
  · exact ⟨none, 0, rfl⟩
  · exact ⟨_, cap, rfl⟩
theorem sieve_ge : ∀ n, ∀ q ∈ Tab.sieve n, 2 ≤ q
  | 0, q, h => by simp [Tab.sieve] at h
  | n + 1, q, h => by
    unfold Tab.sieve Tab.found at h
    split at h
    · rw [List.mem_append] at h
      rcases h with h | h
      · exact sieve_ge n q h
      · simp at h; omega
    · exact sieve_ge n q h
theorem dg_mem (l : List Nat) (i : Nat) (h : i < l.length) : Tab.dg l i ∈ l := by
  unfold Tab.dg; rw [List.getD_eq_getElem?_getD, List.getElem?_eq_getElem h]; exact List.getElem_mem h
theorem fresh_step (l : List Nat) (p j : Nat) (h : j < l.length) : Tab.fresh (l.take (j + 1)) p = (Tab.fresh (l.take j) p && p % Tab.dg l j != 0) := by
  unfold Tab.fresh
  rw [List.take_succ_eq_append_getElem h, List.all_append]
  unfold Tab.dg
  rw [List.getD_eq_getElem?_getD, List.getElem?_eq_getElem h]; simp
set_option maxRecDepth 100000 in
set_option maxHeartbeats 4000000 in
theorem primes_calls (w : World) :
    Calls Tryz.prog 53 #[.int .i64 64] w fun e w' =>
      ∃ v, e = .returned v ∧ w'.ownsRow w.heap.size 3 1 v 64 (wi Tab.primes) ∧ Below w.heap.size w w' := by
  obtain ⟨i0, hi0, hz0, hz1, hz2⟩ := info_parts Tryz.info3
  have HS := Lib.hid Tab.sieve_len
  have HA := Lib.hid Tab.sieve_all
  go_enter Tryz.func53, Tryz.ntmps53
  go_wp2_with fail
  go_loopw [3, 4] (fun v pv wr => ∃ k : Nat, k ≤ 310 ∧ pv = .int .i64 ((k : Int) + 2) ∧ wr.ownsRow w.heap.size 3 1 v (Tab.sieve k).length (wi (Tab.sieve k)) ∧ Below w.heap.size w wr) (fun _ pv _ => 312 - (intOf pv).toNat)
  case atStart => exact ⟨0, by omega, rfl, World.ownsRow_nil _ _ _ _, Below.refl _ _⟩
  case round =>
    obtain ⟨k, hk, rfl, hown, hB⟩ := hrel
    obtain ⟨a, cap, hv⟩ := own_len hown
    subst hv
    have B1 := Lib.hid hown
    have B2 := Lib.hid hB
    clear hown hB
    by_cases hlt : k < 310
    · have hn := HS.out k hlt
      have hge := sieve_ge k
      have HG := Lib.hid hge
      have hs1 : Tab.sieve (k + 1) = Tab.found (Tab.sieve k) (k + 2) := rfl
      have H1 := Lib.hid hs1
      clear hge hs1
      generalize hS : Tab.sieve k = S at hn B1 HG H1 ⊢
      clear hS
      have hn' : (S.length : Int) < 64 := by omega
      go_wp2_with fail
      go_loop [5, 16] (fun b jv => ∃ j : Nat, j ≤ S.length ∧ jv = .int .i64 j ∧ b = .bool (Tab.fresh (S.take j) (k + 2))) (fun _ jv => S.length - (intOf jv).toNat)
      case atStart => exact ⟨0, by omega, rfl, rfl⟩
      case round =>
        obtain ⟨j, hj, rfl, rfl⟩ := hrel
        by_cases hlj : j < S.length
        · obtain ⟨g, cap', he, hg1, hg2, hg3, hg4⟩ := own_open B1.out (by omega)
          cases he
          have cq := hg3 j hlj
          rw [wi_get S j hlj] at cq
          have hq := HG.out _ (dg_mem S j hlj)
          have hf := fresh_step S (k + 2) j hlj
          generalize Tab.dg S j = q at cq hq hf
          have hq' : (2 : Int) ≤ (q : Int) := by omega
          have e1 : (((k + 2) % q != 0 : Bool)) = ((((k : Int) + 2) % (q : Int)) != 0) := by
            rw [Bool.eq_iff_iff]; simp only [bne_iff_ne]
            have : (((k + 2) % q : Nat) : Int) = ((k : Int) + 2) % (q : Int) := by rw [Int.natCast_emod]; rfl
            omega
          rw [e1] at hf
          have HF := Lib.hid hf
          clear hf e1 hg3 hg4 hq
          cases hb : Tab.fresh (S.take j) (k + 2) with
          | false =>
            rw [hb] at HF
            clear hb
            go_wp2_with fail
            exact ⟨⟨j + 1, by omega, by go_num, by rw [HF.out]; simp⟩, by simp [intOf]; omega⟩
          | true =>
            rw [hb] at HF
            clear hb
            go_wp2_with fail
            exact ⟨⟨j + 1, by omega, by go_num, by rw [HF.out]; simp⟩, by simp [intOf]; omega⟩
        · obtain rfl : j = S.length := by omega
          rw [List.take_of_length_le (Nat.le_refl _)]
          have hfd : Tab.found S (k + 2) = if Tab.fresh S (k + 2) = true then S ++ [k + 2] else S := rfl
          cases hb : Tab.fresh S (k + 2) with
          | false =>
            rw [hb, if_neg Bool.false_ne_true] at hfd
            have H2 := Lib.hid hfd
            clear hfd hb
            go_wp2_with fail
            go_roundw
            case rel => exact ⟨k + 1, by omega, by go_num, by rw [H1.out, H2.out]; exact B1.out, B2.out⟩
            case measure => simp [intOf]; omega
          | true =>
            rw [hb, if_pos rfl] at hfd
            have H2 := Lib.hid hfd
            clear hfd hb
            have hc1 : (wr.alloc (.cells #[.int .i64 ((k : Int) + 2)] 3)).cell? ⟨wr.heap.size, 0, none⟩ = some (.int .i64 ((k : Int) + 2)) := (Row.new wr [.int .i64 ((k : Int) + 2)] _).cell 0
            have hb1 := B2.out.alloc B2.out.size (.cells #[.int .i64 ((k : Int) + 2)] 3)
            have hb2 : w.heap.size ≤ (wr.alloc (.cells #[.int .i64 ((k : Int) + 2)] 3)).heap.size := hb1.size
            have C1 := Lib.hid hc1
            have C2 := Lib.hid hb1
            have C3 := Lib.hid (B1.out.alloc (.cells #[.int .i64 ((k : Int) + 2)] 3))
            clear hc1 hb1
            go_wp2_with (at_builtin; refine wpList_append_own _ rfl _ _ 25 rfl w.heap.size 3 i0 (.int .i64 0) 1 8 Tryz.underlying25 hi0 hz0 hz1 hz2 rfl (by decide) _ _ _ rfl C3.out ⟨wr.heap.size, 0, none⟩ 1 1 [.int .i64 ((k : Int) + 2)] rfl rfl (fun j u hu => by cases j with | zero => simp at hu; rw [← hu]; exact C1.out | succ j => simp at hu) (by simp [Value.oneCell']) (by unfold maxLen; omega) (by omega) hb2 ?_; intro v' w1 hown1 hgr1 _)
            have hB1 : Below w.heap.size w w1 := C2.out.trans ((Below.refl w.heap.size _).grown hgr1 hb2 (fun k hk => (C3.out.lt k hk).1))
            have e : wi S ++ [Value.int .i64 ((k : Int) + 2)] = wi (S ++ [k + 2]) := by simp [wi]
            rw [e] at hown1
            have D1 := Lib.hid hown1
            have D2 := Lib.hid hB1
            clear hown1 hgr1 hB1 e
            go_wp2_with fail
            go_roundw
            case rel => exact ⟨k + 1, by omega, by go_num, by rw [H1.out, H2.out, List.length_append]; exact D1.out, D2.out⟩
            case measure => simp [intOf]; omega
    · obtain rfl : k = 310 := by omega
      rw [HA.out] at B1
      have hl : (Tab.sieve 310).length = 64 := by rw [HA.out]; rfl
      rw [show (Tab.sieve 310).length = 64 from hl]
      have hl2 : Tab.primes.length = 64 := rfl
      rw [hl2] at B1
      clear hl hl2
      go_wp2_with fail
      go_ret
      exact ⟨_, rfl, B1.out, B2.out⟩
theorem own_below {w w' : World} {B C : Nat} {e : TypeId} {v : Value} {n : Nat} {xs : List Value} (h : w.ownsRow B e 1 v n xs) (hb : Below C w w') (hC : w.heap.size ≤ C) : w'.ownsRow B e 1 v n xs := by
  refine ⟨h.1, ?_⟩
  rcases h.2 with h | ⟨g, cap, cur, rfl, h1, h2, h3⟩
  · exact .inl h
  · exact .inr ⟨g, cap, cur, rfl, h1, by rw [hb.block g (Nat.lt_of_lt_of_le (Array.getElem?_eq_some_iff.1 h2).1 hC)]; exact h2, h3⟩
theorem map_dg (f : Nat → Nat) (l m : List Nat) (h : l.map f = m) (i : Nat) (hi : i < l.length) : f (Tab.dg l i) = Tab.dg m i := by
  subst h
  unfold Tab.dg
  rw [List.getD_eq_getElem?_getD, List.getD_eq_getElem?_getD, List.getElem?_map, List.getElem?_eq_getElem hi]; rfl
theorem take_dg (l : List Nat) (n i : Nat) (h : i < n) : Tab.dg (l.take n) i = Tab.dg l i := by
  unfold Tab.dg
  rw [List.getD_eq_getElem?_getD, List.getD_eq_getElem?_getD, List.getElem?_take_of_lt h]
theorem Kget (i : Nat) (h : i < 64) : Tab.root (Tab.dg Tab.primes i) 3 = Tab.dg Tab.K i := map_dg (fun p => Tab.root p 3) Tab.primes Tab.K Tab.Kall i h
theorem Hget (i : Nat) (h : i < 8) : Tab.root (Tab.dg Tab.primes i) 2 = Tab.dg Tab.H i := by
  have e := map_dg (fun p => Tab.root p 2) (Tab.primes.take 8) Tab.H Tab.Hall i h
  rw [take_dg _ _ _ h] at e
  exact e
theorem root3_at (i : Nat) (h : i < 64) (w : World) : Calls Tryz.prog 54 #[.int .i64 (Tab.dg Tab.primes i : Nat), .int .i64 3] w fun e w' => e = .returned (.int .i64 (Tab.dg Tab.K i : Nat)) ∧ Below w.heap.size w w' := by
  have := root3_calls (Tab.dg Tab.primes i) (Tab.primes_lt _ (dg_mem _ _ h)) w
  rwa [Kget i h] at this
theorem root2_at (i : Nat) (h : i < 8) (w : World) : Calls Tryz.prog 54 #[.int .i64 (Tab.dg Tab.primes i : Nat), .int .i64 2] w fun e w' => e = .returned (.int .i64 (Tab.dg Tab.H i : Nat)) ∧ Below w.heap.size w w' := by
  have := root2_calls (Tab.dg Tab.primes i) (Tab.primes_lt _ (dg_mem _ _ (by show i < 64; omega))) w
  rwa [Hget i h] at this
theorem wi_take (l : List Nat) (i : Nat) (h : i < l.length) : wi (l.take i) ++ [Value.int .i64 (Tab.dg l i : Nat)] = wi (l.take (i + 1)) := by
  have e := List.take_succ_eq_append_getElem h
  have e2 : Tab.dg l i = l[i] := by unfold Tab.dg; rw [List.getD_eq_getElem?_getD, List.getElem?_eq_getElem h]; rfl
  rw [e, e2]
  unfold wi
  rw [List.map_append]; rfl
/-- the reference's tables, in the struct at block t -/
structure Tbl (w : World) (t hb hc kb kc : Nat) : Prop where
  h : w.cell? ⟨t, 0, none⟩ = some (.slice (some ⟨hb, 0, none⟩) 8 hc)
  k : w.cell? ⟨t, 1, none⟩ = some (.slice (some ⟨kb, 0, none⟩) 64 kc)
  hl : IC w hb Tab.H
  kl : IC w kb Tab.K
theorem own_setOther {w : World} {B : Nat} {e : TypeId} {v : Value} {n : Nat} {xs : List Value} (h : w.ownsRow B e 1 v n xs) (a : Addr) (ha : a.block < B) (u : Value) : (w.setCell a u).ownsRow B e 1 v n xs := by
  refine ⟨h.1, ?_⟩
  rcases h.2 with h | ⟨g, cap, cur, rfl, h1, h2, h3⟩
  · exact .inl h
  · exact .inr ⟨g, cap, cur, rfl, h1, by rw [Below.heap_setCell _ _ _ _ (by omega)]; exact h2, h3⟩
/-- the tables in the making: block T holds two slices of their own, hv and kv, of nh and nk numbers -/
structure TS (w wr : World) (T pb : Nat) (hv kv : Value) (nh nk : Nat) : Prop where
  row : Row wr T [hv, kv]
  oh : wr.ownsRow (T + 1) 3 1 hv nh (wi (Tab.H.take nh))
  ok : wr.ownsRow (T + 1) 3 1 kv nk (wi (Tab.K.take nk))
  sep : ∀ k, hv.ownBlock = some k → kv.ownBlock ≠ some k
  prm : IC wr pb Tab.primes
  n1 : hv.ownBlock ≠ some pb
  n2 : kv.ownBlock ≠ some pb
  bel : Below T w wr
  hp : pb < wr.heap.size
  hT : T < pb
theorem IC.grown {w w' : World} {b : Nat} {l : List Nat} {r : Option Nat} (h : IC w b l) (hg : w.grownBy w' r) (hb : b < w.heap.size) (hr : r ≠ some b) : IC w' b l := fun j hj => by
  rw [← h j hj]; exact World.cell?_of_block (w := w) (hg.block b hb (Ne.symm hr))
theorem IC.other {w : World} {b : Nat} {l : List Nat} (h : IC w b l) (a : Addr) (ha : a.block ≠ b) (u : Value) : IC (w.setCell a u) b l := fun j hj => by
  rw [← h j hj]; exact World.cell?_of_block (w := w) (Below.heap_setCell _ _ _ _ (Ne.symm ha))
theorem own_sep {v : Value} (r : Value) (hs : ∀ k, v.ownBlock = some k → r.ownBlock ≠ some k) : v.ownBlock = none ∨ v.ownBlock ≠ r.ownBlock := by
  cases hv : v.ownBlock with
  | none => exact .inl rfl
  | some k => exact .inr (fun he => hs k hv he.symm)
theorem TS.appK {w wr w2 w3 : World} {T pb : Nat} {hv kv : Value} {nh nk kk gg cap : Nat} (h : TS w wr T pb hv kv nh nk) (hB2 : Below wr.drew.heap.size wr.drew w2) (o : Obj)
    (hg : (w2.alloc o).grownBy w3 kv.ownBlock) (ho : w3.ownsRow (T + 1) 3 1 (.slice (some ⟨gg, 0, none⟩) (nk + 1) cap) (nk + 1) (wi (Tab.K.take nk) ++ [.int .i64 (kk : Nat)]))
    (hat : kv.ownBlock = some gg ∨ gg = w2.heap.size + 1) (hk : wi (Tab.K.take nk) ++ [.int .i64 (kk : Nat)] = wi (Tab.K.take (nk + 1))) :
    TS w (w3.setCell ⟨T, 1, none⟩ (.slice (some ⟨gg, 0, none⟩) (nk + 1) cap)) T pb hv (.slice (some ⟨gg, 0, none⟩) (nk + 1) cap) nh (nk + 1) := by
  obtain ⟨hrow, hoh, hok, hsep, hprm, hn1, hn2, hbel, hhp, hTp⟩ := h
  have hTl := hrow.lt
  have hz2 := hB2.size
  have hzw : wr.heap.size ≤ w2.heap.size := hz2
  have hg3 := (Below.refl (T + 1) (w2.alloc o)).grown hg (by rw [World.size_alloc]; omega) (fun k hk => (hok.lt k hk).1)
  have hz3 : (w2.alloc o).heap.size ≤ w3.heap.size := hg3.size
  rw [World.size_alloc] at hz3
  have hlo := hoh.lt
  rw [hk] at ho
  refine ⟨((((hrow.drew).below hB2 hTl).alloc o).below hg3 (Nat.lt_succ_self _)).set 1 _, ?_, own_setOther ho _ (Nat.lt_succ_self _) _, ?_, ?_, hn1, ?_, ?_, ?_, hTp⟩
  · exact own_setOther (((own_below hoh.drew hB2 (Nat.le_refl _)).alloc o).kept hg (own_sep kv hsep)) _ (Nat.lt_succ_self _) _
  · intro k hk he
    have he' : gg = k := by simpa [Value.ownBlock] using he
    subst he'
    rcases hat with h1 | h1
    · exact hsep _ hk h1
    · have := (hlo _ hk).2; omega
  · exact (((hprm.below (w := wr) (w' := w2) (B := wr.heap.size) ((Below.refl _ wr).drew.trans hB2) hhp).below (((Below.refl _ w2).alloc (Nat.le_refl _) o)) (by omega)).grown hg (by rw [World.size_alloc]; omega) hn2).other _ (by show T ≠ pb; omega) _
  · intro he
    have he' : gg = pb := by simpa [Value.ownBlock] using he
    subst he'
    rcases hat with h1 | h1
    · exact hn2 h1
    · omega
  · exact ((((hbel.drew).trans (hB2.mono (show T ≤ wr.heap.size by omega))).alloc (by omega) o).trans (hg3.mono (by omega))).setCell (Nat.le_refl _) _
  · simp [World.setCell]; omega
theorem TS.appH {w wr w2 w3 : World} {T pb : Nat} {hv kv : Value} {nh nk kk gg cap : Nat} (h : TS w wr T pb hv kv nh nk) (hB2 : Below wr.drew.heap.size wr.drew w2) (o : Obj)
    (hg : (w2.alloc o).grownBy w3 hv.ownBlock) (ho : w3.ownsRow (T + 1) 3 1 (.slice (some ⟨gg, 0, none⟩) (nh + 1) cap) (nh + 1) (wi (Tab.H.take nh) ++ [.int .i64 (kk : Nat)]))
    (hat : hv.ownBlock = some gg ∨ gg = w2.heap.size + 1) (hk : wi (Tab.H.take nh) ++ [.int .i64 (kk : Nat)] = wi (Tab.H.take (nh + 1))) :
    TS w (w3.setCell ⟨T, 0, none⟩ (.slice (some ⟨gg, 0, none⟩) (nh + 1) cap)) T pb (.slice (some ⟨gg, 0, none⟩) (nh + 1) cap) kv (nh + 1) nk := by
  obtain ⟨hrow, hoh, hok, hsep, hprm, hn1, hn2, hbel, hhp, hTp⟩ := h
  have hTl := hrow.lt
  have hz2 := hB2.size
  have hzw : wr.heap.size ≤ w2.heap.size := hz2
  have hg3 := (Below.refl (T + 1) (w2.alloc o)).grown hg (by rw [World.size_alloc]; omega) (fun k hk => (hoh.lt k hk).1)
  have hz3 : (w2.alloc o).heap.size ≤ w3.heap.size := hg3.size
  rw [World.size_alloc] at hz3
  have hlo := hok.lt
  rw [hk] at ho
  have hsep' : ∀ k, kv.ownBlock = some k → hv.ownBlock ≠ some k := fun k h1 h2 => hsep k h2 h1
  refine ⟨((((hrow.drew).below hB2 hTl).alloc o).below hg3 (Nat.lt_succ_self _)).set 0 _, own_setOther ho _ (Nat.lt_succ_self _) _, ?_, ?_, ?_, ?_, hn2, ?_, ?_, hTp⟩
  · exact own_setOther (((own_below hok.drew hB2 (Nat.le_refl _)).alloc o).kept hg (own_sep hv hsep')) _ (Nat.lt_succ_self _) _
  · intro k he hk
    have he' : gg = k := by simpa [Value.ownBlock] using he
    subst he'
    rcases hat with h1 | h1
    · exact hsep' _ hk h1
    · have := (hlo _ hk).2; omega
  · exact (((hprm.below (w := wr) (w' := w2) (B := wr.heap.size) ((Below.refl _ wr).drew.trans hB2) hhp).below (((Below.refl _ w2).alloc (Nat.le_refl _) o)) (by omega)).grown hg (by rw [World.size_alloc]; omega) hn1).other _ (by show T ≠ pb; omega) _
  · intro he
    have he' : gg = pb := by simpa [Value.ownBlock] using he
    subst he'
    rcases hat with h1 | h1
    · exact hn1 h1
    · omega
  · exact ((((hbel.drew).trans (hB2.mono (show T ≤ wr.heap.size by omega))).alloc (by omega) o).trans (hg3.mono (by omega))).setCell (Nat.le_refl _) _
  · simp [World.setCell]; omega
set_option maxRecDepth 100000 in
set_option maxHeartbeats 4000000 in
theorem newTables_calls (w : World) :
    Calls Tryz.prog 27 #[] w fun e w' =>
      ∃ t hb hc kb kc, e = .returned (.pointer (some ⟨t, 0, none⟩)) ∧ Tbl w' t hb hc kb kc ∧ w.heap.size ≤ t ∧ w.heap.size ≤ hb ∧ w.heap.size ≤ kb ∧ Below w.heap.size w w' := by
  obtain ⟨i0, hi0, hz0, hz1, hz2⟩ := info_parts Tryz.info3
  go_enter Tryz.func27, Tryz.ntmps27
  go_wp2_with fail
  refine (primes_calls _).mono ?_
  rintro e w1 ⟨v, rfl, hown, hB⟩
  obtain ⟨pb, pc, rfl, hp1, hp2, hp3, hp4⟩ := own_open hown (by decide)
  have hT := (Row.new w [.slice none 0 0, .slice none 0 0] 116)
  have hB0 := (Below.refl w.heap.size w).alloc (Nat.le_refl _) (.cells #[.slice none 0 0, .slice none 0 0] 116)
  have hs0 : (w.alloc (.cells #[.slice none 0 0, .slice none 0 0] 116)).heap.size = w.heap.size + 1 := by simp
  have hT1 : Row w1 w.heap.size [.slice none 0 0, .slice none 0 0] := hT.below hB (by simp)
  rw [hs0] at hp1
  have hB1 : Below w.heap.size w w1 := hB0.trans (hB.mono (by rw [hs0]; omega))
  have hP : IC w1 pb Tab.primes := fun j hj => by rw [hp3 j hj]; exact wi_get _ _ hj
  have hTS : TS w w1 w.heap.size pb (.slice none 0 0) (.slice none 0 0) 0 0 :=
    ⟨hT1, World.ownsRow_nil _ _ _ _, World.ownsRow_nil _ _ _ _, by simp [Value.ownBlock], hP, by simp [Value.ownBlock], by simp [Value.ownBlock], hB1, hp2, by omega⟩
  have A1 := Lib.hid hTS
  clear hT hB0 hown hp3 hp4 hB hT1 hB1 hP hs0 hp1 hTS
  go_wp2_with fail
  go_loopw [8] (fun v wr => ∃ (i : Nat) (hv kv : Value), i ≤ 64 ∧ v = .int .i64 i ∧ TS w wr w.heap.size pb hv kv (min i 8) i) (fun v _ => 64 - (intOf v).toNat)
  case atStart => exact ⟨0, _, _, by omega, rfl, A1.out⟩
  case round =>
    obtain ⟨i, hv, kv, hi, rfl, hTS⟩ := hrel
    have hr1 := hTS.row.cell 1
    have hf1 := hTS.row.free 1
    by_cases hlt : i < 64
    · have cp := hTS.prm i hlt
      have c3 := root3_at i hlt
      have c2 := root2_at i
      have hkt := wi_take Tab.K i hlt
      have hht := wi_take Tab.H i
      generalize Tab.dg Tab.primes i = p at cp c3 c2
      generalize hkk : Tab.dg Tab.K i = kk at c3 hkt
      generalize hhe : Tab.dg Tab.H i = hh at c2 hht
      have hO := hTS.ok
      obtain ⟨KT, hKT⟩ : ∃ KT, KT = wi (Tab.K.take i) := ⟨_, rfl⟩
      rw [← hKT] at hO
      have HKT := Lib.hid hKT
      have HO := Lib.hid hO
      have B5 := Lib.hid hkt
      have B6 := Lib.hid hht
      have B7 := Lib.hid hTS
      have B8 := Lib.hid c3
      have B9 := Lib.hid c2
      have hzs := hTS.bel.size
      have hTl := hTS.row.lt
      clear hTS hkt hht c2 c3 hkk hhe hO hKT
      have q1 : wr.drew.cell? ⟨w.heap.size, 1, none⟩ = some kv := hr1
      have q2 : wr.drew.frozen? ⟨w.heap.size, 1, none⟩ = false := hf1
      clear hr1 hf1
      go_upto_region 5 with fail
      go_cut [] (fun wc => ∃ kv', TS w wc w.heap.size pb hv kv' (min i 8) (i + 1))
      case first =>
        go_region_law
          (first
            | (go_simp; go_at_call 54; refine (B8.out _).mono ?_; rintro e w2 ⟨rfl, hB2⟩; have p1 := (hB2.cell (p := ⟨w.heap.size, 1, none⟩) hTl).trans q1; have p2 := (hB2.frozen (p := ⟨w.heap.size, 1, none⟩) hTl).trans q2; have hTl2 : w.heap.size < w2.heap.size := Nat.lt_of_lt_of_le hTl hB2.size; have p3 := (World.cell?_alloc_lt (o := .cells #[.int .i64 (kk : Nat)] 3) (w := w2) (a := ⟨w.heap.size, 1, none⟩) hTl2).trans p1; have p4 := (World.frozen?_alloc_past (w := w2) (.cells #[.int .i64 (kk : Nat)] 3) w.heap.size 1 hTl2).trans p2)
            | (refine step_append_lies _ (by rfl) _ _ _ (by rfl) (w.heap.size + 1) 3 i0 _ 1 8 Tryz.underlying25 hi0 hz0 hz1 hz2 rfl (by decide) kv i KT (by rfl) ((own_below HO.out.drew hB2 (Nat.le_refl _)).alloc _) ⟨w2.heap.size, 0, none⟩ 1 1 [.int .i64 (kk : Nat)] (by rfl) (by rfl) (World.news_of_block (cs := #[.int .i64 (kk : Nat)]) (t := 3) (fr := (0, 0)) (heap_alloc_new w2 _)) (by simp [Value.oneCell']) (by omega) (by unfold maxLen; omega) (by omega) (by have := hB2.size; simp at this ⊢; omega) (w2.heap.size + 1) (by simp) ?_; intro gg cap w3 hown3 hgrow3 hat3 hlt3; have hg3 := (Below.refl (w.heap.size + 1) (w2.alloc (.cells #[.int .i64 (kk : Nat)] 3))).grown hgrow3 (by rw [World.size_alloc]; omega) (fun k hk => (HO.out.lt k hk).1); have p5 := (hg3.cell (p := ⟨w.heap.size, 1, none⟩) (Nat.lt_succ_self _)).trans p3; have p6 := (hg3.frozen (p := ⟨w.heap.size, 1, none⟩) (Nat.lt_succ_self _)).trans p4))
        all_goals
          go_wp2_with fail
          go_meet
          case rel => exact ⟨_, B7.out.appK hB2 _ hgrow3 (by rw [← HKT.out]; exact hown3) hat3 B5.out⟩
      case rest =>
        clear q1 q2 B5 B7 B8 HO HKT
        obtain ⟨kv', hTS⟩ := hcut
        by_cases h8 : i < 8
        · have hr1 := hTS.row.cell 0
          have hf1 := hTS.row.free 0
          have hO := hTS.oh
          have hmin : min i 8 = i := by omega
          have hmin1 : min (i + 1) 8 = i + 1 := by omega
          rw [hmin] at hO hTS
          obtain ⟨HT, hHT⟩ : ∃ HT, HT = wi (Tab.H.take i) := ⟨_, rfl⟩
          rw [← hHT] at hO
          have HKT := Lib.hid hHT
          have HO := Lib.hid hO
          have B7 := Lib.hid hTS
          have B5 := Lib.hid (B6.out h8)
          have B8 := Lib.hid (B9.out h8)
          have hzs := hTS.bel.size
          have hTl := hTS.row.lt
          have hM := Lib.hid hmin1
          clear hTS hO hHT B6 B9 hmin hmin1
          have q1 : wc.drew.cell? ⟨w.heap.size, 0, none⟩ = some hv := hr1
          have q2 : wc.drew.frozen? ⟨w.heap.size, 0, none⟩ = false := hf1
          clear hr1 hf1
          go_wp2_with fail
          go_region_law
            (first
              | (go_simp; go_at_call 54; refine (B8.out _).mono ?_; rintro e w2 ⟨rfl, hB2⟩; have p1 := (hB2.cell (p := ⟨w.heap.size, 0, none⟩) hTl).trans q1; have p2 := (hB2.frozen (p := ⟨w.heap.size, 0, none⟩) hTl).trans q2; have hTl2 : w.heap.size < w2.heap.size := Nat.lt_of_lt_of_le hTl hB2.size; have p3 := (World.cell?_alloc_lt (o := .cells #[.int .i64 (hh : Nat)] 3) (w := w2) (a := ⟨w.heap.size, 0, none⟩) hTl2).trans p1; have p4 := (World.frozen?_alloc_past (w := w2) (.cells #[.int .i64 (hh : Nat)] 3) w.heap.size 0 hTl2).trans p2)
              | (refine step_append_lies _ (by rfl) _ _ _ (by rfl) (w.heap.size + 1) 3 i0 _ 1 8 Tryz.underlying25 hi0 hz0 hz1 hz2 rfl (by decide) hv i HT (by rfl) ((own_below HO.out.drew hB2 (Nat.le_refl _)).alloc _) ⟨w2.heap.size, 0, none⟩ 1 1 [.int .i64 (hh : Nat)] (by rfl) (by rfl) (World.news_of_block (cs := #[.int .i64 (hh : Nat)]) (t := 3) (fr := (0, 0)) (heap_alloc_new w2 _)) (by simp [Value.oneCell']) (by omega) (by unfold maxLen; omega) (by omega) (by have := hB2.size; simp at this ⊢; omega) (w2.heap.size + 1) (by simp) ?_; intro gg cap w3 hown3 hgrow3 hat3 hlt3; have hg3 := (Below.refl (w.heap.size + 1) (w2.alloc (.cells #[.int .i64 (hh : Nat)] 3))).grown hgrow3 (by rw [World.size_alloc]; omega) (fun k hk => (HO.out.lt k hk).1); have p5 := (hg3.cell (p := ⟨w.heap.size, 0, none⟩) (Nat.lt_succ_self _)).trans p3; have p6 := (hg3.frozen (p := ⟨w.heap.size, 0, none⟩) (Nat.lt_succ_self _)).trans p4))
          all_goals
            go_wp2_with fail
            go_roundw
            case rel => exact ⟨i + 1, _, kv', by omega, by go_num, by rw [hM.out]; exact B7.out.appH hB2 _ hgrow3 (by rw [← HKT.out]; exact hown3) hat3 B5.out⟩
            case measure => simp [intOf]; omega
        · have hmin : min i 8 = 8 := by omega
          have hmin1 : min (i + 1) 8 = 8 := by omega
          rw [hmin] at hTS
          have hM := Lib.hid hmin1
          have B7 := Lib.hid hTS
          clear B6 B9 hmin hmin1 hTS
          go_wp2_with fail
          go_roundw
          case rel => exact ⟨i + 1, hv, kv', by omega, by go_num, by rw [hM.out]; exact B7.out⟩
          case measure => simp [intOf]; omega
    · obtain rfl : i = 64 := by omega
      have hTS' : TS w wr w.heap.size pb hv kv 8 64 := hTS
      have B7 := Lib.hid hTS'
      clear hTS hTS' hr1 hf1
      rw [show ((64 : Nat) : Int) = 64 from rfl]
      go_wp2_with fail
      go_ret
      obtain ⟨hrow, hoh, hok, _, _, _, _, hbel, _, _⟩ := B7.out
      obtain ⟨hb, hc, rfl, h1, h2, h3, h4⟩ := own_open hoh (by decide)
      obtain ⟨kb, kc, rfl, k1, k2, k3, k4⟩ := own_open hok (by decide)
      refine ⟨w.heap.size, hb, hc, kb, kc, rfl, ⟨hrow.cell 0, hrow.cell 1, fun j hj => ?_, fun j hj => ?_⟩, Nat.le_refl _, by omega, by omega, hbel⟩
      · rw [h3 j hj]; exact wi_get _ _ hj
      · rw [k3 j hj]; exact wi_get _ _ hj
end Go.Proofs.YtlpcjiollnnmgabGreatDoor
