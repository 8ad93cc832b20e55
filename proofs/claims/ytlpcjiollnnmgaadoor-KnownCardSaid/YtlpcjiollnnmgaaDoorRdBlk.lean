/-
  THE REFERENCE's READERS OF MANY, WALKED: txs, Block, index, Request, joined.
-/
import Derived.Test.YtlpcjiollnnmgaaDoorRdTx
import Derived.Test.YtlpcjiollnnmgaaDoorRfBlk
import Derived.Test.YtlpcjiollnnmgaaDoorJoin
set_option maxRecDepth 100000
namespace Go.Proofs.YtlpcjiollnnmgaaDoor
open Go.RowKit Nums
/-- a value that is a slice of its own, and the reader as it stands then -/
def RSO (t : TypeId) (n : Nat) (xs : List Value) (st : Rf.St) (b : Nat) (w : World) (e : Ending) (w' : World) : Prop := ∃ v, e = .returned v ∧ w'.ownsRow w.heap.size t 1 v n xs ∧ Rd w' b st ∧ But w.heap.size b w w'
theorem rtxs_succ (n : Nat) (st : Rf.St) (h : st.2 = 0) : Rf.txs (n + 1) st = ((Rf.tx st).1 :: (Rf.txs n (Rf.tx st).2).1, (Rf.txs n (Rf.tx st).2).2) := by
  rw [Rf.txs, if_neg (by omega)]
namespace Rf
theorem script_le (s : St) : (script s).1.length ≤ s.1.length := by
  unfold script; exact Nat.le_trans (take_le _ _) (within_le _ _ _)
theorem inp_le (s : St) : (inp s).1.length ≤ s.1.length := by
  unfold inp; exact Nat.le_trans (take_le 4 _) (Nat.le_trans (script_le _) (take_le 36 s))
theorem outp_le (s : St) : (outp s).1.length ≤ s.1.length := by
  unfold outp; exact Nat.le_trans (script_le _) (take_le 8 s)
theorem rep_le (f : St → St) (hf : ∀ s : St, (f s).1.length ≤ s.1.length) : ∀ (n : Nat) (s : St), (rep f n s).1.length ≤ s.1.length
  | 0, _ => Nat.le_refl _
  | n + 1, s => by rw [rep]; exact Nat.le_trans (rep_le f hf n _) (hf s)
theorem ins_le (s : St) : (ins s).1.length ≤ s.1.length := by
  unfold ins; exact Nat.le_trans (rep_le inp inp_le _ _) (within_le 1 4 s)
theorem outs_le (s : St) : (outs s).1.length ≤ s.1.length := by
  unfold outs; exact Nat.le_trans (rep_le outp outp_le _ _) (within_le 1 4 s)
theorem body_le (s : St) : (body s).1.length ≤ s.1.length := by
  unfold body; exact Nat.le_trans (take_le 4 _) (Nat.le_trans (outs_le _) (Nat.le_trans (ins_le _) (take_le 4 s)))
end Rf
set_option maxHeartbeats 2000000 in
theorem rtxs_calls (b n : Nat) (st : Rf.St) (w : World) (hr : Rd w b st) (hl : st.1.length ≤ 9223372036854775807) (hn : n ≤ 1000) :
    Calls Tryd.prog 75 #[.pointer (some ⟨b, 0, none⟩), .int .i64 n] w (RSO 9 (Rf.txs n st).1.length (wt (Rf.txs n st).1) (Rf.txs n st).2 b w) := by
  obtain ⟨i0, hi0, hz0, hz1, hz2⟩ := info_parts infoStr
  have HI := Lib.hid hi0
  have hb := hr.lt
  have HR := Lib.hid hr
  clear hr hi0
  obtain ⟨q, hq⟩ : ∃ q, Rf.txs n st = q := ⟨_, rfl⟩
  rw [hq]
  have HQ := Lib.hid hq
  clear hq
  go_enter Tryd.func75, Tryd.ntmps75
  go_wp2_with fail
  go_loopw [1, 5] (fun iv sv wr => ∃ (i : Nat) (ts : List (List UInt8)) (sti : Rf.St), i ≤ n ∧ iv = .int .i64 i ∧ ts.length + i = n ∧ wr.ownsRow w.heap.size 9 1 sv ts.length (wt ts) ∧ Rd wr b sti ∧ But w.heap.size b w wr ∧ sti.1.length ≤ st.1.length ∧ q = (ts ++ (Rf.txs i sti).1, (Rf.txs i sti).2)) (fun iv _ _ => (intOf iv).toNat)
  case atStart => exact ⟨n, [], st, by omega, rfl, by simp, World.ownsRow_nil _ _ _ _, HR.out, But.refl _ _ _, Nat.le_refl _, by rw [← HQ.out]; simp⟩
  case round =>
    obtain ⟨i, ts, sti, hi, rfl, hti, hown, hcur, hB, hle, hE⟩ := hrel
    have A1 := Lib.hid hown
    have A2 := Lib.hid hB
    have A3 := Lib.hid hcur
    have A4 := Lib.hid hE
    have hzr := hB.size
    have hc := hcur.cell 1
    rw [show [Value.string (str sti.1), .int .i64 (sti.2 : Int)][1]? = some (.int .i64 (sti.2 : Int)) from rfl] at hc
    clear hown hB hcur hE
    by_cases hlt : 0 < i
    · have p1 : (i : Int) > 0 := by omega
      by_cases he : sti.2 = 0
      · have p2 : (sti.2 : Int) = 0 := by omega
        have E1 := Lib.hid (show q = ((ts ++ [(Rf.tx sti).1]) ++ (Rf.txs (i - 1) (Rf.tx sti).2).1, (Rf.txs (i - 1) (Rf.tx sti).2).2) by
          rw [A4.out, show i = (i - 1) + 1 by omega, rtxs_succ _ _ he]; simp)
        have T1 := Lib.hid (rtx_calls b sti wr A3.out (by omega))
        have hl2 := Rf.body_le sti
        have hl2' : (Rf.tx sti).2.1.length ≤ sti.1.length := hl2
        have hmx : ts.length < 1000 := by omega
        have hti' := Lib.hid hti
        clear A3 A4 hti hl2
        obtain ⟨p, hp⟩ : ∃ p, Rf.tx sti = p := ⟨_, rfl⟩
        rw [hp] at T1 E1 hl2'
        obtain ⟨t, st2⟩ := p
        dsimp only at hl2'
        clear hp
        go_wp2_with fail
        refine T1.out.mono ?_
        rintro e w2 ⟨rfl, h3, h4⟩
        have B1 := Lib.hid (ownN_but A1.out h4 hb)
        have B2 := Lib.hid (A2.out.trans (h4.mono hzr))
        have R2 := Lib.hid (show Rd w2 b st2 from h3)
        have hz2' := B2.out.size
        clear h3 h4 A1 A2 T1 hc
        go_wp2_with (at_builtin; refine wpList_append_own _ rfl _ _ 26 rfl w.heap.size 9 i0 (.string ByteArray.empty) 1 16 Tryd.underlying26 HI.out hz0 hz1 hz2 rfl (by decide) _ _ _ rfl (B1.out.alloc _) ⟨w2.heap.size, 0, none⟩ 1 1 [.string (str t)] rfl rfl (cell_one_new _ _ _) (wt_one [t]) (by unfold maxLen; omega) (by omega) (by rw [World.size_alloc]; omega) ?_; intro uv2 w3 hown3 hgr3 _; have hbl : Below w.heap.size w2 w3 := ((Below.refl w.heap.size w2).alloc hz2' _).grown hgr3 (by rw [World.size_alloc]; omega) (fun k hk => (B1.out.lt k hk).1); have H1 := Lib.hid hown3; have H2 := Lib.hid hbl; clear hown3 hgr3 hbl)
        go_roundw
        case rel => exact ⟨i - 1, ts ++ [t], st2, by omega, by go_num, by rw [List.length_append]; have := hti'.out; simp; omega, by rw [List.length_append, ← wt_snoc]; exact H1.out, R2.out.below H2.out hb, B2.out.trans (But.of_below H2.out), by omega, E1.out⟩
        case measure => simp [intOf]; omega
      · have p2 : ¬ (sti.2 : Int) = 0 := by omega
        have E1 := Lib.hid (show q = (ts, sti) by rw [A4.out, Rf.txs_bad _ _ he]; simp)
        go_wp2_with fail
        go_ret
        rw [E1.out]
        exact ⟨_, rfl, A1.out, A3.out, A2.out⟩
    · obtain rfl : i = 0 := by omega
      have E1 := Lib.hid (show q = (ts, sti) by rw [A4.out]; simp [Rf.txs])
      go_wp2_with fail
      go_ret
      rw [E1.out]
      exact ⟨_, rfl, A1.out, A3.out, A2.out⟩
/-- the reference's Block -/
theorem rblock_calls (l : List UInt8) (w : World) (hl : l.length ≤ 9223372036854775807) :
    Calls Tryd.prog 42 #[.string (str l)] w fun e w' => ∃ v, e = .returned (.tuple #[.string (str (Rf.blk 80 l).1.1), v, .int .i64 (Rf.done (Rf.blk 80 l).2 : Int)]) ∧ w'.ownsRow w.heap.size 9 1 v (Rf.blk 80 l).1.2.length (wt (Rf.blk 80 l).1.2) ∧ Below w.heap.size w w' := by
  obtain ⟨q, hq⟩ : ∃ q, Rf.blk 80 l = q := ⟨_, rfl⟩
  rw [hq]
  have HQ := Lib.hid (show ((( Rf.take 80 (l, 0)).1, (Rf.txs (Rf.within 1 16 (Rf.take 80 (l, 0)).2).1 (Rf.within 1 16 (Rf.take 80 (l, 0)).2).2).1), (Rf.txs (Rf.within 1 16 (Rf.take 80 (l, 0)).2).1 (Rf.within 1 16 (Rf.take 80 (l, 0)).2).2).2) = q from hq)
  clear hq
  have hR : Rd (w.alloc (.cells #[.string (str l), .int .i64 0] 71)) w.heap.size (l, 0) := Row.new w [.string (str l), .int .i64 0] 71
  have hB : Below w.heap.size w (w.alloc (.cells #[.string (str l), .int .i64 0] 71)) := (Below.refl _ _).alloc (Nat.le_refl _) _
  go_enter Tryd.func42, Tryd.ntmps42
  go_wp2_with fail
  generalize w.alloc _ = w1 at hR hB ⊢
  have B1 := Lib.hid hB
  have hz := hR.lt
  have T1 := Lib.hid (rtake_calls w.heap.size 80 (l, 0) w1 hR (by omega))
  have l1 := Rf.take_le 80 (l, 0)
  clear hR hB
  obtain ⟨p, hp⟩ : ∃ p, Rf.take 80 (l, 0) = p := ⟨_, rfl⟩
  rw [hp] at T1 l1 HQ
  clear hp
  obtain ⟨t1, st1⟩ := p
  dsimp only at HQ l1
  refine T1.out.mono ?_
  clear T1
  rintro e w2 ⟨rfl, h3, h4⟩
  have z2 := h4.size
  have B2 := Lib.hid (show Below w.heap.size w w2 from B1.out.trans ⟨h4.os, h4.tape, h4.output, h4.size, fun k hk => h4.block k (by omega) (by omega)⟩)
  have T2 := Lib.hid (rwithin_calls w.heap.size 1 16 st1 w2 h3 (by omega) (by omega))
  have l2 := Rf.within_le 1 16 st1
  have hn := Rf.within_hi 1 16 st1
  clear h3 h4 B1
  obtain ⟨p, hp⟩ : ∃ p, Rf.within 1 16 st1 = p := ⟨_, rfl⟩
  rw [hp] at T2 l2 hn HQ
  clear hp
  obtain ⟨n, st2⟩ := p
  dsimp only at HQ l2 hn
  go_wp2_with fail
  refine T2.out.mono ?_
  clear T2
  rintro e w3 ⟨rfl, h3, h4⟩
  have z3 := h4.size
  have B3 := Lib.hid (show Below w.heap.size w w3 from B2.out.trans ⟨h4.os, h4.tape, h4.output, h4.size, fun k hk => h4.block k (by omega) (by omega)⟩)
  have T3 := Lib.hid (rtxs_calls w.heap.size n st2 w3 h3 (by omega) (by omega))
  clear h3 h4 B2
  obtain ⟨p, hp⟩ : ∃ p, Rf.txs n st2 = p := ⟨_, rfl⟩
  rw [hp] at T3 HQ
  clear hp
  obtain ⟨ts, st3⟩ := p
  dsimp only at HQ T3
  go_wp2_with fail
  refine T3.out.mono ?_
  clear T3
  rintro e w4 ⟨v, rfl, ho, h3, h4⟩
  have z4 := h4.size
  have B4 := Lib.hid (show Below w.heap.size w w4 from B3.out.trans ⟨h4.os, h4.tape, h4.output, h4.size, fun k hk => h4.block k (by omega) (by omega)⟩)
  have O4 := Lib.hid ho
  have T4 := Lib.hid (rdone_calls w.heap.size st3 w4 h3)
  clear h3 h4 B3 ho
  go_wp2_with fail
  refine T4.out.mono ?_
  clear T4
  rintro e w5 ⟨rfl, h4⟩
  have z5 := h4.size
  have B5 := Lib.hid (show Below w.heap.size w w5 from B4.out.trans ⟨h4.os, h4.tape, h4.output, h4.size, fun k hk => h4.block k (by omega) (by omega)⟩)
  have O5 := Lib.hid (ownN_but O4.out h4 (by omega))
  clear h4 B4 O4
  go_wp2_with fail
  rw [← HQ.out]
  refine bodyPost_ret (results_tmp3 rfl _ _ _) rfl ?_
  exact ⟨v, rfl, ownN_le O5.out (by omega), B5.out⟩
def Rf.ixq (nx B : Nat) (p : Nat × Rf.St) : Rf.St := if p.2.2 = 0 ∧ (B ≤ p.1 ∨ B ≤ nx + p.1) then Rf.wrong 4 p.2 else p.2
theorem rindex_calls (b nx B : Nat) (st : Rf.St) (w : World) (hr : Rd w b st) (h1 : nx ≤ 1000) (h2 : B ≤ 1000) :
    Calls Tryd.prog 76 #[.pointer (some ⟨b, 0, none⟩), .int .i64 nx, .int .i64 B] w (RS (Rf.index nx B st) (fun n => .int .i64 (n : Int)) b w) := by
  have T1 := Lib.hid (rsize_calls b st w hr)
  have e2 : IntKind.u64.wrap (B : Int) = B := by rw [u64_wrap, U_nat]; omega
  have e2' : U (toU (B : Int)) = (B : Int) := by rw [U_toU]; omega
  have EQ := Lib.hid (show Rf.index nx B st = if (Rf.ixq nx B (Rf.size st)).2 ≠ 0 then (0, Rf.ixq nx B (Rf.size st)) else (nx + (Rf.size st).1, Rf.ixq nx B (Rf.size st)) from rfl)
  clear hr
  go_enter Tryd.func76, Tryd.ntmps76
  go_wp2_with fail
  refine T1.out.mono ?_
  clear T1
  generalize Rf.size st = p at EQ ⊢
  obtain ⟨x, l, e⟩ := p
  rintro e w1 ⟨rfl, h3, h4⟩
  have hc := h3.cell 1
  have R1 := Lib.hid h3
  have B1 := Lib.hid h4
  dsimp only at hc EQ
  clear h3 h4
  by_cases he : e = 0
  · subst he
    by_cases c1 : B ≤ x
    · have p1 : (x : Int) ≥ (B : Int) := by omega
      have E := Lib.hid (show Rf.index nx B st = (0, (l, 4)) by rw [EQ.out, show Rf.ixq nx B (x, l, 0) = (l, 4) by unfold Rf.ixq; rw [if_pos ⟨rfl, .inl c1⟩]; rfl]; rfl)
      go_wp2_with fail
      refine (wrong_calls b 4 (l, 0) w1 R1.out).mono ?_
      rintro e w2 ⟨rfl, h5, h6⟩
      have hc := h5.cell 1
      dsimp only [Rf.wrong] at hc
      go_wp2_with fail
      go_ret
      exact RS.mk E.out h5 (B1.out.trans (h6.mono B1.out.size))
    · have p1 : ¬ (x : Int) ≥ (B : Int) := by omega
      have e3 : IntKind.i64.wrap (x : Int) = x := IntWalk.i64_in _ (by omega)
      by_cases c2 : B ≤ nx + x
      · have p2 : (x : Int) + (nx : Int) ≥ (B : Int) := by omega
        have E := Lib.hid (show Rf.index nx B st = (0, (l, 4)) by rw [EQ.out, show Rf.ixq nx B (x, l, 0) = (l, 4) by unfold Rf.ixq; rw [if_pos ⟨rfl, .inr c2⟩]; rfl]; rfl)
        go_wp2_with fail
        refine (wrong_calls b 4 (l, 0) w1 R1.out).mono ?_
        rintro e w2 ⟨rfl, h5, h6⟩
        have hc := h5.cell 1
        dsimp only [Rf.wrong] at hc
        go_wp2_with fail
        go_ret
        exact RS.mk E.out h5 (B1.out.trans (h6.mono B1.out.size))
      · have p2 : ¬ (x : Int) + (nx : Int) ≥ (B : Int) := by omega
        have E := Lib.hid (show Rf.index nx B st = (nx + x, (l, 0)) by rw [EQ.out, show Rf.ixq nx B (x, l, 0) = (l, 0) by unfold Rf.ixq; rw [if_neg (by rintro ⟨_, h | h⟩ <;> (dsimp only at h; omega))]]; rfl)
        go_wp2_with fail
        go_ret
        exact RS.mk E.out R1.out B1.out
  · have p1 : ¬ (e : Int) = 0 := by omega
    have E := Lib.hid (show Rf.index nx B st = (0, (l, e)) by rw [EQ.out, show Rf.ixq nx B (x, l, e) = (l, e) by unfold Rf.ixq; rw [if_neg (fun h => he h.1)], if_pos he])
    go_wp2_with fail
    go_ret
    exact RS.mk E.out R1.out B1.out
theorem rindex_le (nx B : Nat) (st : Rf.St) : (Rf.index nx B st).1 ≤ B := by
  have EQ : Rf.index nx B st = if (Rf.ixq nx B (Rf.size st)).2 ≠ 0 then (0, Rf.ixq nx B (Rf.size st)) else (nx + (Rf.size st).1, Rf.ixq nx B (Rf.size st)) := rfl
  rw [EQ]
  split
  · exact Nat.zero_le _
  · rename_i h
    dsimp only
    by_cases hc : B ≤ (Rf.size st).1 ∨ B ≤ nx + (Rf.size st).1
    · by_cases h0 : (Rf.size st).2.2 = 0
      · refine absurd ?_ h
        unfold Rf.ixq; rw [if_pos ⟨h0, hc⟩]; unfold Rf.wrong; rw [if_pos h0]; exact (by decide : (4 : Nat) ≠ 0)
      · refine absurd ?_ h
        unfold Rf.ixq; rw [if_neg (fun hh => h0 hh.1)]; exact h0
    · omega
set_option maxHeartbeats 2000000 in
/-- the reference's Request -/
theorem rreq_calls (l : List UInt8) (w : World) :
    Calls Tryd.prog 43 #[.string (str l)] w fun e w' => ∃ v, e = .returned (.tuple #[.string (str (Rf.req l).1.1), v, .int .i64 (Rf.done (Rf.req l).2 : Int)]) ∧ w'.ownsRow w.heap.size 3 1 v (Rf.req l).1.2.length (wns (Rf.req l).1.2) ∧ Below w.heap.size w w' := by
  obtain ⟨i0, hi0, hz0, hz1, hz2⟩ := info_parts infoInt3
  have HI := Lib.hid hi0
  clear hi0
  obtain ⟨q, hq⟩ : ∃ q, Rf.req l = q := ⟨_, rfl⟩
  rw [hq]
  have HQ := Lib.hid (show ((( Rf.take 32 (l, 0)).1, (Rf.indexes 16 (Rf.within 1 16 (Rf.take 32 (l, 0)).2).1 0 (Rf.within 1 16 (Rf.take 32 (l, 0)).2).2).1), (Rf.indexes 16 (Rf.within 1 16 (Rf.take 32 (l, 0)).2).1 0 (Rf.within 1 16 (Rf.take 32 (l, 0)).2).2).2) = q from hq)
  clear hq
  have hR : Rd (w.alloc (.cells #[.string (str l), .int .i64 0] 71)) w.heap.size (l, 0) := Row.new w [.string (str l), .int .i64 0] 71
  have hB : Below w.heap.size w (w.alloc (.cells #[.string (str l), .int .i64 0] 71)) := (Below.refl _ _).alloc (Nat.le_refl _) _
  go_enter Tryd.func43, Tryd.ntmps43
  go_wp2_with fail
  generalize w.alloc _ = w1 at hR hB ⊢
  have B1 := Lib.hid hB
  have hz := hR.lt
  have T1 := Lib.hid (rtake_calls w.heap.size 32 (l, 0) w1 hR (by omega))
  clear hR hB
  obtain ⟨p, hp⟩ : ∃ p, Rf.take 32 (l, 0) = p := ⟨_, rfl⟩
  rw [hp] at T1 HQ
  clear hp
  obtain ⟨t1, st1⟩ := p
  dsimp only at HQ
  refine T1.out.mono ?_
  clear T1
  rintro e w2 ⟨rfl, h3, h4⟩
  have z2 := h4.size
  have B2 := Lib.hid (show Below w.heap.size w w2 from B1.out.trans ⟨h4.os, h4.tape, h4.output, h4.size, fun k hk => h4.block k (by omega) (by omega)⟩)
  have T2 := Lib.hid (rwithin_calls w.heap.size 1 16 st1 w2 h3 (by omega) (by omega))
  have hn := Rf.within_hi 1 16 st1
  clear h3 h4 B1
  obtain ⟨p, hp⟩ : ∃ p, Rf.within 1 16 st1 = p := ⟨_, rfl⟩
  rw [hp] at T2 hn HQ
  clear hp
  obtain ⟨n, st2⟩ := p
  dsimp only at HQ hn
  go_wp2_with fail
  refine T2.out.mono ?_
  clear T2
  rintro e w3 ⟨rfl, h3, h4⟩
  have z3 := h4.size
  have B3 := Lib.hid (show Below w.heap.size w w3 from B2.out.trans ⟨h4.os, h4.tape, h4.output, h4.size, fun k hk => h4.block k (by omega) (by omega)⟩)
  have R3 := Lib.hid (show Rd w3 w.heap.size st2 from h3)
  have hlt3 := h3.lt
  clear h3 h4 B2
  go_wp2_with fail
  go_loopw [7, 8, 9] (fun sv nv iv wr => ∃ (i nx : Nat) (is : List Nat) (sti : Rf.St), i ≤ n ∧ nx ≤ 17 ∧ iv = .int .i64 i ∧ nv = .int .i64 nx ∧ is.length + i = n ∧ wr.ownsRow w3.heap.size 3 1 sv is.length (wns is) ∧ Rd wr w.heap.size sti ∧ But w3.heap.size w.heap.size w3 wr ∧ q = ((t1, is ++ (Rf.indexes 16 i nx sti).1), (Rf.indexes 16 i nx sti).2)) (fun _ _ iv _ => (intOf iv).toNat)
  case atStart => exact ⟨n, 0, [], st2, by omega, by omega, rfl, rfl, by simp, World.ownsRow_nil _ _ _ _, R3.out, But.refl _ _ _, by rw [← HQ.out]; simp⟩
  case round =>
    obtain ⟨i, nx, is, sti, hi, hnx, rfl, rfl, hti, hown, hcur, hB, hE⟩ := hrel
    have A1 := Lib.hid hown
    have A2 := Lib.hid hB
    have A3 := Lib.hid hcur
    have A4 := Lib.hid hE
    have hzr := hB.size
    have hc := hcur.cell 1
    rw [show [Value.string (str sti.1), .int .i64 (sti.2 : Int)][1]? = some (.int .i64 (sti.2 : Int)) from rfl] at hc
    clear hown hB hcur hE
    have N1 := Lib.hid (show Below w.heap.size w wr from B3.out.trans ⟨A2.out.os, A2.out.tape, A2.out.output, A2.out.size, fun k hk => A2.out.block k (by omega) (by omega)⟩)
    by_cases hgo : 0 < i ∧ sti.2 = 0
    · obtain ⟨hlt, he⟩ := hgo
      have p1 : (i : Int) > 0 := by omega
      have p2 : (sti.2 : Int) = 0 := by omega
      have E1 := Lib.hid (show q = ((t1, (is ++ [(Rf.index nx 16 sti).1]) ++ (Rf.indexes 16 (i - 1) ((Rf.index nx 16 sti).1 + 1) (Rf.index nx 16 sti).2).1), (Rf.indexes 16 (i - 1) ((Rf.index nx 16 sti).1 + 1) (Rf.index nx 16 sti).2).2) by
        rw [A4.out, show i = (i - 1) + 1 by omega, Rf.indexes, if_neg (by omega)]; simp)
      have T1 := Lib.hid (rindex_calls w.heap.size nx 16 sti wr A3.out (by omega) (by omega))
      have hx16 := rindex_le nx 16 sti
      have hmx : is.length < 1000 := by omega
      have hti' := Lib.hid hti
      clear A3 A4 hti
      obtain ⟨p, hp⟩ : ∃ p, Rf.index nx 16 sti = p := ⟨_, rfl⟩
      rw [hp] at T1 E1 hx16
      obtain ⟨x, st4⟩ := p
      dsimp only at hx16
      clear hp
      go_wp2_with fail
      refine T1.out.mono ?_
      rintro e w5 ⟨rfl, h3, h4⟩
      have C1 := Lib.hid (ownN_but A1.out h4 (by omega))
      have C2 := Lib.hid (A2.out.trans (h4.mono hzr))
      have R2 := Lib.hid (show Rd w5 w.heap.size st4 from h3)
      have hz2' := C2.out.size
      clear h3 h4 A1 A2 T1 hc N1
      go_wp2_with (at_builtin; refine wpList_append_own _ rfl _ _ 45 rfl w3.heap.size 3 i0 (.int .i64 0) 1 8 Tryd.underlying45 HI.out hz0 hz1 hz2 rfl (by decide) _ _ _ rfl (C1.out.alloc _) ⟨w5.heap.size, 0, none⟩ 1 1 [.int .i64 (x : Int)] rfl rfl (cell_one_new _ _ _) (fun u hu => by simp at hu; subst hu; rfl) (by unfold maxLen; omega) (by omega) (by rw [World.size_alloc]; omega) ?_; intro uv2 w6 hown3 hgr3 _; have hbl : Below w3.heap.size w5 w6 := ((Below.refl w3.heap.size w5).alloc hz2' _).grown hgr3 (by rw [World.size_alloc]; omega) (fun k hk => (C1.out.lt k hk).1); have H1 := Lib.hid hown3; have H2 := Lib.hid hbl; clear hown3 hgr3 hbl)
      go_roundw
      case rel => exact ⟨i - 1, x + 1, is ++ [x], st4, by omega, by omega, by go_num, by go_num, by rw [List.length_append]; have := hti'.out; simp; omega, by rw [List.length_append, ← wns_snoc]; exact H1.out, R2.out.below H2.out hlt3, C2.out.trans (But.of_below H2.out), E1.out⟩
      case measure => simp [intOf]; omega
    · have E1 := Lib.hid (show q = ((t1, is), sti) by
        rw [A4.out]
        by_cases h0 : 0 < i
        · rw [Rf.indexes_bad _ _ _ _ (fun h => hgo ⟨h0, h⟩)]; simp
        · obtain rfl : i = 0 := by omega
          simp [Rf.indexes])
      have T1 := Lib.hid (rdone_calls w.heap.size sti wr A3.out)
      by_cases h0 : 0 < i
      · have p1 : (i : Int) > 0 := by omega
        have p2 : ¬ (sti.2 : Int) = 0 := by omega
        go_wp2_with fail
        refine T1.out.mono ?_
        rintro e w5 ⟨rfl, h4⟩
        have z5 := h4.size
        have N2 := Lib.hid (show Below w.heap.size w w5 from N1.out.trans ⟨h4.os, h4.tape, h4.output, h4.size, fun k hk => h4.block k (by omega) (by omega)⟩)
        have O5 := Lib.hid (ownN_but A1.out h4 (by omega))
        clear h4
        go_wp2_with fail
        rw [E1.out]
        refine bodyPost_ret (results_tmp3 rfl _ _ _) rfl ?_
        exact ⟨_, rfl, ownN_le O5.out (by omega), N2.out⟩
      · obtain rfl : i = 0 := by omega
        go_wp2_with fail
        refine T1.out.mono ?_
        rintro e w5 ⟨rfl, h4⟩
        have z5 := h4.size
        have N2 := Lib.hid (show Below w.heap.size w w5 from N1.out.trans ⟨h4.os, h4.tape, h4.output, h4.size, fun k hk => h4.block k (by omega) (by omega)⟩)
        have O5 := Lib.hid (ownN_but A1.out h4 (by omega))
        clear h4
        go_wp2_with fail
        rw [E1.out]
        refine bodyPost_ret (results_tmp3 rfl _ _ _) rfl ?_
        exact ⟨_, rfl, ownN_le O5.out (by omega), N2.out⟩
end Go.Proofs.YtlpcjiollnnmgaaDoor
