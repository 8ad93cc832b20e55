/-
  THE REFERENCE's READER OF A TRANSACTION: within, done, tx; compactref.Tx.
-/
import Derived.Test.YtlpcjiollnnmgabGreatDoorRd
set_option maxRecDepth 100000
namespace Go.Proofs.YtlpcjiollnnmgabGreatDoor
open Go.RowKit Nums
namespace Rf
theorem take_le (n : Nat) (st : St) : (take n st).2.1.length ≤ st.1.length := by
  unfold take
  split
  · exact Nat.le_refl _
  · split
    · exact Nat.le_refl _
    · simp
theorem wrong_le (n : Nat) (st : St) : (wrong n st).1 = st.1 := by unfold wrong; split <;> rfl
theorem sizeMore_le (b : UInt8) (st : St) : (sizeMore b st).2.1.length ≤ st.1.length := by
  have h := take_le (Wr.more b) st
  unfold sizeMore
  dsimp only
  split
  · rw [wrong_le]; exact h
  · exact h
theorem size_le (st : St) : (size st).2.1.length ≤ st.1.length := by
  have h := take_le 1 st
  unfold size
  dsimp only
  split
  · exact h
  · split
    · exact h
    · exact Nat.le_trans (sizeMore_le _ _) h
theorem bound_le (lo hi : Nat) (p : Nat × St) : (bound lo hi p).1 = p.2.1 := by
  unfold bound; split
  · exact wrong_le _ _
  · rfl
theorem within_le (lo hi : Nat) (st : St) : (within lo hi st).2.1.length ≤ st.1.length := by
  have h := size_le st
  unfold within
  dsimp only
  split <;> (dsimp only; rw [bound_le]; exact h)
theorem within_hi (lo hi : Nat) (st : St) : (within lo hi st).1 ≤ hi := by
  unfold within
  dsimp only
  split
  · exact Nat.zero_le _
  · rename_i h
    dsimp only
    unfold bound at h
    split at h
    · rename_i h2
      exact absurd (show (wrong 3 (size st).2).2 ≠ 0 by unfold wrong; rw [if_pos h2.1]; exact (by decide : (3 : Nat) ≠ 0)) h
    · rename_i h2
      by_cases hh : hi < (size st).1
      · exact absurd ⟨by omega, .inr hh⟩ h2
      · omega
end Rf
theorem rwithin_calls (b lo hi : Nat) (st : Rf.St) (w : World) (hr : Rd w b st) (h1 : lo < 4611686018427387904) (h2 : hi < 4611686018427387904) :
    Calls Tryz.prog 127 #[.pointer (some ⟨b, 0, none⟩), .int .i64 lo, .int .i64 hi] w (RS (Rf.within lo hi st) (fun n => .int .i64 (n : Int)) b w) := by
  have T1 := Lib.hid (rsize_calls b st w hr)
  have e1 : IntKind.u64.wrap (lo : Int) = lo := by rw [u64_wrap, U_nat]; omega
  have e2 : IntKind.u64.wrap (hi : Int) = hi := by rw [u64_wrap, U_nat]; omega
  have EQ := Lib.hid (show Rf.within lo hi st = if (Rf.bound lo hi (Rf.size st)).2 ≠ 0 then (0, Rf.bound lo hi (Rf.size st)) else ((Rf.size st).1, Rf.bound lo hi (Rf.size st)) from rfl)
  clear hr
  go_enter Tryz.func127, Tryz.ntmps127
  go_wp2_with fail
  refine T1.out.mono ?_
  clear T1
  generalize Rf.size st = p at EQ ⊢
  obtain ⟨x, l, e⟩ := p
  rintro e w1 ⟨rfl, h3, h4⟩
  have hc := h3.cell 1
  have R1 := Lib.hid h3
  have B1 := Lib.hid h4
  dsimp only at hc
  clear h3 h4
  by_cases he : e = 0
  · subst he
    by_cases c1 : x < lo
    · have p1 : (x : Int) < (lo : Int) := by omega
      have EB : Rf.bound lo hi (x, l, 0) = (l, 3) := by unfold Rf.bound; rw [if_pos ⟨rfl, .inl c1⟩]; rfl
      have E := Lib.hid (show Rf.within lo hi st = (0, (l, 3)) by rw [EQ.out, EB]; rfl)
      clear EB
      go_wp2_with fail
      refine (wrong_calls b 3 (l, 0) w1 R1.out).mono ?_
      rintro e w2 ⟨rfl, h5, h6⟩
      have hc := h5.cell 1
      dsimp only [Rf.wrong] at hc
      go_wp2_with fail
      go_ret
      exact RS.mk E.out h5 (B1.out.trans (h6.mono B1.out.size))
    · have p1 : ¬ (x : Int) < (lo : Int) := by omega
      by_cases c2 : hi < x
      · have p2 : (x : Int) > (hi : Int) := by omega
        have EB : Rf.bound lo hi (x, l, 0) = (l, 3) := by unfold Rf.bound; rw [if_pos ⟨rfl, .inr c2⟩]; rfl
        have E := Lib.hid (show Rf.within lo hi st = (0, (l, 3)) by rw [EQ.out, EB]; rfl)
        clear EB
        go_wp2_with fail
        refine (wrong_calls b 3 (l, 0) w1 R1.out).mono ?_
        rintro e w2 ⟨rfl, h5, h6⟩
        have hc := h5.cell 1
        dsimp only [Rf.wrong] at hc
        go_wp2_with fail
        go_ret
        exact RS.mk E.out h5 (B1.out.trans (h6.mono B1.out.size))
      · have p2 : ¬ (x : Int) > (hi : Int) := by omega
        have EB : Rf.bound lo hi (x, l, 0) = (l, 0) := by unfold Rf.bound; rw [if_neg (by rintro ⟨_, h | h⟩ <;> omega)]
        have E := Lib.hid (show Rf.within lo hi st = (x, (l, 0)) by rw [EQ.out, EB]; rfl)
        have e3 : IntKind.i64.wrap (x : Int) = x := IntWalk.i64_in _ (by omega)
        clear EB
        go_wp2_with fail
        go_ret
        exact RS.mk E.out R1.out B1.out
  · have p1 : ¬ (e : Int) = 0 := by omega
    have EB : Rf.bound lo hi (x, l, e) = (l, e) := by unfold Rf.bound; rw [if_neg (fun h => he h.1)]
    have E := Lib.hid (show Rf.within lo hi st = (0, (l, e)) by rw [EQ.out, EB, if_pos he])
    clear EB
    go_wp2_with fail
    go_ret
    exact RS.mk E.out R1.out B1.out
theorem rdone_calls (b : Nat) (st : Rf.St) (w : World) (hr : Rd w b st) :
    Calls Tryz.prog 124 #[.pointer (some ⟨b, 0, none⟩)] w fun e w' => e = .returned (.int .i64 (Rf.done st : Int)) ∧ But w.heap.size b w w' := by
  obtain ⟨l, e⟩ := st
  have hc0 := hr.cell 0
  have hc1 := hr.cell 1
  have R1 := Lib.hid hr
  dsimp only at hc0 hc1
  clear hr
  by_cases he : e = 0
  · subst he
    by_cases hl : l = []
    · subst hl
      rw [show Rf.done ([], 0) = 0 from rfl]
      go_enter Tryz.func124, Tryz.ntmps124
      go_wp2_with fail
      go_ret
      exact ⟨rfl, But.refl _ _ _⟩
    · have hne : l.isEmpty = false := by cases l with
        | nil => exact absurd rfl hl
        | cons => rfl
      rw [show Rf.done (l, 0) = 5 from if_pos ⟨rfl, hl⟩]
      go_enter Tryz.func124, Tryz.ntmps124
      go_wp2_with fail
      refine (wrong_calls b 5 (l, 0) w R1.out).mono ?_
      rintro e w2 ⟨rfl, h5, h6⟩
      have hc := h5.cell 1
      dsimp only [Rf.wrong] at hc
      clear hc0 hc1
      go_wp2_with fail
      go_ret
      exact ⟨rfl, h6⟩
  · have p1 : ¬ (e : Int) = 0 := by omega
    rw [show Rf.done (l, e) = e from if_neg (fun h => he h.1)]
    go_enter Tryz.func124, Tryz.ntmps124
    go_wp2_with fail
    go_ret
    exact ⟨rfl, But.refl _ _ _⟩
namespace Rf
theorem rep_add (f : St → St) : ∀ (n : Nat) (st : St), rep f (n + 1) st = rep f n (f st)
  | _, _ => rfl
def scr (st : St) : List UInt8 × St := take (within 0 40 st).1 (within 0 40 st).2
end Rf
/-- how the reference's reading stands -/
structure RtI (w : World) (b : Nat) (n : Nat) (st : Rf.St) (wk : World) : Prop where
  cur : Rd wk b st
  but : But w.heap.size b w wk
  le : st.1.length ≤ n
theorem RtI.step {w : World} {b n : Nat} {st st' : Rf.St} {wk wk' : World} (h : RtI w b n st wk) (h1 : Rd wk' b st') (h2 : But wk.heap.size b wk wk') (hl : st'.1.length ≤ st.1.length) : RtI w b n st' wk' :=
  ⟨h1, h.but.trans (h2.mono h.but.size), Nat.le_trans hl h.le⟩
set_option maxHeartbeats 4000000 in
theorem rtx_calls (b : Nat) (st : Rf.St) (w : World) (hr : Rd w b st) (hl : st.1.length ≤ 9223372036854775807) :
    Calls Tryz.prog 123 #[.pointer (some ⟨b, 0, none⟩)] w (RS (Rf.tx st) (fun t => .string (str t)) b w) := by
  have hc := hr.cell 0
  have J := Lib.hid (show RtI w b st.1.length st w from ⟨hr, But.refl _ _ _, Nat.le_refl _⟩)
  have T1 := Lib.hid (rtake_calls b 4 st w hr (by omega))
  have l1 := Rf.take_le 4 st
  have EQ := Lib.hid (show Rf.body st = (Rf.take 4 (Rf.outs (Rf.ins (Rf.take 4 st).2))).2 from rfl)
  clear hr
  go_enter Tryz.func123, Tryz.ntmps123
  go_wp2_with fail
  refine T1.out.mono ?_
  clear T1 hc
  generalize Rf.take 4 st = p at EQ l1 ⊢
  obtain ⟨t1, st1⟩ := p
  rintro e w1 ⟨rfl, h3, h4⟩
  dsimp only at h3 l1 EQ
  have J1 := Lib.hid (J.out.step h3 h4 l1)
  have T2 := Lib.hid (rwithin_calls b 1 4 st1 w1 h3 (by omega) (by omega))
  have l2 := Rf.within_le 1 4 st1
  have hn := Rf.within_hi 1 4 st1
  have EQ2 := Lib.hid (show Rf.body st = (Rf.take 4 (Rf.outs (Rf.rep Rf.inp (Rf.within 1 4 st1).1 (Rf.within 1 4 st1).2))).2 from EQ.out)
  clear h3 h4 J EQ l1
  go_wp2_with fail
  refine T2.out.mono ?_
  clear T2
  generalize Rf.within 1 4 st1 = p at EQ2 l2 hn ⊢
  obtain ⟨n, st2⟩ := p
  rintro e w2 ⟨rfl, h3, h4⟩
  dsimp only at h3 l2 hn EQ2
  have J2 := Lib.hid (J1.out.step h3 h4 l2)
  clear h3 h4 J1 l2
  go_wp2_with fail
  go_loopw [4] (fun iv wr => ∃ (i : Nat) (sti : Rf.St), i ≤ n ∧ iv = .int .i64 i ∧ RtI w b st.1.length sti wr ∧ Rf.rep Rf.inp i sti = Rf.rep Rf.inp n st2) (fun iv _ => (intOf iv).toNat)
  case atStart => exact ⟨n, st2, Nat.le_refl _, rfl, J2.out, rfl⟩
  case round =>
    obtain ⟨i, sti, hi, rfl, hI, hE⟩ := hrel
    by_cases hlt : 0 < i
    · have p1 : (i : Int) > 0 := by omega
      have E1 := Lib.hid (show Rf.rep Rf.inp (i - 1) ((Rf.take 4 (Rf.scr (Rf.take 36 sti).2).2).2) = Rf.rep Rf.inp n st2 by rw [← hE]; obtain ⟨j, rfl⟩ : ∃ j, i = j + 1 := ⟨i - 1, by omega⟩; rfl)
      have T1 := Lib.hid (rtake_calls b 36 sti wr hI.cur (by omega))
      have l1 := Rf.take_le 36 sti
      have K1 := Lib.hid hI
      clear hI hE
      go_wp2_with fail
      refine T1.out.mono ?_
      clear T1
      generalize Rf.take 36 sti = p at E1 l1 ⊢
      obtain ⟨t1, st3⟩ := p
      rintro e w3 ⟨rfl, h3, h4⟩
      dsimp only at h3 l1 E1
      have K2 := Lib.hid (K1.out.step h3 h4 l1)
      have T2 := Lib.hid (rwithin_calls b 0 40 st3 w3 h3 (by omega) (by omega))
      have l2 := Rf.within_le 0 40 st3
      have hk := Rf.within_hi 0 40 st3
      have E2 := Lib.hid (show Rf.rep Rf.inp (i - 1) ((Rf.take 4 (Rf.take (Rf.within 0 40 st3).1 (Rf.within 0 40 st3).2).2).2) = Rf.rep Rf.inp n st2 from E1.out)
      clear h3 h4 K1 E1 l1
      go_wp2_with fail
      refine T2.out.mono ?_
      clear T2
      generalize Rf.within 0 40 st3 = p at E2 l2 hk ⊢
      obtain ⟨k, st4⟩ := p
      rintro e w4 ⟨rfl, h3, h4⟩
      dsimp only at h3 l2 hk E2
      have K3 := Lib.hid (K2.out.step h3 h4 l2)
      have T3 := Lib.hid (rtake_calls b k st4 w4 h3 (by omega))
      have l3 := Rf.take_le k st4
      clear h3 h4 K2 l2
      go_wp2_with fail
      refine T3.out.mono ?_
      clear T3
      generalize Rf.take k st4 = p at E2 l3 ⊢
      obtain ⟨t2, st5⟩ := p
      rintro e w5 ⟨rfl, h3, h4⟩
      dsimp only at h3 l3 E2
      have K4 := Lib.hid (K3.out.step h3 h4 l3)
      have T4 := Lib.hid (rtake_calls b 4 st5 w5 h3 (by omega))
      have l4 := Rf.take_le 4 st5
      clear h3 h4 K3 l3
      go_wp2_with fail
      refine T4.out.mono ?_
      clear T4
      generalize Rf.take 4 st5 = p at E2 l4 ⊢
      obtain ⟨t3, st6⟩ := p
      rintro e w6 ⟨rfl, h3, h4⟩
      dsimp only at h3 l4 E2
      have K5 := Lib.hid (K4.out.step h3 h4 l4)
      clear h3 h4 K4 l4
      go_wp2_with fail
      go_roundw
      case rel => exact ⟨i - 1, st6, by omega, by go_num, K5.out, E2.out⟩
      case measure => simp [intOf]; omega
    · obtain rfl : i = 0 := by omega
      have EQ3 := Lib.hid (show Rf.body st = (Rf.take 4 (Rf.rep Rf.outp (Rf.within 1 4 sti).1 (Rf.within 1 4 sti).2)).2 by rw [EQ2.out, ← hE]; rfl)
      have J3 := Lib.hid hI
      have T3 := Lib.hid (rwithin_calls b 1 4 sti wr hI.cur (by omega) (by omega))
      have l3 := Rf.within_le 1 4 sti
      have hm := Rf.within_hi 1 4 sti
      clear hI hE EQ2 J2 hn hi
      go_wp2_with fail
      refine T3.out.mono ?_
      clear T3
      generalize Rf.within 1 4 sti = p at EQ3 l3 hm ⊢
      obtain ⟨m, st7⟩ := p
      rintro e w7 ⟨rfl, h3, h4⟩
      dsimp only at h3 l3 hm EQ3
      have J4 := Lib.hid (J3.out.step h3 h4 l3)
      clear h3 h4 J3 l3
      go_wp2_with fail
      go_loopw [5] (fun iv wr => ∃ (j : Nat) (stj : Rf.St), j ≤ m ∧ iv = .int .i64 j ∧ RtI w b st.1.length stj wr ∧ Rf.rep Rf.outp j stj = Rf.rep Rf.outp m st7) (fun iv _ => (intOf iv).toNat)
      case atStart => exact ⟨m, st7, Nat.le_refl _, rfl, J4.out, rfl⟩
      case round =>
        obtain ⟨j, stj, hj, rfl, hI, hE⟩ := hrel
        by_cases hlt : 0 < j
        · have p1 : (j : Int) > 0 := by omega
          have E1 := Lib.hid (show Rf.rep Rf.outp (j - 1) ((Rf.scr (Rf.take 8 stj).2).2) = Rf.rep Rf.outp m st7 by rw [← hE]; obtain ⟨j', rfl⟩ : ∃ j', j = j' + 1 := ⟨j - 1, by omega⟩; rfl)
          have T1 := Lib.hid (rtake_calls b 8 stj wr hI.cur (by omega))
          have l1 := Rf.take_le 8 stj
          have K1 := Lib.hid hI
          clear hI hE
          go_wp2_with fail
          refine T1.out.mono ?_
          clear T1
          generalize Rf.take 8 stj = p at E1 l1 ⊢
          obtain ⟨t1, st3⟩ := p
          rintro e w3 ⟨rfl, h3, h4⟩
          dsimp only at h3 l1 E1
          have K2 := Lib.hid (K1.out.step h3 h4 l1)
          have T2 := Lib.hid (rwithin_calls b 0 40 st3 w3 h3 (by omega) (by omega))
          have l2 := Rf.within_le 0 40 st3
          have hk := Rf.within_hi 0 40 st3
          have E2 := Lib.hid (show Rf.rep Rf.outp (j - 1) ((Rf.take (Rf.within 0 40 st3).1 (Rf.within 0 40 st3).2).2) = Rf.rep Rf.outp m st7 from E1.out)
          clear h3 h4 K1 E1 l1
          go_wp2_with fail
          refine T2.out.mono ?_
          clear T2
          generalize Rf.within 0 40 st3 = p at E2 l2 hk ⊢
          obtain ⟨k, st4⟩ := p
          rintro e w4 ⟨rfl, h3, h4⟩
          dsimp only at h3 l2 hk E2
          have K3 := Lib.hid (K2.out.step h3 h4 l2)
          have T3 := Lib.hid (rtake_calls b k st4 w4 h3 (by omega))
          have l3 := Rf.take_le k st4
          clear h3 h4 K2 l2
          go_wp2_with fail
          refine T3.out.mono ?_
          clear T3
          generalize Rf.take k st4 = p at E2 l3 ⊢
          obtain ⟨t2, st5⟩ := p
          rintro e w5 ⟨rfl, h3, h4⟩
          dsimp only at h3 l3 E2
          have K4 := Lib.hid (K3.out.step h3 h4 l3)
          clear h3 h4 K3 l3
          go_wp2_with fail
          go_roundw
          case rel => exact ⟨j - 1, st5, by omega, by go_num, K4.out, E2.out⟩
          case measure => simp [intOf]; omega
        · obtain rfl : j = 0 := by omega
          have EQ5 := Lib.hid (show Rf.body st = (Rf.take 4 stj).2 by rw [EQ3.out, ← hE]; rfl)
          have J5 := Lib.hid hI
          have T5 := Lib.hid (rtake_calls b 4 stj wr hI.cur (by omega))
          have l5 := Rf.take_le 4 stj
          clear hI hE EQ3 J4 hm hj
          go_wp2_with fail
          refine T5.out.mono ?_
          clear T5
          generalize Rf.take 4 stj = p at EQ5 l5 ⊢
          obtain ⟨t9, st9⟩ := p
          rintro e w9 ⟨rfl, h3, h4⟩
          dsimp only at h3 l5 EQ5
          have J6 := Lib.hid (J5.out.step h3 h4 l5)
          have hc := h3.cell 0
          try dsimp only at hc
          have hle := J6.out.le
          clear h3 h4 J5 l5
          have q1 : wrap64 ((st.1.length : Int) - (st9.1.length : Int)) = (st.1.length : Int) - (st9.1.length : Int) := by unfold wrap64; omega
          have q2 : (0 : Int) ≤ (st.1.length : Int) - (st9.1.length : Int) := by omega
          have q3 : ((st.1.length : Int) - (st9.1.length : Int)).toNat = st.1.length - st9.1.length := by omega
          go_wp2_with fail
          go_ret
          exact RS.mk (by unfold Rf.tx; rw [EQ5.out]) J6.out.cur J6.out.but
/-- is it a transaction? -/
theorem refTx_calls (l : List UInt8) (w : World) (hl : l.length ≤ 9223372036854775807) :
    Calls Tryz.prog 99 #[.string (str l)] w fun e w' => e = .returned (.int .i64 (Rf.done (Rf.tx (l, 0)).2 : Int)) ∧ Below w.heap.size w w' := by
  obtain ⟨p, hp⟩ : ∃ p, Rf.tx (l, 0) = p := ⟨_, rfl⟩
  rw [hp]
  have hR : Rd (w.alloc (.cells #[.string (str l), .int .i64 0] 187)) w.heap.size (l, 0) := Row.new w [.string (str l), .int .i64 0] 187
  have hB : Below w.heap.size w (w.alloc (.cells #[.string (str l), .int .i64 0] 187)) := (Below.refl _ _).alloc (Nat.le_refl _) _
  go_enter Tryz.func99, Tryz.ntmps99
  go_wp2_with fail
  generalize w.alloc _ = w1 at hR hB ⊢
  have B1 := Lib.hid hB
  have T1 := Lib.hid (rtx_calls w.heap.size (l, 0) w1 hR hl)
  rw [hp] at T1
  clear hR hB hp
  refine T1.out.mono ?_
  clear T1
  rintro e w2 ⟨rfl, h3, h4⟩
  have B2 := Lib.hid (B1.out.trans ⟨h4.os, h4.tape, h4.output, h4.size, fun k hk => h4.block k (by have := B1.out.size; omega) (by omega)⟩)
  have T2 := Lib.hid (rdone_calls w.heap.size p.2 w2 h3)
  clear h3 h4 B1
  go_wp2_with fail
  refine T2.out.mono ?_
  rintro e w3 ⟨rfl, h4⟩
  go_wp2_with fail
  go_ret
  exact ⟨rfl, B2.out.trans ⟨h4.os, h4.tape, h4.output, h4.size, fun k hk => h4.block k (by have := B2.out.size; omega) (by omega)⟩⟩
end Go.Proofs.YtlpcjiollnnmgabGreatDoor
