/-
  THE REFERENCE's READER, WALKED: wrong, take, size, within, done, tx; Size, bytes.
-/
import Derived.Test.YtlpcjiollnnmgabGreatDoorWireRef
import Derived.Test.YtlpcjiollnnmgabGreatDoorCur
import Derived.Test.YtlpcjiollnnmgabGreatDoorSipWalk
set_option maxRecDepth 100000
namespace Go.Proofs.YtlpcjiollnnmgabGreatDoor
open Go.RowKit Nums
/-- the reference's reader at block b -/
def Rd (w : World) (b : Nat) (st : Rf.St) : Prop := Row w b [.string (str st.1), .int .i64 (st.2 : Int)]
/-- a value, and the reader as it stands then -/
def RS {α : Type} (p : α × Rf.St) (val : α → Value) (b : Nat) (w : World) (e : Ending) (w' : World) : Prop := e = .returned (val p.1) ∧ Rd w' b p.2 ∧ But w.heap.size b w w'
theorem RS.keep {α : Type} {p : α × Rf.St} {val : α → Value} {b : Nat} {w w1 : World} {e : Ending} {w' : World} (h : RS p val b w1 e w') (hb : But w.heap.size b w w1) : RS p val b w e w' :=
  ⟨h.1, h.2.1, hb.trans (h.2.2.mono hb.size)⟩
theorem wrong_calls (b n : Nat) (st : Rf.St) (w : World) (hr : Rd w b st) :
    Calls Tryz.prog 128 #[.pointer (some ⟨b, 0, none⟩), .int .i64 n] w (RS ((), Rf.wrong n st) (fun _ => .tuple #[]) b w) := by
  obtain ⟨l, e⟩ := st
  have hc := hr.cell 1
  have hz := hr.free 1
  have HR := Lib.hid hr
  unfold Rf.wrong
  dsimp only at hc ⊢
  by_cases h : e = 0
  · subst h
    rw [if_pos rfl]
    clear hr
    go_enter Tryz.func128, Tryz.ntmps128
    go_wp2_with fail
    first | go_end0 | refine bodyPost_ret (results_none rfl _ _ _) rfl ?_
    exact ⟨rfl, HR.out.set 1 _, (But.refl _ _ _).setOwn _ _⟩
  · rw [if_neg h]
    have p1 : ¬ (e : Int) = 0 := by omega
    clear hr
    go_enter Tryz.func128, Tryz.ntmps128
    go_wp2_with fail
    first | go_end0 | refine bodyPost_ret (results_none rfl _ _ _) rfl ?_
    exact ⟨rfl, HR.out, But.refl _ _ _⟩
theorem rtake_calls (b n : Nat) (st : Rf.St) (w : World) (hr : Rd w b st) (_ : n < 4611686018427387904) :
    Calls Tryz.prog 126 #[.pointer (some ⟨b, 0, none⟩), .int .i64 n] w (RS (Rf.take n st) (fun t => .string (str t)) b w) := by
  obtain ⟨l, e⟩ := st
  have hc0 := hr.cell 0
  have hc1 := hr.cell 1
  have hz := hr.free 0
  have HR := Lib.hid hr
  unfold Rf.take
  dsimp only at hc0 hc1 ⊢
  by_cases h : e = 0
  · subst h
    rw [if_neg (by simp)]
    by_cases hlt : l.length < n
    · rw [if_pos hlt]
      have p1 : (n : Int) > (l.length : Int) := by omega
      clear hr
      go_enter Tryz.func126, Tryz.ntmps126
      go_wp2_with fail
      refine (wrong_calls b 1 (l, 0) w HR.out).mono ?_
      rintro e w1 ⟨rfl, h1, h2⟩
      go_wp2_with fail
      go_ret
      exact ⟨rfl, h1, h2⟩
    · rw [if_neg hlt]
      have p1 : ¬ (n : Int) > (l.length : Int) := by omega
      have p2 : (n : Int) ≤ (l.length : Int) := by omega
      clear hr
      go_enter Tryz.func126, Tryz.ntmps126
      go_wp2_with fail
      go_ret
      exact ⟨rfl, HR.out.set 0 _, (But.refl _ _ _).setOwn _ _⟩
  · rw [if_pos h]
    have p1 : ¬ (e : Int) = 0 := by omega
    clear hr
    go_enter Tryz.func126, Tryz.ntmps126
    go_wp2_with fail
    go_ret
    exact ⟨rfl, HR.out, But.refl _ _ _⟩
theorem rbytes_calls (n k : Nat) (w : World) (hn : n < 18446744073709551616) (hk : k ≤ 8) :
    Calls Tryz.prog 131 #[.int .u64 n, .int .i64 k] w fun e w' => e = .returned (.string (str (Wr.low n k))) ∧ Below w.heap.size w w' := by
  go_enter Tryz.func131, Tryz.ntmps131
  go_wp2_with fail
  go_loopw [0, 1, 5] (fun nv iv sv wr => ∃ (m i : Nat) (pre : List UInt8), m < 18446744073709551616 ∧ i ≤ k ∧ nv = .int .u64 m ∧ iv = .int .i64 i ∧ sv = .string (str pre) ∧ pre.length + i = k ∧ pre ++ Wr.low m i = Wr.low n k ∧ Below w.heap.size w wr) (fun _ iv _ _ => (intOf iv).toNat)
  case atStart => exact ⟨n, k, [], hn, Nat.le_refl _, rfl, rfl, rfl, by simp, rfl, Below.refl _ _⟩
  case round =>
    obtain ⟨m, i, pre, hm, hi, rfl, rfl, rfl, hl, hE, hB⟩ := hrel
    have HE := Lib.hid hE
    have HB := Lib.hid hB
    clear hE hB
    by_cases hlt : 0 < i
    · have p1 : (i : Int) > 0 := by omega
      have e1 : Wr.low m i = UInt8.ofNat (m % 256) :: Wr.low (m / 256) (i - 1) := by
        obtain ⟨j, rfl⟩ : ∃ j, i = j + 1 := ⟨i - 1, by omega⟩
        rfl
      have HE2 := Lib.hid (show (pre ++ [UInt8.ofNat (m % 256)]) ++ Wr.low (m / 256) (i - 1) = Wr.low n k by rw [← HE.out, e1]; simp)
      have e2 : ((m : Int) % 256) = Y (UInt8.ofNat (m % 256)) := by unfold Y; rw [UInt8.toNat_ofNat']; omega
      have e2' : ((m : Int).tmod 256) = Y (UInt8.ofNat (m % 256)) := by rw [Int.tmod_eq_emod_of_nonneg (by omega)]; exact e2
      have e3 : U (toU ((m : Int) / 256)) = ((m / 256 : Nat) : Int) := by rw [U_toU]; omega
      have e4 : IntKind.u8.wrap (Y (UInt8.ofNat (m % 256))) = Y (UInt8.ofNat (m % 256)) := by have := Y_lt (UInt8.ofNat (m % 256)); simp [IntKind.wrap, IntKind.bits, IntKind.signed]; omega
      clear e1 HE
      go_wp2_with fail
      go_roundw
      case rel => exact ⟨m / 256, i - 1, pre ++ [UInt8.ofNat (m % 256)], by omega, by omega, by first | rfl | rw [e3], by go_num, rfl, by simp; omega, HE2.out, HB.out.alloc HB.out.size _⟩
      case measure => simp [intOf]; omega
    · obtain rfl : i = 0 := by omega
      go_wp2_with fail
      go_ret
      have := HE.out
      rw [Wr.low, List.append_nil] at this
      exact ⟨by rw [this]; rfl, HB.out⟩
theorem rsize_bytes (n : Nat) (w : World) (hn : n < 18446744073709551616) :
    Calls Tryz.prog 105 #[.int .u64 n] w fun e w' => e = .returned (.string (str (Wr.sizeB n))) ∧ Below w.heap.size w w' := by
  unfold Wr.sizeB
  by_cases h1 : n < 253
  · rw [if_pos h1]
    have p1 : (n : Int) < 253 := by omega
    go_enter Tryz.func105, Tryz.ntmps105
    go_wp2_with fail
    refine (rbytes_calls n 1 w hn (by omega)).mono ?_
    rintro e w1 ⟨rfl, hb⟩
    have e1 : Wr.low n 1 = [UInt8.ofNat n] := by
      simp only [Wr.low, Nat.mod_eq_of_lt (show n < 256 by omega)]
    rw [e1]
    go_wp2_with fail
    go_ret
    exact ⟨rfl, hb⟩
  · rw [if_neg h1]
    have p1 : ¬ (n : Int) < 253 := by omega
    by_cases h2 : n < 65536
    · rw [if_pos h2]
      have p2 : (n : Int) < 65536 := by omega
      go_enter Tryz.func105, Tryz.ntmps105
      go_wp2_with fail
      refine (rbytes_calls n 2 w hn (by omega)).mono ?_
      rintro e w1 ⟨rfl, hb⟩
      have hl := Wr.low_length n 2
      go_wp2_with fail
      go_ret
      exact ⟨rfl, hb⟩
    · rw [if_neg h2]
      have p2 : ¬ (n : Int) < 65536 := by omega
      by_cases h3 : n < 4294967296
      · rw [if_pos h3]
        have p3 : (n : Int) < 4294967296 := by omega
        go_enter Tryz.func105, Tryz.ntmps105
        go_wp2_with fail
        refine (rbytes_calls n 4 w hn (by omega)).mono ?_
        rintro e w1 ⟨rfl, hb⟩
        have hl := Wr.low_length n 4
        go_wp2_with fail
        go_ret
        exact ⟨rfl, hb⟩
      · rw [if_neg h3]
        have p3 : ¬ (n : Int) < 4294967296 := by omega
        go_enter Tryz.func105, Tryz.ntmps105
        go_wp2_with fail
        refine (rbytes_calls n 8 w hn (by omega)).mono ?_
        rintro e w1 ⟨rfl, hb⟩
        have hl := Wr.low_length n 8
        go_wp2_with fail
        go_ret
        exact ⟨rfl, hb⟩
/-! ### size -/
theorem RS.mk {α : Type} {p : α × Rf.St} {val : α → Value} {b : Nat} {w w' : World} {a : α} {st : Rf.St} (hp : p = (a, st)) (h1 : Rd w' b st) (h2 : But w.heap.size b w w') : RS p val b w (.returned (val a)) w' := by
  subst hp; exact ⟨rfl, h1, h2⟩
theorem rtake_one (x : UInt8) (r : List UInt8) : Rf.take 1 (x :: r, 0) = ([x], (r, 0)) := by simp [Rf.take]
theorem rtake_len (n : Nat) (st : Rf.St) : (Rf.take n st).1.length ≤ n := by
  unfold Rf.take
  split
  · simp
  · split
    · simp
    · simp; omega
set_option maxHeartbeats 2000000 in
theorem rsize_calls (b : Nat) (st : Rf.St) (w : World) (hr : Rd w b st) :
    Calls Tryz.prog 149 #[.pointer (some ⟨b, 0, none⟩)] w (RS (Rf.size st) (fun n => .int .u64 (n : Int)) b w) := by
  have T1 := Lib.hid (rtake_calls b 1 st w hr (by omega))
  have hb := hr.lt
  clear hr
  obtain ⟨l, e⟩ := st
  by_cases he : e = 0
  · subst he
    cases l with
    | nil =>
      have e0 : Rf.take 1 ([], 0) = ([], ([], 1)) := rfl
      have e1 : Rf.size ([], 0) = (0, ([], 1)) := rfl
      have EQ := Lib.hid e1
      rw [e0] at T1
      clear e0 e1
      go_enter Tryz.func149, Tryz.ntmps149
      go_wp2_with fail
      refine T1.out.mono ?_
      rintro e w1 ⟨rfl, h1, h2⟩
      have hc := h1.cell 1
      dsimp only at hc
      go_wp2_with fail
      go_ret
      exact RS.mk EQ.out h1 h2
    | cons x r =>
      have e1 : Rf.size (x :: r, 0) = if x < 253 then (x.toNat, (r, 0)) else Rf.sizeMore x (r, 0) := by
        unfold Rf.size; rw [rtake_one]; rfl
      rw [rtake_one] at T1
      have EQ := Lib.hid e1
      clear e1
      have hY : Y x = (x.toNat : Int) := rfl
      have hx := x.toNat_lt
      by_cases hlt : x < 253
      · have h' := UInt8.lt_iff_toNat_lt.1 hlt
        have h3 : x.toNat < 253 := h'
        rw [if_pos hlt] at EQ
        have n1 : ¬ Y (nth [x] 0) = 253 := by show ¬ Y x = 253; omega
        have n2 : ¬ Y (nth [x] 0) = 254 := by show ¬ Y x = 254; omega
        have n3 : ¬ Y (nth [x] 0) = 255 := by show ¬ Y x = 255; omega
        clear hlt h' hY hx
        go_enter Tryz.func149, Tryz.ntmps149
        go_wp2_with fail
        refine T1.out.mono ?_
        rintro e w1 ⟨rfl, h1, h2⟩
        have hc := h1.cell 1
        dsimp only at hc
        go_wp2_with fail
        go_ret
        exact RS.mk EQ.out h1 h2
      · have h' : ¬ x.toNat < 253 := fun h => hlt (UInt8.lt_iff_toNat_lt.2 h)
        rw [if_neg hlt] at EQ
        have hc : x = 253 ∨ x = 254 ∨ x = 255 := by
          have h3 : x.toNat = 253 ∨ x.toNat = 254 ∨ x.toNat = 255 := by omega
          rcases h3 with h | h | h
          · exact .inl (UInt8.toNat_inj.1 h)
          · exact .inr (.inl (UInt8.toNat_inj.1 h))
          · exact .inr (.inr (UInt8.toNat_inj.1 h))
        clear hlt h' hY hx
        rcases hc with rfl | rfl | rfl
        · have EQ2 := Lib.hid (show Rf.size (253 :: r, 0) = (Sip.leN (Rf.take 2 (r, 0)).1, if (Rf.take 2 (r, 0)).2.2 = 0 ∧ Wr.sizeB (Sip.leN (Rf.take 2 (r, 0)).1) ≠ 253 :: (Rf.take 2 (r, 0)).1 then Rf.wrong 2 (Rf.take 2 (r, 0)).2 else (Rf.take 2 (r, 0)).2) from EQ.out)
          clear EQ
          go_enter Tryz.func149, Tryz.ntmps149
          go_wp2_with fail
          refine T1.out.mono ?_
          rintro e w1 ⟨rfl, h1, h2⟩
          have hc := h1.cell 1
          have T2 := Lib.hid (rtake_calls b 2 (r, 0) w1 h1 (by omega))
          have B1 := Lib.hid h2
          have hl := rtake_len 2 (r, 0)
          dsimp only at hc T2
          clear h1 h2 T1
          generalize Rf.take 2 (r, 0) = p at T2 hl EQ2
          obtain ⟨u, st2⟩ := p
          dsimp only at hl EQ2
          go_wp2_with fail
          refine T2.out.mono ?_
          clear T2 hc
          rintro e w2 ⟨rfl, h3, h4⟩
          dsimp only at h3
          have B2 := Lib.hid (B1.out.trans (h4.mono B1.out.size))
          have R2 := Lib.hid h3
          have hc := h3.cell 1
          have hb2 := h3.lt
          have hlt : Sip.leN u < 18446744073709551616 := by
            have := Sip.leN_lt u
            have h2 : 2 ^ (8 * u.length) ≤ 2 ^ 64 := Nat.pow_le_pow_right (by decide) (by omega)
            omega
          clear h3 h4 B1
          go_wp2_with fail
          refine (number_calls u (by omega) w2).mono ?_
          rintro e w3 ⟨rfl, rfl⟩
          rw [U_le u (by omega)]
          by_cases hz : st2.2 = 0
          · rw [hz] at hc
            go_wp2_with fail
            refine (rsize_bytes (Sip.leN u) w2 hlt).mono ?_
            rintro e w4 ⟨rfl, hb4⟩
            have B4 := Lib.hid (B2.out.trans ((But.of_below hb4).mono B2.out.size))
            have R4 := Lib.hid (R2.out.below hb4 hb2)
            clear hb4 hc
            by_cases hs : Wr.sizeB (Sip.leN u) = 253 :: u
            · have E := Lib.hid (show Rf.size (253 :: r, 0) = (Sip.leN u, st2) by rw [EQ2.out, if_neg (fun h => h.2 hs)])
              rw [hs]
              go_wp2_with fail
              go_ret
              exact RS.mk E.out R4.out B4.out
            · have E := Lib.hid (show Rf.size (253 :: r, 0) = (Sip.leN u, Rf.wrong 2 st2) by rw [EQ2.out, if_pos ⟨hz, hs⟩])
              have hs' : (Wr.sizeB (Sip.leN u) == 253 :: u) = false := by simpa using hs
              go_wp2_with fail
              refine (wrong_calls b 2 st2 w4 R4.out).mono ?_
              rintro e w5 ⟨rfl, h5, h6⟩
              go_wp2_with fail
              go_ret
              exact RS.mk E.out h5 (B4.out.trans (h6.mono B4.out.size))
          · have E := Lib.hid (show Rf.size (253 :: r, 0) = (Sip.leN u, st2) by rw [EQ2.out, if_neg (fun h => hz h.1)])
            have p1 : ¬ (st2.2 : Int) = 0 := by omega
            go_wp2_with fail
            go_ret
            exact RS.mk E.out R2.out B2.out
        · have EQ2 := Lib.hid (show Rf.size (254 :: r, 0) = (Sip.leN (Rf.take 4 (r, 0)).1, if (Rf.take 4 (r, 0)).2.2 = 0 ∧ Wr.sizeB (Sip.leN (Rf.take 4 (r, 0)).1) ≠ 254 :: (Rf.take 4 (r, 0)).1 then Rf.wrong 2 (Rf.take 4 (r, 0)).2 else (Rf.take 4 (r, 0)).2) from EQ.out)
          clear EQ
          go_enter Tryz.func149, Tryz.ntmps149
          go_wp2_with fail
          refine T1.out.mono ?_
          rintro e w1 ⟨rfl, h1, h2⟩
          have hc := h1.cell 1
          have T2 := Lib.hid (rtake_calls b 4 (r, 0) w1 h1 (by omega))
          have B1 := Lib.hid h2
          have hl := rtake_len 4 (r, 0)
          dsimp only at hc T2
          clear h1 h2 T1
          generalize Rf.take 4 (r, 0) = p at T2 hl EQ2
          obtain ⟨u, st2⟩ := p
          dsimp only at hl EQ2
          go_wp2_with fail
          refine T2.out.mono ?_
          clear T2 hc
          rintro e w2 ⟨rfl, h3, h4⟩
          dsimp only at h3
          have B2 := Lib.hid (B1.out.trans (h4.mono B1.out.size))
          have R2 := Lib.hid h3
          have hc := h3.cell 1
          have hb2 := h3.lt
          have hlt : Sip.leN u < 18446744073709551616 := by
            have := Sip.leN_lt u
            have h2 : 2 ^ (8 * u.length) ≤ 2 ^ 64 := Nat.pow_le_pow_right (by decide) (by omega)
            omega
          clear h3 h4 B1
          go_wp2_with fail
          refine (number_calls u (by omega) w2).mono ?_
          rintro e w3 ⟨rfl, rfl⟩
          rw [U_le u (by omega)]
          by_cases hz : st2.2 = 0
          · rw [hz] at hc
            go_wp2_with fail
            refine (rsize_bytes (Sip.leN u) w2 hlt).mono ?_
            rintro e w4 ⟨rfl, hb4⟩
            have B4 := Lib.hid (B2.out.trans ((But.of_below hb4).mono B2.out.size))
            have R4 := Lib.hid (R2.out.below hb4 hb2)
            clear hb4 hc
            by_cases hs : Wr.sizeB (Sip.leN u) = 254 :: u
            · have E := Lib.hid (show Rf.size (254 :: r, 0) = (Sip.leN u, st2) by rw [EQ2.out, if_neg (fun h => h.2 hs)])
              rw [hs]
              go_wp2_with fail
              go_ret
              exact RS.mk E.out R4.out B4.out
            · have E := Lib.hid (show Rf.size (254 :: r, 0) = (Sip.leN u, Rf.wrong 2 st2) by rw [EQ2.out, if_pos ⟨hz, hs⟩])
              have hs' : (Wr.sizeB (Sip.leN u) == 254 :: u) = false := by simpa using hs
              go_wp2_with fail
              refine (wrong_calls b 2 st2 w4 R4.out).mono ?_
              rintro e w5 ⟨rfl, h5, h6⟩
              go_wp2_with fail
              go_ret
              exact RS.mk E.out h5 (B4.out.trans (h6.mono B4.out.size))
          · have E := Lib.hid (show Rf.size (254 :: r, 0) = (Sip.leN u, st2) by rw [EQ2.out, if_neg (fun h => hz h.1)])
            have p1 : ¬ (st2.2 : Int) = 0 := by omega
            go_wp2_with fail
            go_ret
            exact RS.mk E.out R2.out B2.out
        · have EQ2 := Lib.hid (show Rf.size (255 :: r, 0) = (Sip.leN (Rf.take 8 (r, 0)).1, if (Rf.take 8 (r, 0)).2.2 = 0 ∧ Wr.sizeB (Sip.leN (Rf.take 8 (r, 0)).1) ≠ 255 :: (Rf.take 8 (r, 0)).1 then Rf.wrong 2 (Rf.take 8 (r, 0)).2 else (Rf.take 8 (r, 0)).2) from EQ.out)
          clear EQ
          go_enter Tryz.func149, Tryz.ntmps149
          go_wp2_with fail
          refine T1.out.mono ?_
          rintro e w1 ⟨rfl, h1, h2⟩
          have hc := h1.cell 1
          have T2 := Lib.hid (rtake_calls b 8 (r, 0) w1 h1 (by omega))
          have B1 := Lib.hid h2
          have hl := rtake_len 8 (r, 0)
          dsimp only at hc T2
          clear h1 h2 T1
          generalize Rf.take 8 (r, 0) = p at T2 hl EQ2
          obtain ⟨u, st2⟩ := p
          dsimp only at hl EQ2
          go_wp2_with fail
          refine T2.out.mono ?_
          clear T2 hc
          rintro e w2 ⟨rfl, h3, h4⟩
          dsimp only at h3
          have B2 := Lib.hid (B1.out.trans (h4.mono B1.out.size))
          have R2 := Lib.hid h3
          have hc := h3.cell 1
          have hb2 := h3.lt
          have hlt : Sip.leN u < 18446744073709551616 := by
            have := Sip.leN_lt u
            have h2 : 2 ^ (8 * u.length) ≤ 2 ^ 64 := Nat.pow_le_pow_right (by decide) (by omega)
            omega
          clear h3 h4 B1
          go_wp2_with fail
          refine (number_calls u (by omega) w2).mono ?_
          rintro e w3 ⟨rfl, rfl⟩
          rw [U_le u (by omega)]
          by_cases hz : st2.2 = 0
          · rw [hz] at hc
            go_wp2_with fail
            refine (rsize_bytes (Sip.leN u) w2 hlt).mono ?_
            rintro e w4 ⟨rfl, hb4⟩
            have B4 := Lib.hid (B2.out.trans ((But.of_below hb4).mono B2.out.size))
            have R4 := Lib.hid (R2.out.below hb4 hb2)
            clear hb4 hc
            by_cases hs : Wr.sizeB (Sip.leN u) = 255 :: u
            · have E := Lib.hid (show Rf.size (255 :: r, 0) = (Sip.leN u, st2) by rw [EQ2.out, if_neg (fun h => h.2 hs)])
              rw [hs]
              go_wp2_with fail
              go_ret
              exact RS.mk E.out R4.out B4.out
            · have E := Lib.hid (show Rf.size (255 :: r, 0) = (Sip.leN u, Rf.wrong 2 st2) by rw [EQ2.out, if_pos ⟨hz, hs⟩])
              have hs' : (Wr.sizeB (Sip.leN u) == 255 :: u) = false := by simpa using hs
              go_wp2_with fail
              refine (wrong_calls b 2 st2 w4 R4.out).mono ?_
              rintro e w5 ⟨rfl, h5, h6⟩
              go_wp2_with fail
              go_ret
              exact RS.mk E.out h5 (B4.out.trans (h6.mono B4.out.size))
          · have E := Lib.hid (show Rf.size (255 :: r, 0) = (Sip.leN u, st2) by rw [EQ2.out, if_neg (fun h => hz h.1)])
            have p1 : ¬ (st2.2 : Int) = 0 := by omega
            go_wp2_with fail
            go_ret
            exact RS.mk E.out R2.out B2.out
  · have e0 : Rf.take 1 (l, e) = ([], (l, e)) := Rf.take_bad 1 (l, e) he
    have EQ := Lib.hid (Rf.size_bad (l, e) he)
    rw [e0] at T1
    have p1 : ¬ (e : Int) = 0 := by omega
    clear e0
    go_enter Tryz.func149, Tryz.ntmps149
    go_wp2_with fail
    refine T1.out.mono ?_
    rintro e w1 ⟨rfl, h1, h2⟩
    have hc := h1.cell 1
    dsimp only at hc
    go_wp2_with fail
    go_ret
    exact RS.mk EQ.out h1 h2
end Go.Proofs.YtlpcjiollnnmgabGreatDoor
