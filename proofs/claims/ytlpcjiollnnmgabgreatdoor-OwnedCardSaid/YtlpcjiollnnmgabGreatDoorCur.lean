/-
  THE PROGRAM's READER: fail, take, size, upTo, end, script: what each computes, by the plain readers; what is wrong goes out as a panic.
-/
import Derived.Test.YtlpcjiollnnmgabGreatDoorWire
import Derived.Test.YtlpcjiollnnmgabGreatDoorShaTop
import Derived.Test.YtlpcjiollnnmgabGreatDoorRegion3
set_option maxRecDepth 100000
namespace Go.Proofs.YtlpcjiollnnmgabGreatDoor
open Go.RowKit Nums
/-- what a reader panics with -/
def Fault (n : Int) : List PanicEntry := [{ v := .iface 178 (.agg #[.int .i64 n]), recovered := false }]
/-- as the plain reader: its value, what is left in the cursor at b; or the panic -/
def RP {α : Type} (x : Wr.R α) (val : α → Value) (b : Nat) (w : World) (e : Ending) (w' : World) : Prop := match x with
  | .ok a r => e = .returned (val a) ∧ Row w' b [.string (str r)] ∧ But w.heap.size b w w'
  | .bad n => e = .panicked (Fault (n : Int)) ∧ But w.heap.size b w w'
theorem RP.mkOk {α : Type} {x : Wr.R α} {val : α → Value} {b : Nat} {w w' : World} {a : α} {r : List UInt8} (hx : x = .ok a r) (h1 : Row w' b [.string (str r)]) (h2 : But w.heap.size b w w') : RP x val b w (.returned (val a)) w' := by
  subst hx; exact ⟨rfl, h1, h2⟩
theorem RP.mkBad {α : Type} {x : Wr.R α} {val : α → Value} {b : Nat} {w w' : World} {n : Nat} (hx : x = .bad n) (h2 : But w.heap.size b w w') : RP x val b w (.panicked (Fault (n : Int))) w' := by
  subst hx; exact ⟨rfl, h2⟩
theorem fail_calls (n : Int) (w : World) : Calls Tryz.prog 81 #[.int .i64 n] w fun e w' => e = .panicked (Fault n) ∧ w' = w := by
  go_enter Tryz.func81, Tryz.ntmps81
  go_wp2_with fail
  exact ⟨rfl, rfl, rfl⟩
theorem take_calls (b n : Nat) (l : List UInt8) (w : World) (hr : Row w b [.string (str l)]) (_ : n < 4611686018427387904) :
    Calls Tryz.prog 72 #[.pointer (some ⟨b, 0, none⟩), .int .i64 n] w (RP (Wr.take n l) (fun t => .string (str t)) b w) := by
  have hc := hr.cell 0
  have hz := hr.free 0
  by_cases h : l.length < n
  · have e0 : Wr.take n l = .bad 1 := if_pos h
    rw [e0]
    have p1 : (l.length : Int) < (n : Int) := by omega
    clear e0 hr
    go_enter Tryz.func72, Tryz.ntmps72
    go_wp2_with fail
    refine (fail_calls 1 w).mono ?_
    rintro e w1 ⟨rfl, rfl⟩
    exact ⟨rfl, rfl, But.refl _ _ _⟩
  · have e0 : Wr.take n l = .ok (l.take n) (l.drop n) := if_neg h
    rw [e0]
    have p1 : ¬ (l.length : Int) < (n : Int) := by omega
    have p2 : (n : Int) ≤ (l.length : Int) := by omega
    have HR := Lib.hid (hr.set 0 (.string (str (l.drop n))))
    clear e0 hr
    go_enter Tryz.func72, Tryz.ntmps72
    go_wp2_with fail
    go_ret
    exact ⟨rfl, HR.out, (But.refl _ _ _).setOwn _ _⟩
theorem end_calls (b : Nat) (l : List UInt8) (w : World) (hr : Row w b [.string (str l)]) :
    Calls Tryz.prog 112 #[.pointer (some ⟨b, 0, none⟩)] w fun e w' => (if l = [] then e = .returned (.tuple #[]) else e = .panicked (Fault 5)) ∧ w' = w := by
  have hc := hr.cell 0
  by_cases h : l = []
  · simp only [if_pos h]
    subst h
    go_enter Tryz.func112, Tryz.ntmps112
    go_wp2_with fail
    go_end0
    exact ⟨rfl, rfl⟩
  · simp only [if_neg h]
    have hne : l.isEmpty = false := by cases l with
      | nil => exact absurd rfl h
      | cons => rfl
    go_enter Tryz.func112, Tryz.ntmps112
    go_wp2_with fail
    refine (fail_calls 5 w).mono ?_
    rintro e w1 ⟨rfl, rfl⟩
    exact ⟨rfl, rfl, rfl⟩
theorem U_le (u : List UInt8) (h : u.length ≤ 8) : U (Sip.le u) = (Sip.leN u : Int) := by
  have h1 := Sip.leN_lt u
  have h2 : 2 ^ (8 * u.length) ≤ 2 ^ 64 := Nat.pow_le_pow_right (by decide) (by omega)
  unfold Sip.le
  rw [U_nat, Nat.mod_eq_of_lt (by omega)]
theorem RP.keep {α : Type} {x : Wr.R α} {val : α → Value} {b : Nat} {w w1 : World} {e : Ending} {w' : World} (h : RP x val b w1 e w') (hb : But w.heap.size b w w1) : RP x val b w e w' := by
  cases x with
  | ok a r => obtain ⟨h1, h2, h3⟩ := h; exact ⟨h1, h2, hb.trans (h3.mono hb.size)⟩
  | bad n => obtain ⟨h1, h3⟩ := h; exact ⟨h1, hb.trans (h3.mono hb.size)⟩
set_option maxHeartbeats 2000000 in
theorem size_calls (b : Nat) (l : List UInt8) (w : World) (hr : Row w b [.string (str l)]) :
    Calls Tryz.prog 115 #[.pointer (some ⟨b, 0, none⟩)] w (RP (Wr.size l) (fun n => .int .u64 (n : Int)) b w) := by
  have T1 := Lib.hid (take_calls b 1 l w hr (by omega))
  have hb := hr.lt
  clear hr
  cases l with
  | nil =>
    go_enter Tryz.func115, Tryz.ntmps115
    go_wp2_with fail
    refine T1.out.mono ?_
    rintro e w1 ⟨rfl, h1⟩
    exact ⟨rfl, rfl, h1⟩
  | cons x r =>
    have e0 : Wr.take 1 (x :: r) = .ok [x] r := by simp [Wr.take]
    have e1 : Wr.size (x :: r) = if x < 253 then .ok x.toNat r else Wr.rest x r := by unfold Wr.size; rw [e0]; rfl
    rw [e0] at T1
    have EQ := Lib.hid e1
    clear e0 e1
    have hY : Y x = (x.toNat : Int) := rfl
    have hx := x.toNat_lt
    by_cases hlt : x < 253
    · have h' := UInt8.lt_iff_toNat_lt.1 hlt
      have h3 : x.toNat < 253 := h'
      rw [if_pos hlt] at EQ
      have n1 : ¬ Y (nth [x] 0) = 253 := by show ¬ Y x = 253; omega
      have n2 : ¬ Y (nth [x] 0) = 254 := by show ¬ Y x = 254; omega
      have n3 : ¬ Y (nth [x] 0) = 255 := by show ¬ Y x = 255; omega
      clear hlt h' hY hx
      go_enter Tryz.func115, Tryz.ntmps115
      go_wp2_with fail
      refine T1.out.mono ?_
      rintro e w1 ⟨rfl, h1, h2⟩
      go_wp2_with fail
      go_ret
      exact RP.mkOk EQ.out h1 h2
    · have h' : ¬ x.toNat < 253 := fun h => hlt (UInt8.lt_iff_toNat_lt.2 h)
      rw [if_neg hlt] at EQ
      have hc : x = 253 ∨ x = 254 ∨ x = 255 := by
        have h3 : x.toNat = 253 ∨ x.toNat = 254 ∨ x.toNat = 255 := by omega
        rcases h3 with h | h | h
        · exact .inl (UInt8.toNat_inj.1 h)
        · exact .inr (.inl (UInt8.toNat_inj.1 h))
        · exact .inr (.inr (UInt8.toNat_inj.1 h))
      clear hlt h' hY hx
      rcases hc with rfl | rfl | rfl
      · have EQ2 := Lib.hid (show Wr.size (253 :: r) = (Wr.take 2 r).bind fun u r' => if Sip.leN u < 253 then .bad 2 else .ok (Sip.leN u) r' from EQ.out)
        clear EQ
        go_enter Tryz.func115, Tryz.ntmps115
        go_wp2_with fail
        refine T1.out.mono ?_
        rintro e w1 ⟨rfl, h1, h2⟩
        have T2 := Lib.hid (take_calls b 2 r w1 h1 (by omega))
        have B1 := Lib.hid h2
        have z1 := h2.size
        clear h1 h2 T1
        go_wp2_with fail
        refine T2.out.mono ?_
        clear T2
        by_cases hk : r.length < 2
        · rw [show Wr.take 2 r = .bad 1 from if_pos hk] at EQ2 ⊢
          rintro e w2 ⟨rfl, h3⟩
          exact ⟨rfl, RP.mkBad EQ2.out (B1.out.trans (h3.mono z1))⟩
        · rw [show Wr.take 2 r = .ok (r.take 2) (r.drop 2) from if_neg hk] at EQ2 ⊢
          rintro e w2 ⟨rfl, h3, h4⟩
          have hul : (r.take 2).length = 2 := by rw [List.length_take]; omega
          have hb2 : b < w2.heap.size := by have := h4.size; omega
          have B2 := Lib.hid (B1.out.trans (h4.mono z1))
          have R2 := Lib.hid h3
          have z2 := B2.out.size
          clear h3 h4 B1 z1 hk
          obtain ⟨cap, wc, hconv, hbel, hby, hsz⟩ := conv_str (P := Tryz.prog) w2 9 35 5 (r.take 2) Tryz.underlying9 Tryz.underlying35 Tryz.underlying5
          rw [hul] at hconv
          have B3 := Lib.hid (B2.out.trans ((But.of_below (S := b) hbel).mono z2))
          have R3 := Lib.hid (R2.out.below hbel hb2)
          have CJ := Lib.hid (fun (j : Nat) (hj : j < 2) => (show wc.cell? ⟨w2.heap.size, j, none⟩ = some (.int .u8 (Y (nth (r.take 2) j))) by have := hby j (by omega); simpa using this))
          clear hbel hby B2 R2 hb2
          generalize r.take 2 = u at hul hconv CJ EQ2 ⊢
          have HL := Lib.hid hul
          clear hul
          go_wp2_with fail
          clear hconv
          go_loopw [6, 26] (fun xv iv wr => ∃ i : Nat, i ≤ 2 ∧ iv = .int .i64 i ∧ xv = .int .u64 (U (Sip.le (u.take i))) ∧ wr = wc) (fun _ iv _ => 2 - (intOf iv).toNat)
          case atStart => exact ⟨0, by omega, rfl, rfl, rfl⟩
          case round =>
            obtain ⟨k, hk, rfl, rfl, rfl⟩ := hrel
            by_cases hlt : k < 2
            · have p1 : (k : Int) < 2 := by omega
              have hd := Lib.hid (Sip.le_take u k (by rw [HL.out]; exact hlt) (by omega))
              have cc := CJ.out k hlt
              have h8 : 0 ≤ 8 * (k : Int) := by omega
              go_wp2_with fail
              go_roundw
              case rel => exact ⟨k + 1, by omega, by go_num, by rw [hd.out], by first | trivial | rfl⟩
              case measure => simp [intOf]; omega
            · obtain rfl : k = 2 := by omega
              have e3 : U (Sip.le (u.take 2)) = (Sip.leN u : Int) := by rw [List.take_of_length_le (by rw [HL.out]; omega), U_le u (by rw [HL.out]; omega)]
              rw [e3]
              clear e3 hlt hk
              by_cases hs : Sip.leN u < 253
              · have p2 : (Sip.leN u : Int) < 253 := by omega
                go_wp2_with fail
                refine (fail_calls 2 wr).mono ?_
                rintro e w3 ⟨rfl, rfl⟩
                exact ⟨rfl, RP.mkBad (n := 2) (EQ2.out.trans (if_pos hs)) B3.out⟩
              · have p2 : ¬ (Sip.leN u : Int) < 253 := by omega
                go_wp2_with fail
                go_ret
                exact RP.mkOk (EQ2.out.trans (if_neg hs)) R3.out B3.out
      · have EQ2 := Lib.hid (show Wr.size (254 :: r) = (Wr.take 4 r).bind fun u r' => if Sip.leN u < 65536 then .bad 2 else .ok (Sip.leN u) r' from EQ.out)
        clear EQ
        go_enter Tryz.func115, Tryz.ntmps115
        go_wp2_with fail
        refine T1.out.mono ?_
        rintro e w1 ⟨rfl, h1, h2⟩
        have T2 := Lib.hid (take_calls b 4 r w1 h1 (by omega))
        have B1 := Lib.hid h2
        have z1 := h2.size
        clear h1 h2 T1
        go_wp2_with fail
        refine T2.out.mono ?_
        clear T2
        by_cases hk : r.length < 4
        · rw [show Wr.take 4 r = .bad 1 from if_pos hk] at EQ2 ⊢
          rintro e w2 ⟨rfl, h3⟩
          exact ⟨rfl, RP.mkBad EQ2.out (B1.out.trans (h3.mono z1))⟩
        · rw [show Wr.take 4 r = .ok (r.take 4) (r.drop 4) from if_neg hk] at EQ2 ⊢
          rintro e w2 ⟨rfl, h3, h4⟩
          have hul : (r.take 4).length = 4 := by rw [List.length_take]; omega
          have hb2 : b < w2.heap.size := by have := h4.size; omega
          have B2 := Lib.hid (B1.out.trans (h4.mono z1))
          have R2 := Lib.hid h3
          have z2 := B2.out.size
          clear h3 h4 B1 z1 hk
          obtain ⟨cap, wc, hconv, hbel, hby, hsz⟩ := conv_str (P := Tryz.prog) w2 9 35 5 (r.take 4) Tryz.underlying9 Tryz.underlying35 Tryz.underlying5
          rw [hul] at hconv
          have B3 := Lib.hid (B2.out.trans ((But.of_below (S := b) hbel).mono z2))
          have R3 := Lib.hid (R2.out.below hbel hb2)
          have CJ := Lib.hid (fun (j : Nat) (hj : j < 4) => (show wc.cell? ⟨w2.heap.size, j, none⟩ = some (.int .u8 (Y (nth (r.take 4) j))) by have := hby j (by omega); simpa using this))
          clear hbel hby B2 R2 hb2
          generalize r.take 4 = u at hul hconv CJ EQ2 ⊢
          have HL := Lib.hid hul
          clear hul
          go_wp2_with fail
          clear hconv
          go_loopw [6, 26] (fun xv iv wr => ∃ i : Nat, i ≤ 4 ∧ iv = .int .i64 i ∧ xv = .int .u64 (U (Sip.le (u.take i))) ∧ wr = wc) (fun _ iv _ => 4 - (intOf iv).toNat)
          case atStart => exact ⟨0, by omega, rfl, rfl, rfl⟩
          case round =>
            obtain ⟨k, hk, rfl, rfl, rfl⟩ := hrel
            by_cases hlt : k < 4
            · have p1 : (k : Int) < 4 := by omega
              have hd := Lib.hid (Sip.le_take u k (by rw [HL.out]; exact hlt) (by omega))
              have cc := CJ.out k hlt
              have h8 : 0 ≤ 8 * (k : Int) := by omega
              go_wp2_with fail
              go_roundw
              case rel => exact ⟨k + 1, by omega, by go_num, by rw [hd.out], by first | trivial | rfl⟩
              case measure => simp [intOf]; omega
            · obtain rfl : k = 4 := by omega
              have e3 : U (Sip.le (u.take 4)) = (Sip.leN u : Int) := by rw [List.take_of_length_le (by rw [HL.out]; omega), U_le u (by rw [HL.out]; omega)]
              rw [e3]
              clear e3 hlt hk
              by_cases hs : Sip.leN u < 65536
              · have p2 : (Sip.leN u : Int) < 65536 := by omega
                go_wp2_with fail
                refine (fail_calls 2 wr).mono ?_
                rintro e w3 ⟨rfl, rfl⟩
                exact ⟨rfl, RP.mkBad (n := 2) (EQ2.out.trans (if_pos hs)) B3.out⟩
              · have p2 : ¬ (Sip.leN u : Int) < 65536 := by omega
                go_wp2_with fail
                go_ret
                exact RP.mkOk (EQ2.out.trans (if_neg hs)) R3.out B3.out
      · have EQ2 := Lib.hid (show Wr.size (255 :: r) = (Wr.take 8 r).bind fun u r' => if Sip.leN u < 4294967296 then .bad 2 else .ok (Sip.leN u) r' from EQ.out)
        clear EQ
        go_enter Tryz.func115, Tryz.ntmps115
        go_wp2_with fail
        refine T1.out.mono ?_
        rintro e w1 ⟨rfl, h1, h2⟩
        have T2 := Lib.hid (take_calls b 8 r w1 h1 (by omega))
        have B1 := Lib.hid h2
        have z1 := h2.size
        clear h1 h2 T1
        go_wp2_with fail
        refine T2.out.mono ?_
        clear T2
        by_cases hk : r.length < 8
        · rw [show Wr.take 8 r = .bad 1 from if_pos hk] at EQ2 ⊢
          rintro e w2 ⟨rfl, h3⟩
          exact ⟨rfl, RP.mkBad EQ2.out (B1.out.trans (h3.mono z1))⟩
        · rw [show Wr.take 8 r = .ok (r.take 8) (r.drop 8) from if_neg hk] at EQ2 ⊢
          rintro e w2 ⟨rfl, h3, h4⟩
          have hul : (r.take 8).length = 8 := by rw [List.length_take]; omega
          have hb2 : b < w2.heap.size := by have := h4.size; omega
          have B2 := Lib.hid (B1.out.trans (h4.mono z1))
          have R2 := Lib.hid h3
          have z2 := B2.out.size
          clear h3 h4 B1 z1 hk
          obtain ⟨cap, wc, hconv, hbel, hby, hsz⟩ := conv_str (P := Tryz.prog) w2 9 35 5 (r.take 8) Tryz.underlying9 Tryz.underlying35 Tryz.underlying5
          rw [hul] at hconv
          have B3 := Lib.hid (B2.out.trans ((But.of_below (S := b) hbel).mono z2))
          have R3 := Lib.hid (R2.out.below hbel hb2)
          have CJ := Lib.hid (fun (j : Nat) (hj : j < 8) => (show wc.cell? ⟨w2.heap.size, j, none⟩ = some (.int .u8 (Y (nth (r.take 8) j))) by have := hby j (by omega); simpa using this))
          clear hbel hby B2 R2 hb2
          generalize r.take 8 = u at hul hconv CJ EQ2 ⊢
          have HL := Lib.hid hul
          clear hul
          go_wp2_with fail
          clear hconv
          go_loopw [6, 26] (fun xv iv wr => ∃ i : Nat, i ≤ 8 ∧ iv = .int .i64 i ∧ xv = .int .u64 (U (Sip.le (u.take i))) ∧ wr = wc) (fun _ iv _ => 8 - (intOf iv).toNat)
          case atStart => exact ⟨0, by omega, rfl, rfl, rfl⟩
          case round =>
            obtain ⟨k, hk, rfl, rfl, rfl⟩ := hrel
            by_cases hlt : k < 8
            · have p1 : (k : Int) < 8 := by omega
              have hd := Lib.hid (Sip.le_take u k (by rw [HL.out]; exact hlt) (by omega))
              have cc := CJ.out k hlt
              have h8 : 0 ≤ 8 * (k : Int) := by omega
              go_wp2_with fail
              go_roundw
              case rel => exact ⟨k + 1, by omega, by go_num, by rw [hd.out], by first | trivial | rfl⟩
              case measure => simp [intOf]; omega
            · obtain rfl : k = 8 := by omega
              have e3 : U (Sip.le (u.take 8)) = (Sip.leN u : Int) := by rw [List.take_of_length_le (by rw [HL.out]; omega), U_le u (by rw [HL.out]; omega)]
              rw [e3]
              clear e3 hlt hk
              by_cases hs : Sip.leN u < 4294967296
              · have p2 : (Sip.leN u : Int) < 4294967296 := by omega
                go_wp2_with fail
                refine (fail_calls 2 wr).mono ?_
                rintro e w3 ⟨rfl, rfl⟩
                exact ⟨rfl, RP.mkBad (n := 2) (EQ2.out.trans (if_pos hs)) B3.out⟩
              · have p2 : ¬ (Sip.leN u : Int) < 4294967296 := by omega
                go_wp2_with fail
                go_ret
                exact RP.mkOk (EQ2.out.trans (if_neg hs)) R3.out B3.out
theorem upTo_calls (b lo hi : Nat) (l : List UInt8) (w : World) (hr : Row w b [.string (str l)]) (h1 : lo < 4611686018427387904) (h2 : hi < 4611686018427387904) :
    Calls Tryz.prog 74 #[.pointer (some ⟨b, 0, none⟩), .int .i64 lo, .int .i64 hi] w (RP (Wr.upTo lo hi l) (fun n => .int .i64 (n : Int)) b w) := by
  have T1 := Lib.hid (size_calls b l w hr)
  have e1 : IntKind.u64.wrap (lo : Int) = lo := by rw [u64_wrap, U_nat]; omega
  have e2 : IntKind.u64.wrap (hi : Int) = hi := by rw [u64_wrap, U_nat]; omega
  clear hr
  go_enter Tryz.func74, Tryz.ntmps74
  go_wp2_with fail
  refine T1.out.mono ?_
  clear T1
  cases hx : Wr.size l with
  | bad n =>
    rintro e w1 ⟨rfl, h⟩
    exact ⟨rfl, RP.mkBad (by unfold Wr.upTo; rw [hx]; rfl) h⟩
  | ok n r =>
    rintro e w1 ⟨rfl, h3, h4⟩
    have EQ := Lib.hid (show Wr.upTo lo hi l = if n < lo ∨ hi < n then .bad 3 else .ok n r by unfold Wr.upTo; rw [hx]; rfl)
    clear hx
    by_cases c1 : n < lo
    · have p1 : (n : Int) < (lo : Int) := by omega
      go_wp2_with fail
      refine (fail_calls 3 _).mono ?_
      rintro e w2 ⟨rfl, rfl⟩
      exact ⟨rfl, RP.mkBad (n := 3) (EQ.out.trans (if_pos (.inl c1))) h4⟩
    · have p1 : ¬ (n : Int) < (lo : Int) := by omega
      by_cases c2 : hi < n
      · have p2 : (n : Int) > (hi : Int) := by omega
        go_wp2_with fail
        refine (fail_calls 3 _).mono ?_
        rintro e w2 ⟨rfl, rfl⟩
        exact ⟨rfl, RP.mkBad (n := 3) (EQ.out.trans (if_pos (.inr c2))) h4⟩
      · have p2 : ¬ (n : Int) > (hi : Int) := by omega
        have e3 : IntKind.i64.wrap (n : Int) = n := IntWalk.i64_in _ (by omega)
        go_wp2_with fail
        go_ret
        exact RP.mkOk (EQ.out.trans (if_neg (by omega))) h3 h4
end Go.Proofs.YtlpcjiollnnmgabGreatDoor
