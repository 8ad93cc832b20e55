/-
  THE WALKS OF SIPHASH: number, Word, left, RotateLeft64, sipRounds, both Sip: what each computes.
-/
import Derived.Test.YtlpcjiollnnmgabGreatDoorRows
import Derived.Test.YtlpcjiollnnmgabGreatDoorSip
import Derived.WalkKit
import Derived.Outline
import Derived.LoopTactic
import Derived.WalkLawsBesides
import Derived.Deep.QuietTactic
import Derived.BigQuiet
import Derived.StillTailTactics
namespace Go.Proofs.YtlpcjiollnnmgabGreatDoor
open Go.RowKit Nums
theorem mixedS : Tryz.prog.follows .mixedOrders = true := by kernel_rfl
theorem and63 (k : Nat) (h : k < 64) : U (UInt64.ofNat k &&& toU 63) = (k : Int) := by
  unfold U; rw [UInt64.toNat_and, UInt64.toNat_ofNat', show (toU 63).toNat = 63 % 2 ^ 64 from rfl]
  have : k % 2 ^ 64 = k := Nat.mod_eq_of_lt (by omega)
  rw [this, show 63 % 2 ^ 64 = 2 ^ 6 - 1 by decide, Nat.and_two_pow_sub_one_eq_mod]; congr 1; omega

theorem rotl_calls (x : UInt64) (k : Nat) (hk : k < 64) (w : World) :
    Calls Tryz.prog 110 #[.int .u64 (U x), .int .i64 k] w fun e w' => e = .returned (.int .u64 (U (rotl x k))) ∧ w = w' := by
  have h1 : (k : Int) ≤ 64 := by omega
  have h2 := and63 k hk
  go_enter Tryz.func110, Tryz.ntmps110
  go_wp2
  go_ret
  have h3 : (U (toU (64 - (k : Int)))).toNat = 64 - k := by rw [U_toU]; omega
  exact ⟨by show Ending.returned (.int .u64 (U (shl x k ||| shr x (U (toU (64 - (k : Int)))).toNat))) = _; rw [h3]; rfl, rfl⟩

theorem left_calls (x : UInt64) (k : Nat) (hk : k < 64) (w : World) :
    Calls Tryz.prog 160 #[.int .u64 (U x), .int .i64 k] w fun e w' => e = .returned (.int .u64 (U (rotl x k))) ∧ ∃ n, w' = w.drewN n := by
  have h1 : (k : Int) ≤ 64 := by omega
  go_enter Tryz.func160, Tryz.ntmps160
  go_wp2
  go_quiet (fail)
  go_wp2
  go_ret
  exact ⟨rfl, _, rfl⟩

theorem number_calls (s : List UInt8) (hs : s.length ≤ 9223372036854775807) (w : World) :
    Calls Tryz.prog 150 #[.string (str s)] w fun e w' => e = .returned (.int .u64 (U (Sip.le s))) ∧ w = w' := by
  have h0 := Lib.hid (show Sip.le (s.drop s.length) = toU 0 by rw [List.drop_length]; rfl)
  go_enter Tryz.func150, Tryz.ntmps150
  go_wp2
  go_loop [3, 4] (fun n i => ∃ k : Nat, k ≤ s.length ∧ i = .int .i64 ((k : Int) - 1) ∧ n = .int .u64 (U (Sip.le (s.drop k)))) (fun _ i => (intOf i + 1).toNat)
  case atStart => exact ⟨s.length, by omega, by go_num, by rw [h0.out]; rfl⟩
  case round =>
    obtain ⟨k, hk, rfl, rfl⟩ := hrel
    by_cases h : 0 < k
    · have hd := Lib.hid (Sip.le_drop s (k - 1) (by omega))
      go_wp2
      go_round
      case rel => exact ⟨k - 1, by omega, by go_num, by rw [hd.out, show k - 1 + 1 = k by omega]⟩
      case measure => simp [intOf]; omega
    · go_wp2
      go_ret
      have : k = 0 := by omega
      subst this
      exact ⟨rfl, rfl⟩

theorem word_calls (s : List UInt8) (hs : 8 ≤ s.length) (hs' : s.length ≤ 9223372036854775807) (w : World) :
    Calls Tryz.prog 75 #[.string (str s)] w fun e w' => e = .returned (.int .u64 (U (Sip.le (s.take 8)))) ∧ w = w' := by
  go_enter Tryz.func75, Tryz.ntmps75
  go_wp2
  go_loop [3, 5] (fun n i => ∃ k : Nat, k ≤ 8 ∧ i = .int .i64 k ∧ n = .int .u64 (U (Sip.le (s.take k)))) (fun _ i => 8 - (intOf i).toNat)
  case atStart => exact ⟨0, by omega, rfl, rfl⟩
  case round =>
    obtain ⟨k, hk, rfl, rfl⟩ := hrel
    by_cases h : k < 8
    · have hd := Lib.hid (Sip.le_take s k (by omega) h)
      have h8 : 0 ≤ 8 * (k : Int) := by omega
      go_wp2
      go_round
      case rel => exact ⟨k + 1, by omega, by go_num, by rw [hd.out]⟩
      case measure => simp [intOf]; omega
    · go_wp2
      go_ret
      have : k = 8 := by omega
      subst this
      exact ⟨rfl, rfl⟩

theorem left_any (x : UInt64) (k : Int) (h0 : 0 ≤ k) (h1 : k < 64) (w : World) :
    Calls Tryz.prog 160 #[.int .u64 (U x), .int .i64 k] w fun e w' => e = .returned (.int .u64 (U (rotl x k.toNat))) ∧ ∃ n, w' = w.drewN n := by
  obtain ⟨n, rfl⟩ := Int.eq_ofNat_of_zero_le h0
  exact left_calls x n (by omega) w
theorem rotl_any (x : UInt64) (k : Int) (h0 : 0 ≤ k) (h1 : k < 64) (w : World) :
    Calls Tryz.prog 110 #[.int .u64 (U x), .int .i64 k] w fun e w' => e = .returned (.int .u64 (U (rotl x k.toNat))) ∧ w = w' := by
  obtain ⟨n, rfl⟩ := Int.eq_ofNat_of_zero_le h0
  exact rotl_calls x n (by omega) w

/-- block b holds the four words -/
def Four (w : World) (b : Nat) (A B C D : UInt64) : Prop :=
  ∃ T, w.heap[b]? = some (.cells #[.int .u64 (U A), .int .u64 (U B), .int .u64 (U C), .int .u64 (U D)] T)
theorem Four.all {w : World} {b : Nat} {A B C D : UInt64} (h : Four w b A B C D) :
    (w.cell? ⟨b, 0, none⟩ = some (.int .u64 (U A)) ∧ w.cell? ⟨b, 1, none⟩ = some (.int .u64 (U B)) ∧ w.cell? ⟨b, 2, none⟩ = some (.int .u64 (U C)) ∧ w.cell? ⟨b, 3, none⟩ = some (.int .u64 (U D))) ∧
    w.frozen? ⟨b, 0, none⟩ = false ∧ w.frozen? ⟨b, 1, none⟩ = false ∧ w.frozen? ⟨b, 2, none⟩ = false ∧ w.frozen? ⟨b, 3, none⟩ = false := by
  obtain ⟨T, h⟩ := h; simp [World.cell?, World.frozen?, h]
section
variable {w : World} {b : Nat} {A B C D : UInt64} (h : Four w b A B C D) (x : UInt64)
include h
theorem Four.set0 : Four (w.setCell ⟨b, 0, none⟩ (.int .u64 (U x))) b x B C D := by
  obtain ⟨T, h⟩ := h; exact ⟨T, by simp [World.setCell, Array.getElem?_modify, h]⟩
theorem Four.set1 : Four (w.setCell ⟨b, 1, none⟩ (.int .u64 (U x))) b A x C D := by
  obtain ⟨T, h⟩ := h; exact ⟨T, by simp [World.setCell, Array.getElem?_modify, h]⟩
theorem Four.set2 : Four (w.setCell ⟨b, 2, none⟩ (.int .u64 (U x))) b A B x D := by
  obtain ⟨T, h⟩ := h; exact ⟨T, by simp [World.setCell, Array.getElem?_modify, h]⟩
theorem Four.set3 : Four (w.setCell ⟨b, 3, none⟩ (.int .u64 (U x))) b A B C x := by
  obtain ⟨T, h⟩ := h; exact ⟨T, by simp [World.setCell, Array.getElem?_modify, h]⟩
theorem Four.drew : Four w.drew b A B C D := h
end

set_option maxHeartbeats 400000 in
theorem sipRounds_calls (b : Nat) (s : Sip.St) (n : Nat) (hn : n ≤ 100) (w : World) (h : Four w b s.a s.b s.c s.d) :
    Calls Tryz.prog 151 #[.slice (some ⟨b, 0, none⟩) 4 4, .int .i64 n] w fun e w' =>
      e = .returned (.slice (some ⟨w.heap.size, 0, none⟩) 4 4) ∧ Four w' w.heap.size (Sip.rounds n s).a (Sip.rounds n s).b (Sip.rounds n s).c (Sip.rounds n s).d ∧ Below w.heap.size w w' := by
  obtain ⟨⟨c0, c1, c2, c3⟩, _⟩ := h.all
  clear h
  go_enter Tryz.func151, Tryz.ntmps151
  go_wp2
  clear c0 c1 c2 c3
  go_loopw [1, 5, 6, 7, 8] (fun i a b c d wr => ∃ k m : Nat, k ≤ n ∧ i = .int .i64 ((n : Int) - k) ∧ a = .int .u64 (U (Sip.rounds k s).a) ∧ b = .int .u64 (U (Sip.rounds k s).b) ∧ c = .int .u64 (U (Sip.rounds k s).c) ∧ d = .int .u64 (U (Sip.rounds k s).d) ∧ wr = w.drewN m) (fun i _ _ _ _ _ => (intOf i).toNat)
  case atStart => exact ⟨0, 0, by omega, by go_num, rfl, rfl, rfl, rfl, rfl⟩
  case round =>
    obtain ⟨k, m, hk, rfl, rfl, rfl, rfl, rfl, rfl⟩ := hrel
    by_cases hlt : k < n
    · go_wp2_with (go_at_call 160; refine (left_any _ _ (by omega) (by omega) _).mono ?_; rintro e w' ⟨rfl, m', rfl⟩)
      go_roundw
      case rel => exact ⟨k + 1, _, by omega, by go_num, rfl, rfl, rfl, rfl, rfl⟩
      case measure => simp [intOf]; omega
    · go_wp2
      go_ret
      obtain rfl : k = n := by omega
      refine ⟨rfl, ?_, (below_drewN (Below.refl _ w) m).alloc (Nat.le_refl _) _⟩
      refine ⟨26, ?_⟩
      show ((w.drewN m).heap.push _)[w.heap.size]? = _
      rw [show w.heap.size = (w.drewN m).heap.size from rfl, Array.getElem?_push_size]

theorem run_idx4 (ev : Operand → Value) (o : Oper) (w : World) (hc : ∀ v, ev (.const v) = v) {b i : Nat} {x : Operand} (p : o.op = .indexAddr 174 x (.const (.int .i64 i))) (h : ev x = .pointer (some ⟨b, 0, none⟩)) (hi : i < 4) :
    (execOp ev o).run Tryz.prog w = .ok (.value (.pointer (some ⟨b, i, none⟩))) w := by
  have hi' : (i : Int) < 4 := by omega
  have hi0 : (0 : Int) ≤ i := by omega
  have hadd : ∀ n : Nat, Addr.add ⟨b, 0, none⟩ n = ⟨b, n, none⟩ := fun n => by rw [Addr.add_lit, Nat.zero_add]
  simp [execOp, p, h, hc, go_sem, ↓IntWalk.iteOmega]
theorem run_load64 (ev : Operand → Value) (o : Oper) (w : World) {p : Operand} {ad : Addr} {x : UInt64} (hp : o.op = .load 26 p) (h : ev p = .pointer (some ad)) (cx : w.cell? ad = some (.int .u64 (U x))) :
    (execOp ev o).run Tryz.prog w = .ok (.value (.int .u64 (U x))) w := by
  simp [execOp, hp, h, go_sem, cx]
theorem run_rot (ev : Operand → Value) (o : Oper) (w : World) (hc : ∀ v, ev (.const v) = v) {x : Operand} {k : Int} {v : Value} {ts : Array TypeId} (hp : o.op = .call { callee := .value (.func 110), args := #[x, .const (.int .i64 k)], argTypes := ts }) (h : ev x = v) (hf : ev (.func 110) = .func (.func 110) #[] #[]) :
    (execOp ev o).run Tryz.prog w = .ok (.enter 110 #[v, .int .i64 k]) w := by
  simp [execOp, hp, h, hc, hf, go_sem]
theorem run_xor64 (ev : Operand → Value) (o : Oper) (w : World) {p q : Operand} {x y : UInt64} {t : TypeId} (hp : o.op = .binOp .xor 26 p q t) (h : ev p = .int .u64 (U x)) (h' : ev q = .int .u64 (U y)) :
    (execOp ev o).run Tryz.prog w = .ok (.value (.int .u64 (U (x ^^^ y)))) w := by
  simp [execOp, hp, h, h', go_sem]
theorem run_store64 (ev : Operand → Value) (o : Oper) (w : World) {p q : Operand} {ad : Addr} {x : UInt64} {u : Value} (hp : o.op = .store 26 p q) (h : ev p = .pointer (some ad)) (h' : ev q = .int .u64 (U x)) (cx : w.cell? ad = some u) (fz : w.frozen? ad = false) :
    (execOp ev o).run Tryz.prog w = .ok .skip (w.setCell ad (.int .u64 (U x))) := by
  simp [execOp, hp, h, h', go_sem, cx, fz]
theorem rot_region {id : Nat} {o0 o1 o2 o3 o4 o5 o6 o7 : Oper} {Q : Exit → Act → World → Prop} {a : Act} {w : World} (b i j s : Nat) (k : Int) (x y : UInt64)
    (e0 : o0.op = .indexAddr 174 (.tmp 1) (.const (.int .i64 i)) ∧ o0.dst = some s ∧ o0.guard = none)
    (e1 : o1.op = .load 26 (.tmp s) ∧ o1.dst = some (s + 1) ∧ o1.guard = none)
    (e2 : o2.op = .call { callee := .value (.func 110), args := #[.tmp (s + 1), .const (.int .i64 k)], argTypes := #[26, 3] } ∧ o2.dst = some (s + 2) ∧ o2.guard = none)
    (e3 : o3.op = .indexAddr 174 (.tmp 1) (.const (.int .i64 j)) ∧ o3.dst = some (s + 3) ∧ o3.guard = none)
    (e4 : o4.op = .load 26 (.tmp (s + 3)) ∧ o4.dst = some (s + 4) ∧ o4.guard = none)
    (e5 : o5.op = .binOp .xor 26 (.tmp (s + 2)) (.tmp (s + 4)) 26 ∧ o5.dst = some (s + 5) ∧ o5.guard = none)
    (e6 : o6.op = .indexAddr 174 (.tmp 1) (.const (.int .i64 i)) ∧ o6.dst = some (s + 6) ∧ o6.guard = none)
    (e7 : o7.op = .store 26 (.tmp (s + 6)) (.tmp (s + 5)) ∧ o7.dst = none ∧ o7.guard = none)
    (hB : Region.lexTailB .any [o0, o1, o2, o3, o4, o5, o6, o7].toArray 7 = true)
    (ha : a.eval (.tmp 1) = .pointer (some ⟨b, 0, none⟩)) (hs : 1 < s) (hsz : s + 7 ≤ a.tmps.size) (hi : i < 4) (hj : j < 4) (hk : 0 ≤ k ∧ k < 64)
    (cx : w.cell? ⟨b, i, none⟩ = some (.int .u64 (U x))) (cy : w.cell? ⟨b, j, none⟩ = some (.int .u64 (U y))) (fz : w.frozen? ⟨b, i, none⟩ = false)
    (h : Q .normal (((((((a.put (some s) (.pointer (some ⟨b, i, none⟩))).put (some (s + 1)) (.int .u64 (U x))).put (some (s + 2)) (.int .u64 (U (rotl x k.toNat)))).put (some (s + 3)) (.pointer (some ⟨b, j, none⟩))).put (some (s + 4)) (.int .u64 (U y))).put (some (s + 5)) (.int .u64 (U (rotl x k.toNat ^^^ y)))).put (some (s + 6)) (.pointer (some ⟨b, i, none⟩)))
      (w.setCell ⟨b, i, none⟩ (.int .u64 (U (rotl x k.toNat ^^^ y)))).drew) :
    (Code.region id [o0, o1, o2, o3, o4, o5, o6, o7].toArray true).wp Tryz.prog Q a w := by
  obtain ⟨p0, q0, g0⟩ := e0
  obtain ⟨p1, q1, g1⟩ := e1
  obtain ⟨p2, q2, g2⟩ := e2
  obtain ⟨p3, q3, g3⟩ := e3
  obtain ⟨p4, q4, g4⟩ := e4
  obtain ⟨p5, q5, g5⟩ := e5
  obtain ⟨p6, q6, g6⟩ := e6
  obtain ⟨p7, q7, g7⟩ := e7
  have hcs : ∀ (a : Act) v, a.eval (.const v) = v := fun _ _ => rfl
  have hw1 : ∀ n, s ≤ n → (n : Nat) ≠ 1 := fun n h => by omega
  refine region_tail 7 mixedS hB ?_
  simp only [List.take_succ_cons, List.take_zero, List.drop_succ_cons, List.drop_zero]
  refine still_val g0 (run_idx4 _ _ _ (hcs _) p0 ha hi) ?_
  rw [q0]
  refine still_val g1 (run_load64 _ _ _ p1 (put_same _ _ _ (by omega)) cx) ?_
  rw [q1]
  refine still_enter g2 (run_rot _ _ _ (hcs _) p2 (put_same _ _ _ (by rw [put_size]; omega)) rfl) ((rotl_any x k hk.1 hk.2 _).mono fun _ _ h => ⟨h.1, h.2.symm⟩) ?_
  rw [q2]
  refine still_val g3 (run_idx4 _ _ _ (hcs _) p3 (by rw [put_ne _ _ _ _ (hw1 _ (by omega)), put_ne _ _ _ _ (hw1 _ (by omega)), put_ne _ _ _ _ (hw1 _ (by omega))]; exact ha) hj) ?_
  rw [q3]
  refine still_val g4 (run_load64 _ _ _ p4 (put_same _ _ _ (by simp only [put_size]; omega)) cy) ?_
  rw [q4]
  refine still_val g5 (run_xor64 _ _ _ p5 (by rw [put_ne _ _ _ _ (by omega), put_ne _ _ _ _ (by omega), put_same _ _ _ (by simp only [put_size]; omega)]) (put_same _ _ _ (by simp only [put_size]; omega))) ?_
  rw [q5]
  refine still_val g6 (run_idx4 _ _ _ (hcs _) p6 (by rw [put_ne _ _ _ _ (hw1 _ (by omega)), put_ne _ _ _ _ (hw1 _ (by omega)), put_ne _ _ _ _ (hw1 _ (by omega)), put_ne _ _ _ _ (hw1 _ (by omega)), put_ne _ _ _ _ (hw1 _ (by omega)), put_ne _ _ _ _ (hw1 _ (by omega))]; exact ha) hi) ?_
  rw [q6]
  refine wpStill_nil ?_
  refine list_skip g7 (run_store64 _ _ _ p7 (put_same _ _ _ (by simp only [put_size]; omega)) (by rw [put_ne _ _ _ _ (by omega), put_same _ _ _ (by simp only [put_size]; omega)]) cx fz) ?_
  rw [q7]
  have e : ∀ (a : Act) v, a.put none v = a := fun _ _ => rfl
  rw [e]
  exact wpList_nil h

set_option maxHeartbeats 1000000 in
theorem round_calls (b : Nat) (s : Sip.St) (n : Nat) (hn : n ≤ 100) (w : World) (h : Four w b s.a s.b s.c s.d) :
    Calls Tryz.prog 109 #[.int .i64 n, .pointer (some ⟨b, 0, none⟩)] w fun e w' =>
      e = .returned (.tuple #[]) ∧ Four w' b (Sip.rounds n s).a (Sip.rounds n s).b (Sip.rounds n s).c (Sip.rounds n s).d ∧ Below b w w' := by
  go_enter Tryz.func109, Tryz.ntmps109
  go_wp2
  go_loopw [4] (fun i wr => ∃ k : Nat, k ≤ n ∧ i = .int .i64 k ∧ Four wr b (Sip.rounds k s).a (Sip.rounds k s).b (Sip.rounds k s).c (Sip.rounds k s).d ∧ Below b w wr) (fun i _ => n - (intOf i).toNat)
  case atStart => exact ⟨0, by omega, rfl, h, Below.refl _ _⟩
  case round =>
    obtain ⟨k, hk, rfl, hf, hb⟩ := hrel
    have hst : ∃ st, st = Sip.rounds k s := ⟨_, rfl⟩
    obtain ⟨⟨A, B, C, D⟩, hst⟩ := hst
    rw [← hst] at hf
    replace hf : Four wr b A B C D := hf
    have hs := Lib.hid (show Sip.rounds (k + 1) s = Sip.round ⟨A, B, C, D⟩ by rw [hst]; rfl)
    have hst' := Lib.hid hst
    clear hst h
    by_cases hlt : k < n
    · obtain ⟨⟨c0, c1, c2, c3⟩, f0, f1, f2, f3⟩ := hf.all
      go_wp2_with fail
      generalize hx : A + B = xa1
      have hxa1 := Lib.hid hx
      clear hx
      generalize hx : C + D = xc1
      have hxc1 := Lib.hid hx
      clear hx
      replace hf := (hf.set0 xa1).set2 xc1
      replace hb := ((hb).setCell (p := ⟨b, 0, none⟩) (Nat.le_refl _) (.int .u64 (U xa1))).setCell (p := ⟨b, 2, none⟩) (Nat.le_refl _) (.int .u64 (U xc1))
      clear c0 c1 c2 c3 f0 f1 f2 f3
      generalize (wr.setCell _ _).setCell _ _ = wg1 at hf hb ⊢
      obtain ⟨⟨c0, c1, c2, c3⟩, f0, f1, f2, f3⟩ := hf.all
      go_cut [] (fun wc => Four wc b xa1 (rotl B 13 ^^^ xa1) xc1 D ∧ Below b w wc)
      case first =>
        refine rot_region b 1 0 18 13 B xa1 ⟨rfl, rfl, rfl⟩ ⟨rfl, rfl, rfl⟩ ⟨rfl, rfl, rfl⟩ ⟨rfl, rfl, rfl⟩ ⟨rfl, rfl, rfl⟩ ⟨rfl, rfl, rfl⟩ ⟨rfl, rfl, rfl⟩ ⟨rfl, rfl, rfl⟩ (by as_aux_lemma => kernel_rfl) rfl (by decide) (by simp) (by decide) (by decide) (by decide) c1 c0 f1 ?_
        go_step; go_frame; go_step
        (go_meet; case rel => exact ⟨(hf.set1 _).drew, (hb.setCell (Nat.le_refl _) _).drew⟩)
      case rest =>
      clear hf hb c0 c1 c2 c3 f0 f1 f2 f3
      obtain ⟨hf, hb⟩ := hcut
      generalize hx : rotl B 13 ^^^ xa1 = xb1 at hf
      have hxb1 := Lib.hid hx
      clear hx
      obtain ⟨⟨c0, c1, c2, c3⟩, f0, f1, f2, f3⟩ := hf.all
      go_wp2_with fail
      go_cut [] (fun wc => Four wc b xa1 xb1 xc1 (rotl D 16 ^^^ xc1) ∧ Below b w wc)
      case first =>
        refine rot_region b 3 2 25 16 D xc1 ⟨rfl, rfl, rfl⟩ ⟨rfl, rfl, rfl⟩ ⟨rfl, rfl, rfl⟩ ⟨rfl, rfl, rfl⟩ ⟨rfl, rfl, rfl⟩ ⟨rfl, rfl, rfl⟩ ⟨rfl, rfl, rfl⟩ ⟨rfl, rfl, rfl⟩ (by as_aux_lemma => kernel_rfl) rfl (by decide) (by simp) (by decide) (by decide) (by decide) c3 c2 f3 ?_
        go_step; go_frame; go_step
        (go_meet; case rel => exact ⟨(hf.set3 _).drew, (hb.setCell (Nat.le_refl _) _).drew⟩)
      case rest =>
      clear hf hb c0 c1 c2 c3 f0 f1 f2 f3
      obtain ⟨hf, hb⟩ := hcut
      generalize hx : rotl D 16 ^^^ xc1 = xd1 at hf
      have hxd1 := Lib.hid hx
      clear hx
      obtain ⟨⟨c0, c1, c2, c3⟩, f0, f1, f2, f3⟩ := hf.all
      go_wp2_with fail
      refine (rotl_any _ _ (by omega) (by omega) _).mono ?_
      rintro e w' ⟨rfl, rfl⟩
      go_wp2_with fail
      generalize hx : rotl xa1 32 = xa2
      have hxa2 := Lib.hid hx
      clear hx
      generalize hx : xc1 + xb1 = xc2
      have hxc2 := Lib.hid hx
      clear hx
      generalize hx : xa2 + xd1 = xa3
      have hxa3 := Lib.hid hx
      clear hx
      replace hf := ((hf.set0 xa2).set2 xc2).set0 xa3
      replace hb := (((hb).setCell (p := ⟨b, 0, none⟩) (Nat.le_refl _) (.int .u64 (U xa2))).setCell (p := ⟨b, 2, none⟩) (Nat.le_refl _) (.int .u64 (U xc2))).setCell (p := ⟨b, 0, none⟩) (Nat.le_refl _) (.int .u64 (U xa3))
      clear c0 c1 c2 c3 f0 f1 f2 f3
      generalize ((wc.setCell _ _).setCell _ _).setCell _ _ = wg2 at hf hb ⊢
      obtain ⟨⟨c0, c1, c2, c3⟩, f0, f1, f2, f3⟩ := hf.all
      go_cut [] (fun wc => Four wc b xa3 (rotl xb1 17 ^^^ xc2) xc2 xd1 ∧ Below b w wc)
      case first =>
        refine rot_region b 1 2 48 17 xb1 xc2 ⟨rfl, rfl, rfl⟩ ⟨rfl, rfl, rfl⟩ ⟨rfl, rfl, rfl⟩ ⟨rfl, rfl, rfl⟩ ⟨rfl, rfl, rfl⟩ ⟨rfl, rfl, rfl⟩ ⟨rfl, rfl, rfl⟩ ⟨rfl, rfl, rfl⟩ (by as_aux_lemma => kernel_rfl) rfl (by decide) (by simp) (by decide) (by decide) (by decide) c1 c2 f1 ?_
        go_step; go_frame; go_step
        (go_meet; case rel => exact ⟨(hf.set1 _).drew, (hb.setCell (Nat.le_refl _) _).drew⟩)
      case rest =>
      clear hf hb c0 c1 c2 c3 f0 f1 f2 f3
      obtain ⟨hf, hb⟩ := hcut
      generalize hx : rotl xb1 17 ^^^ xc2 = xb2 at hf
      have hxb2 := Lib.hid hx
      clear hx
      obtain ⟨⟨c0, c1, c2, c3⟩, f0, f1, f2, f3⟩ := hf.all
      go_wp2_with fail
      go_cut [] (fun wc => Four wc b xa3 xb2 xc2 (rotl xd1 21 ^^^ xa3) ∧ Below b w wc)
      case first =>
        refine rot_region b 3 0 55 21 xd1 xa3 ⟨rfl, rfl, rfl⟩ ⟨rfl, rfl, rfl⟩ ⟨rfl, rfl, rfl⟩ ⟨rfl, rfl, rfl⟩ ⟨rfl, rfl, rfl⟩ ⟨rfl, rfl, rfl⟩ ⟨rfl, rfl, rfl⟩ ⟨rfl, rfl, rfl⟩ (by as_aux_lemma => kernel_rfl) rfl (by decide) (by simp) (by decide) (by decide) (by decide) c3 c0 f3 ?_
        go_step; go_frame; go_step
        (go_meet; case rel => exact ⟨(hf.set3 _).drew, (hb.setCell (Nat.le_refl _) _).drew⟩)
      case rest =>
      clear hf hb c0 c1 c2 c3 f0 f1 f2 f3
      obtain ⟨hf, hb⟩ := hcut
      generalize hx : rotl xd1 21 ^^^ xa3 = xd2 at hf
      have hxd2 := Lib.hid hx
      clear hx
      obtain ⟨⟨c0, c1, c2, c3⟩, f0, f1, f2, f3⟩ := hf.all
      go_wp2_with fail
      refine (rotl_any _ _ (by omega) (by omega) _).mono ?_
      rintro e w' ⟨rfl, rfl⟩
      go_wp2_with fail
      go_roundw
      case rel => exact ⟨k + 1, by omega, by go_num, by rw [hs.out, Sip.round_eq hxa1.out hxc1.out hxb1.out hxd1.out hxa2.out hxc2.out hxa3.out hxb2.out hxd2.out]; exact hf.set2 _, hb.setCell (Nat.le_refl _) _⟩
      case measure => simp [intOf]; omega
    · go_wp2
      go_end0
      obtain rfl : k = n := by omega
      exact ⟨rfl, by rw [← hst'.out]; exact hf, hb⟩

theorem round_any (b : Nat) {A B C D : UInt64} (n : Int) (h0 : 0 ≤ n) (hn : n ≤ 100) (w : World) (h : Four w b A B C D) :
    Calls Tryz.prog 109 #[.int .i64 n, .pointer (some ⟨b, 0, none⟩)] w fun e w' =>
      e = .returned (.tuple #[]) ∧ Four w' b (Sip.rounds n.toNat ⟨A, B, C, D⟩).a (Sip.rounds n.toNat ⟨A, B, C, D⟩).b (Sip.rounds n.toNat ⟨A, B, C, D⟩).c (Sip.rounds n.toNat ⟨A, B, C, D⟩).d ∧ Below b w w' := by
  obtain ⟨m, rfl⟩ := Int.eq_ofNat_of_zero_le h0
  exact round_calls b ⟨A, B, C, D⟩ m (by omega) w h
theorem sipRounds_any (b : Nat) {A B C D : UInt64} (n : Int) (h0 : 0 ≤ n) (hn : n ≤ 100) (w : World) (h : Four w b A B C D) :
    Calls Tryz.prog 151 #[.slice (some ⟨b, 0, none⟩) 4 4, .int .i64 n] w fun e w' =>
      e = .returned (.slice (some ⟨w.heap.size, 0, none⟩) 4 4) ∧ Four w' w.heap.size (Sip.rounds n.toNat ⟨A, B, C, D⟩).a (Sip.rounds n.toNat ⟨A, B, C, D⟩).b (Sip.rounds n.toNat ⟨A, B, C, D⟩).c (Sip.rounds n.toNat ⟨A, B, C, D⟩).d ∧ Below w.heap.size w w' := by
  obtain ⟨m, rfl⟩ := Int.eq_ofNat_of_zero_le h0
  exact sipRounds_calls b ⟨A, B, C, D⟩ m (by omega) w h

end Go.Proofs.YtlpcjiollnnmgabGreatDoor
