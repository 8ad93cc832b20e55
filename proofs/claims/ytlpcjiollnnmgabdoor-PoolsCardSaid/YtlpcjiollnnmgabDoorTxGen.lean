/-
  compactkeep.tx: a transaction made of a number.
-/
import Derived.Test.YtlpcjiollnnmgabDoorKeep
import Derived.Test.YtlpcjiollnnmgabDoorRegion3
set_option maxRecDepth 100000
namespace Go.Proofs.YtlpcjiollnnmgabDoor
open Nums
open Go.RowKit
namespace Reg
/-- the condition on the worlds made stronger on the way -/
theorem stronger {P : Program} {ops : Array Oper} {Q : Exit → Act → World → Prop} {S S' : World → Prop} (hs : ∀ w, S' w → S w) : ∀ {n : Nat} {L : Array Bool} {a : Act} {w : World}, wpAnyH P .any ops Q S' n L a w → wpAnyH P .any ops Q S n L a w
  | 0, _, _, _, h => h
  | _ + 1, _, _, _, h => ⟨h.1, fun i hi => wpOp_mono (fun _ _ h' => ⟨hs _ h'.1, stronger hs h'.2⟩) (h.2 i hi)⟩
end Reg
namespace Keeps
def txN (seed m : Int) (k : Nat) : Nat := (pick (wrap64 (seed + m * k)) 41).toNat
def txIn (seed : Int) (k : Nat) : List UInt8 := bytes 36 (wrap64 (seed + k)) ++ [UInt8.ofNat (txN seed 11 k)] ++ bytes (txN seed 11 k) (wrap64 (seed - k)) ++ bytes 4 k
def txOut (seed : Int) (k : Nat) : List UInt8 := bytes 8 (wrap64 (seed + 3 * k)) ++ [UInt8.ofNat (txN seed 29 k)] ++ bytes (txN seed 29 k) (wrap64 (seed + k))
def cnt (seed : Int) : Nat := 1 + (pick seed 4).toNat
def many (f : Nat → List UInt8) : Nat → List UInt8
  | 0 => []
  | n + 1 => many f n ++ f n
def txHead (seed : Int) : List UInt8 := bytes 4 seed ++ [UInt8.ofNat (cnt seed)]
def tx (seed : Int) : List UInt8 := txHead seed ++ many (txIn seed) (cnt seed) ++ [UInt8.ofNat (cnt (seed.tdiv 4))] ++ many (txOut seed) (cnt (seed.tdiv 4)) ++ bytes 4 seed
theorem cnt_le (seed : Int) : 1 ≤ cnt seed ∧ cnt seed ≤ 4 := by
  have := pick_lt seed 4 (by omega)
  unfold cnt; omega
theorem pick4 (seed : Int) : 1 + pick seed 4 = (cnt seed : Int) := by
  have := pick_lt seed 4 (by omega)
  unfold cnt; omega
theorem txN_lt (seed m : Int) (k : Nat) : txN seed m k < 41 ∧ pick (wrap64 (seed + m * k)) 41 = (txN seed m k : Int) := by
  have := pick_lt (wrap64 (seed + m * k)) 41 (by omega)
  unfold txN; omega
end Keeps
theorem wrap64_range (z : Int) : -9223372036854775808 ≤ wrap64 z ∧ wrap64 z < 9223372036854775808 := by unfold wrap64; omega
namespace Keeps
theorem txIn_length (seed : Int) (k : Nat) : (txIn seed k).length ≤ 81 := by
  have := (txN_lt seed 11 k).1
  simp only [txIn, List.length_append, bytes_length, List.length_cons, List.length_nil]; omega
theorem txOut_length (seed : Int) (k : Nat) : (txOut seed k).length ≤ 81 := by
  have := (txN_lt seed 29 k).1
  simp only [txOut, List.length_append, bytes_length, List.length_cons, List.length_nil]; omega
end Keeps
theorem Keeps.quiet_conv {ops : Array Oper} {rest : List Oper} {o : Oper} {a : Act} {C : World → Prop} {Q : Act → Prop} (hgd : o.guard = none) (src dst e : TypeId) (x : Operand) (ho : o.op = .convert src dst x)
    (g off n cap : Nat) (l : List UInt8) (hl : l.length = n) (hx : a.eval x = .slice (some ⟨g, off, none⟩) n cap) (hs : Tryd.prog.underlying src = some (.slice e)) (he : Tryd.prog.underlying e = some (.int .u8)) (hd : Tryd.prog.underlying dst = some .string)
    (hb : ∀ w, C w → Bytes w g off l) (h : wpQuiet Tryd.prog ops C Q rest (a.put o.dst (.string (str l)))) : wpQuiet Tryd.prog ops C Q (o :: rest) a := by
  subst hl
  unfold wpQuiet
  rw [if_pos (by simp [Region.wanted, hgd])]
  refine ⟨_, fun w hw => ?_, h⟩
  have := conv_bytes (P := Tryd.prog) w src dst e g off cap l hs he hd (hb w hw)
  unfold Oper.quietAt execOp
  simp only [ho, hx, Sem.run_bind, this, Result.andThen_ok, Sem.run_pure, Oper.quietUpon]
  first | trivial | exact ⟨trivial, trivial⟩ | exact ⟨rfl, rfl⟩ | exact ⟨rfl, hw⟩
theorem tdiv4 {s : Int} (hr : -9223372036854775808 ≤ s ∧ s < 9223372036854775808) : -9223372036854775808 ≤ s.tdiv 4 ∧ s.tdiv 4 < 9223372036854775808 := by
  rcases Int.le_total 0 s with h | h
  · rw [Int.tdiv_eq_ediv_of_nonneg h]; omega
  · obtain ⟨t, rfl⟩ : ∃ t, s = -t := ⟨-s, by omega⟩
    rw [Int.neg_tdiv, Int.tdiv_eq_ediv_of_nonneg (by omega)]; omega
set_option maxHeartbeats 8000000 in
theorem txgen_calls (seed : Int) (w : World) (hr : -9223372036854775808 ≤ seed ∧ seed < 9223372036854775808) :
    Calls Tryd.prog 6 #[.int .i64 seed] w fun e w' => e = .returned (.string (str (Keeps.tx seed))) ∧ Below w.heap.size w w' := by
  have H1 := Lib.hid (bytes_calls 4 seed w (by omega))
  have hcl4 := Keeps.bytes_length 4 seed
  obtain ⟨hd, hhd⟩ : ∃ l, Keeps.txHead seed = l := ⟨_, rfl⟩
  have hhl : hd.length = 5 := by rw [← hhd]; simp [Keeps.txHead, Keeps.bytes_length]
  have hhe : Keeps.bytes 4 seed ++ [UInt8.ofNat (Keeps.cnt seed)] = hd := hhd
  obtain ⟨res, hres⟩ : ∃ r, Keeps.tx seed = r := ⟨_, rfl⟩
  rw [hres]
  have RS := Lib.hid hres
  clear hres
  go_enter Tryd.func6, Tryd.ntmps6
  go_wp2_with fail
  refine H1.out.mono ?_
  clear H1
  rintro e1 w1 ⟨rfl, hb1⟩
  have H2 := Lib.hid (pick_calls seed 4 w1 (by omega) (by omega) hr)
  go_wp2_with fail
  refine H2.out.mono ?_
  clear H2
  rintro e2 w2 ⟨rfl, rfl⟩
  have hc := Keeps.pick4 seed
  have hp4 := Keeps.pick_lt seed 4 (by omega)
  have hcl := Keeps.cnt_le seed
  go_wp2_with fail
  have B2 := Lib.hid (hb1.alloc hb1.size (.cells #[.int .u8 (Y (UInt8.ofNat (Keeps.cnt seed)))] 5))
  have hp5 := Keeps.pick_lt seed 4 (by omega)
  clear hb1
  generalize w2.alloc (.cells #[.int .u8 (Y (UInt8.ofNat (Keeps.cnt seed)))] 5) = w3 at B2 ⊢
  have H3 := Lib.hid (pick_calls seed 4 w3 (by omega) (by omega) hr)
  go_wp2_with fail
  refine H3.out.mono ?_
  clear H3
  rintro e3 w4 ⟨rfl, rfl⟩
  go_wp2_with fail
  clear hp4 hp5 hc hcl4 hhe
  obtain ⟨c, hce⟩ : ∃ c, Keeps.cnt seed = c := ⟨_, rfl⟩
  rw [hce] at hcl ⊢
  go_loopw [3, 4, 5, 20] (fun sv _ _ iv wr => ∃ (k : Nat) (s : List UInt8), k ≤ c ∧ iv = .int .i64 k ∧ sv = .string (str s) ∧ s.length ≤ 5 + 81 * k ∧ s = hd ++ Keeps.many (Keeps.txIn seed) k ∧ Below w.heap.size w wr) (fun _ _ _ iv _ => c - (intOf iv).toNat)
  case atStart => exact ⟨0, hd, by omega, rfl, rfl, by omega, by simp [Keeps.many], B2.out⟩
  case round =>
    obtain ⟨k, s, hk, rfl, rfl, hsl, hse, hB⟩ := hrel
    have HB := Lib.hid hB
    have HE := Lib.hid hse
    clear hB hse
    by_cases hlt : k < c
    · have p1 : (k : Int) < (c : Int) := by omega
      have HT := Keeps.txN_lt seed 11 k
      have H4 := Lib.hid (pick_calls (wrap64 (seed + 11 * k)) 41 wr (by omega) (by omega) (wrap64_range _))
      obtain ⟨n, hn⟩ : ∃ n, Keeps.txN seed 11 k = n := ⟨_, rfl⟩
      rw [HT.2, hn] at H4
      rw [hn] at HT
      have HTL := HT.1
      clear HT
      have BA := Lib.hid (fun v => bytes_calls 36 (wrap64 (seed + k)) v (by omega))
      have BN := Lib.hid (fun v => bytes_calls n (wrap64 (seed - k)) v (by omega))
      have BL := Lib.hid (fun v => bytes_calls 4 (k : Int) v (by omega))
      have l1 := Keeps.bytes_length 36 (wrap64 (seed + k))
      have l2 := Keeps.bytes_length n (wrap64 (seed - k))
      have l3 := Keeps.bytes_length 4 (k : Int)
      have l4 := Keeps.txIn_length seed k
      have EQ := Lib.hid (show Keeps.txIn seed k = Keeps.bytes 36 (wrap64 (seed + k)) ++ [UInt8.ofNat n] ++ Keeps.bytes n (wrap64 (seed - k)) ++ Keeps.bytes 4 (k : Int) by rw [← hn]; rfl)
      have EE := Lib.hid (show Value.string (str (s ++ (Keeps.bytes 36 (wrap64 (seed + k)) ++ UInt8.ofNat n :: (Keeps.bytes n (wrap64 (seed - k)) ++ Keeps.bytes 4 (k : Int))))) = Value.string (str (s ++ Keeps.txIn seed k)) by rw [EQ.out]; simp only [List.append_assoc, List.cons_append, List.nil_append])
      clear EQ
      generalize Keeps.bytes 36 (wrap64 (seed + k)) = b1 at l1 BA EE
      generalize Keeps.bytes n (wrap64 (seed - k)) = b2 at l2 BN EE
      generalize Keeps.bytes 4 (k : Int) = b3 at l3 BL EE
      go_upto_region 6 with fail
      refine H4.out.mono ?_
      clear H4 hn
      rintro e5 w5 ⟨rfl, rfl⟩
      go_upto_region 6 with fail
      haveI hne : Nonempty (Reg.Of (fun _ : World => True)) := ⟨⟨w, trivial⟩⟩
      refine Reg.startL [0, 1, 2, 3, 5, 6, 10, 11, 12, 13, 16] 10 mixed (by kernel_rfl) rfl rfl (fun c a d v w h => by cases d <;> exact h) (by as_aux_lemma => kernel_rfl) rfl (fun _ => True) trivial ?_
      show wpQuiet _ _ _ _ [_, _, _, _, _, _, _, _, _, _, _] _
      repeat (go_big_quiet_step (fail))
      refine wpQuiet_nil ?_
      have W0 := Lib.hid (HB.out.drew)
      clear HB
      generalize w5.drew = v0 at W0 ⊢
      refine Reg.two 4 7 _ _ (by kernel_rfl) rfl rfl rfl rfl ?_ ?_
      · try go_frame
        go_wp2_with fail
        refine (BA.out v0).mono ?_
        rintro e v1 ⟨rfl, hb⟩
        have W1 := Lib.hid (W0.out.trans (hb.mono W0.out.size))
        clear hb
        go_wp2_with fail
        refine ⟨Reg.cls_mk trivial, ?_⟩
        refine Reg.two 7 14 _ _ (by kernel_rfl) rfl rfl rfl rfl ?_ ?_
        · try go_frame
          go_wp2_with fail
          obtain ⟨A, hA⟩ : ∃ A, v1.heap.size = A := ⟨_, rfl⟩
          have R2 := Lib.hid (show Row (v1.alloc (.cells #[.int .u8 (Y (UInt8.ofNat n))] 5)) A (w8 [UInt8.ofNat n]) from hA ▸ Row.new v1 [.int .u8 (Y (UInt8.ofNat n))] 5)
          have W2 := Lib.hid (W1.out.alloc W1.out.size (.cells #[.int .u8 (Y (UInt8.ofNat n))] 5))
          rw [hA]
          clear hA
          generalize v1.alloc (.cells #[.int .u8 (Y (UInt8.ofNat n))] 5) = v2 at R2 W2 ⊢
          refine ⟨Reg.cls_mk trivial, Reg.stronger (S' := Reg.cls (fun u => Row u A (w8 [UInt8.ofNat n]))) (fun _ _ => Reg.cls_mk trivial) ?_⟩
          haveI hne2 : Nonempty (Reg.Of (fun u => Row u A (w8 [UInt8.ofNat n]))) := ⟨⟨v2, R2.out⟩⟩
          refine Reg.restL [8, 9] 6 (by rfl) (by kernel_rfl) (by rfl) (fun c a d v w h => by cases d <;> exact h) (by as_aux_lemma => kernel_rfl) (by rfl) (Reg.cls_mk R2.out) ?_
          show wpQuiet _ _ _ _ [_, _] _
          refine Keeps.quiet_conv (o := ⟨some 36, _, _, _, _, _⟩) rfl 52 9 5 _ rfl A 0 1 1 [UInt8.ofNat n] rfl rfl Tryd.underlying52 Tryd.underlying5 Tryd.underlying9 (fun w hw => by obtain ⟨u, rfl⟩ := hw; exact (show Row u.w A (w8 [UInt8.ofNat n]) from u.h).bytes) ?_
          try go_frame
          repeat (go_big_quiet_step (fail))
          refine wpQuiet_nil ?_
          refine Reg.one 14 _ (by kernel_rfl) rfl rfl ?_
          try go_frame
          go_wp2_with fail
          refine (BN.out v2).mono ?_
          rintro e v3 ⟨rfl, hb⟩
          have R3 := Lib.hid (R2.out.below hb (R2.out.lt))
          have W3 := Lib.hid (W2.out.trans (hb.mono W2.out.size))
          clear hb
          go_wp2_with fail
          refine ⟨Reg.cls_mk R3.out, ?_⟩
          refine Reg.restL [15] 4 (by rfl) (by kernel_rfl) (by rfl) (fun c a d v w h => by cases d <;> exact h) (by as_aux_lemma => kernel_rfl) (by rfl) (Reg.cls_mk R3.out) ?_
          show wpQuiet _ _ _ _ [_] _
          repeat (go_big_quiet_step (fail))
          refine wpQuiet_nil ?_
          refine Reg.one 17 _ (by kernel_rfl) rfl rfl ?_
          try go_frame
          go_wp2_with fail
          refine (BL.out v3).mono ?_
          rintro e v4 ⟨rfl, hb⟩
          have R4 := Lib.hid (R3.out.below hb (R3.out.lt))
          have W4 := Lib.hid (W3.out.trans (hb.mono W3.out.size))
          clear hb
          go_wp2_with fail
          refine ⟨Reg.cls_mk R4.out, ?_⟩
          refine Reg.restL [18, 19, 20] 0 (by rfl) (by kernel_rfl) (by rfl) (fun c a d v w h => by cases d <;> exact h) (by as_aux_lemma => kernel_rfl) (by rfl) (Reg.cls_mk R4.out) ?_
          show wpQuiet _ _ _ _ [_, _, _] _
          repeat (go_big_quiet_step (fail))
          refine wpQuiet_nil ?_
          refine wpAnyH_done (by kernel_rfl) ?_ 0
          have HW := Lib.hid (W4.out)
          go_wp2_with fail
          go_roundw
          case rel => exact ⟨k + 1, s ++ Keeps.txIn seed k, by omega, by go_num, EE.out, by rw [List.length_append]; omega, by rw [HE.out, Keeps.many, List.append_assoc], HW.out⟩
          case measure => simp [intOf]; omega
        · try go_frame
          go_wp2_with fail
          refine (BN.out v1).mono ?_
          rintro e v2 ⟨rfl, hb⟩
          have W2 := Lib.hid (W1.out.trans (hb.mono W1.out.size))
          clear hb
          go_wp2_with fail
          refine ⟨Reg.cls_mk trivial, ?_⟩
          refine Reg.two 7 17 _ _ (by kernel_rfl) rfl rfl rfl rfl ?_ ?_
          · try go_frame
            go_wp2_with fail
            obtain ⟨A, hA⟩ : ∃ A, v2.heap.size = A := ⟨_, rfl⟩
            have R3 := Lib.hid (show Row (v2.alloc (.cells #[.int .u8 (Y (UInt8.ofNat n))] 5)) A (w8 [UInt8.ofNat n]) from hA ▸ Row.new v2 [.int .u8 (Y (UInt8.ofNat n))] 5)
            have W3 := Lib.hid (W2.out.alloc W2.out.size (.cells #[.int .u8 (Y (UInt8.ofNat n))] 5))
            rw [hA]
            clear hA
            generalize v2.alloc (.cells #[.int .u8 (Y (UInt8.ofNat n))] 5) = v3 at R3 W3 ⊢
            refine ⟨Reg.cls_mk trivial, Reg.stronger (S' := Reg.cls (fun u => Row u A (w8 [UInt8.ofNat n]))) (fun _ _ => Reg.cls_mk trivial) ?_⟩
            haveI hne2 : Nonempty (Reg.Of (fun u => Row u A (w8 [UInt8.ofNat n]))) := ⟨⟨v3, R3.out⟩⟩
            refine Reg.restL [8, 9, 15] 4 (by rfl) (by kernel_rfl) (by rfl) (fun c a d v w h => by cases d <;> exact h) (by as_aux_lemma => kernel_rfl) (by rfl) (Reg.cls_mk R3.out) ?_
            show wpQuiet _ _ _ _ [_, _, _] _
            refine Keeps.quiet_conv (o := ⟨some 36, _, _, _, _, _⟩) rfl 52 9 5 _ rfl A 0 1 1 [UInt8.ofNat n] rfl rfl Tryd.underlying52 Tryd.underlying5 Tryd.underlying9 (fun w hw => by obtain ⟨u, rfl⟩ := hw; exact (show Row u.w A (w8 [UInt8.ofNat n]) from u.h).bytes) ?_
            try go_frame
            repeat (go_big_quiet_step (fail))
            refine wpQuiet_nil ?_
            refine Reg.one 17 _ (by kernel_rfl) rfl rfl ?_
            try go_frame
            go_wp2_with fail
            refine (BL.out v3).mono ?_
            rintro e v4 ⟨rfl, hb⟩
            have R4 := Lib.hid (R3.out.below hb (R3.out.lt))
            have W4 := Lib.hid (W3.out.trans (hb.mono W3.out.size))
            clear hb
            go_wp2_with fail
            refine ⟨Reg.cls_mk R4.out, ?_⟩
            refine Reg.restL [18, 19, 20] 0 (by rfl) (by kernel_rfl) (by rfl) (fun c a d v w h => by cases d <;> exact h) (by as_aux_lemma => kernel_rfl) (by rfl) (Reg.cls_mk R4.out) ?_
            show wpQuiet _ _ _ _ [_, _, _] _
            repeat (go_big_quiet_step (fail))
            refine wpQuiet_nil ?_
            refine wpAnyH_done (by kernel_rfl) ?_ 0
            have HW := Lib.hid (W4.out)
            go_wp2_with fail
            go_roundw
            case rel => exact ⟨k + 1, s ++ Keeps.txIn seed k, by omega, by go_num, EE.out, by rw [List.length_append]; omega, by rw [HE.out, Keeps.many, List.append_assoc], HW.out⟩
            case measure => simp [intOf]; omega
          · try go_frame
            go_wp2_with fail
            refine (BL.out v2).mono ?_
            rintro e v3 ⟨rfl, hb⟩
            have W3 := Lib.hid (W2.out.trans (hb.mono W2.out.size))
            clear hb
            go_wp2_with fail
            refine ⟨Reg.cls_mk trivial, ?_⟩
            refine Reg.one 7 _ (by kernel_rfl) rfl rfl ?_
            try go_frame
            go_wp2_with fail
            obtain ⟨A, hA⟩ : ∃ A, v3.heap.size = A := ⟨_, rfl⟩
            have R4 := Lib.hid (show Row (v3.alloc (.cells #[.int .u8 (Y (UInt8.ofNat n))] 5)) A (w8 [UInt8.ofNat n]) from hA ▸ Row.new v3 [.int .u8 (Y (UInt8.ofNat n))] 5)
            have W4 := Lib.hid (W3.out.alloc W3.out.size (.cells #[.int .u8 (Y (UInt8.ofNat n))] 5))
            rw [hA]
            clear hA
            generalize v3.alloc (.cells #[.int .u8 (Y (UInt8.ofNat n))] 5) = v4 at R4 W4 ⊢
            refine ⟨Reg.cls_mk trivial, Reg.stronger (S' := Reg.cls (fun u => Row u A (w8 [UInt8.ofNat n]))) (fun _ _ => Reg.cls_mk trivial) ?_⟩
            haveI hne2 : Nonempty (Reg.Of (fun u => Row u A (w8 [UInt8.ofNat n]))) := ⟨⟨v4, R4.out⟩⟩
            refine Reg.restL [8, 9, 15, 18, 19, 20] 0 (by rfl) (by kernel_rfl) (by rfl) (fun c a d v w h => by cases d <;> exact h) (by as_aux_lemma => kernel_rfl) (by rfl) (Reg.cls_mk R4.out) ?_
            show wpQuiet _ _ _ _ [_, _, _, _, _, _] _
            refine Keeps.quiet_conv (o := ⟨some 36, _, _, _, _, _⟩) rfl 52 9 5 _ rfl A 0 1 1 [UInt8.ofNat n] rfl rfl Tryd.underlying52 Tryd.underlying5 Tryd.underlying9 (fun w hw => by obtain ⟨u, rfl⟩ := hw; exact (show Row u.w A (w8 [UInt8.ofNat n]) from u.h).bytes) ?_
            try go_frame
            repeat (go_big_quiet_step (fail))
            refine wpQuiet_nil ?_
            refine wpAnyH_done (by kernel_rfl) ?_ 0
            have HW := Lib.hid (W4.out)
            go_wp2_with fail
            go_roundw
            case rel => exact ⟨k + 1, s ++ Keeps.txIn seed k, by omega, by go_num, EE.out, by rw [List.length_append]; omega, by rw [HE.out, Keeps.many, List.append_assoc], HW.out⟩
            case measure => simp [intOf]; omega
      · try go_frame
        go_wp2_with fail
        obtain ⟨A, hA⟩ : ∃ A, v0.heap.size = A := ⟨_, rfl⟩
        have R1 := Lib.hid (show Row (v0.alloc (.cells #[.int .u8 (Y (UInt8.ofNat n))] 5)) A (w8 [UInt8.ofNat n]) from hA ▸ Row.new v0 [.int .u8 (Y (UInt8.ofNat n))] 5)
        have W1 := Lib.hid (W0.out.alloc W0.out.size (.cells #[.int .u8 (Y (UInt8.ofNat n))] 5))
        rw [hA]
        clear hA
        generalize v0.alloc (.cells #[.int .u8 (Y (UInt8.ofNat n))] 5) = v1 at R1 W1 ⊢
        refine ⟨Reg.cls_mk trivial, Reg.stronger (S' := Reg.cls (fun u => Row u A (w8 [UInt8.ofNat n]))) (fun _ _ => Reg.cls_mk trivial) ?_⟩
        haveI hne2 : Nonempty (Reg.Of (fun u => Row u A (w8 [UInt8.ofNat n]))) := ⟨⟨v1, R1.out⟩⟩
        refine Reg.restL [8] 8 (by rfl) (by kernel_rfl) (by rfl) (fun c a d v w h => by cases d <;> exact h) (by as_aux_lemma => kernel_rfl) (by rfl) (Reg.cls_mk R1.out) ?_
        show wpQuiet _ _ _ _ [_] _
        refine Keeps.quiet_conv (o := ⟨some 36, _, _, _, _, _⟩) rfl 52 9 5 _ rfl A 0 1 1 [UInt8.ofNat n] rfl rfl Tryd.underlying52 Tryd.underlying5 Tryd.underlying9 (fun w hw => by obtain ⟨u, rfl⟩ := hw; exact (show Row u.w A (w8 [UInt8.ofNat n]) from u.h).bytes) ?_
        try go_frame
        repeat (go_big_quiet_step (fail))
        refine wpQuiet_nil ?_
        refine Reg.one 4 _ (by kernel_rfl) rfl rfl ?_
        try go_frame
        go_wp2_with fail
        refine (BA.out v1).mono ?_
        rintro e v2 ⟨rfl, hb⟩
        have R2 := Lib.hid (R1.out.below hb (R1.out.lt))
        have W2 := Lib.hid (W1.out.trans (hb.mono W1.out.size))
        clear hb
        go_wp2_with fail
        refine ⟨Reg.cls_mk R2.out, ?_⟩
        refine Reg.restL [9] 6 (by rfl) (by kernel_rfl) (by rfl) (fun c a d v w h => by cases d <;> exact h) (by as_aux_lemma => kernel_rfl) (by rfl) (Reg.cls_mk R2.out) ?_
        show wpQuiet _ _ _ _ [_] _
        repeat (go_big_quiet_step (fail))
        refine wpQuiet_nil ?_
        refine Reg.one 14 _ (by kernel_rfl) rfl rfl ?_
        try go_frame
        go_wp2_with fail
        refine (BN.out v2).mono ?_
        rintro e v3 ⟨rfl, hb⟩
        have R3 := Lib.hid (R2.out.below hb (R2.out.lt))
        have W3 := Lib.hid (W2.out.trans (hb.mono W2.out.size))
        clear hb
        go_wp2_with fail
        refine ⟨Reg.cls_mk R3.out, ?_⟩
        refine Reg.restL [15] 4 (by rfl) (by kernel_rfl) (by rfl) (fun c a d v w h => by cases d <;> exact h) (by as_aux_lemma => kernel_rfl) (by rfl) (Reg.cls_mk R3.out) ?_
        show wpQuiet _ _ _ _ [_] _
        repeat (go_big_quiet_step (fail))
        refine wpQuiet_nil ?_
        refine Reg.one 17 _ (by kernel_rfl) rfl rfl ?_
        try go_frame
        go_wp2_with fail
        refine (BL.out v3).mono ?_
        rintro e v4 ⟨rfl, hb⟩
        have R4 := Lib.hid (R3.out.below hb (R3.out.lt))
        have W4 := Lib.hid (W3.out.trans (hb.mono W3.out.size))
        clear hb
        go_wp2_with fail
        refine ⟨Reg.cls_mk R4.out, ?_⟩
        refine Reg.restL [18, 19, 20] 0 (by rfl) (by kernel_rfl) (by rfl) (fun c a d v w h => by cases d <;> exact h) (by as_aux_lemma => kernel_rfl) (by rfl) (Reg.cls_mk R4.out) ?_
        show wpQuiet _ _ _ _ [_, _, _] _
        repeat (go_big_quiet_step (fail))
        refine wpQuiet_nil ?_
        refine wpAnyH_done (by kernel_rfl) ?_ 0
        have HW := Lib.hid (W4.out)
        go_wp2_with fail
        go_roundw
        case rel => exact ⟨k + 1, s ++ Keeps.txIn seed k, by omega, by go_num, EE.out, by rw [List.length_append]; omega, by rw [HE.out, Keeps.many, List.append_assoc], HW.out⟩
        case measure => simp [intOf]; omega
    · obtain rfl : k = c := by omega
      have hcb : Keeps.cnt seed = k := hce
      have hq : -9223372036854775808 ≤ seed.tdiv 4 ∧ seed.tdiv 4 < 9223372036854775808 := tdiv4 hr
      obtain ⟨q, hqe⟩ : ∃ q, seed.tdiv 4 = q := ⟨_, rfl⟩
      rw [hqe] at hq
      have H5 := Lib.hid (fun v => pick_calls q 4 v (by omega) (by omega) hq)
      have hc2 := Keeps.pick4 q
      have hp4 := Keeps.pick_lt q 4 (by omega)
      have hcl2 := Keeps.cnt_le q
      obtain ⟨c2, hce2⟩ : ∃ c, Keeps.cnt q = c := ⟨_, rfl⟩
      rw [hce2] at hcl2 hc2
      have EQ := Lib.hid (show Keeps.tx seed = hd ++ Keeps.many (Keeps.txIn seed) k ++ [UInt8.ofNat c2] ++ Keeps.many (Keeps.txOut seed) c2 ++ Keeps.bytes 4 seed by rw [← hcb, ← hhd, ← hce2, ← hqe]; rfl)
      rw [← HE.out] at EQ
      have BZ := Lib.hid (fun v => bytes_calls 4 seed v (by omega))
      have lz := Keeps.bytes_length 4 seed
      generalize Keeps.bytes 4 seed = bz at EQ BZ lz
      rw [RS.out] at EQ
      have hqw : wrap64 q = q := by unfold wrap64; omega
      clear hce hcb hhd hce2
      go_upto_region 8 with fail
      go_wp2_with fail
      refine (H5.out _).mono ?_
      rintro e6 w6 ⟨rfl, rfl⟩
      go_wp2_with fail
      have B3 := Lib.hid (HB.out.alloc HB.out.size (.cells #[.int .u8 (Y (UInt8.ofNat c2))] 5))
      clear HB HE
      generalize w6.alloc (.cells #[.int .u8 (Y (UInt8.ofNat c2))] 5) = w7 at B3 ⊢
      refine (H5.out _).mono ?_
      rintro e7 wz ⟨rfl, rfl⟩
      obtain ⟨hd2, hh2⟩ : ∃ l, s ++ [UInt8.ofNat c2] = l := ⟨_, rfl⟩
      have hhl2 : hd2.length ≤ 6 + 81 * k := by rw [← hh2, List.length_append]; simp; omega
      rw [hh2] at EQ
      clear H5
      go_wp2_with fail
      go_loopw [3, 6, 7, 62] (fun sv _ _ iv wr => ∃ (j : Nat) (s : List UInt8), j ≤ c2 ∧ iv = .int .i64 j ∧ sv = .string (str s) ∧ s.length ≤ 6 + 81 * k + 81 * j ∧ s = hd2 ++ Keeps.many (Keeps.txOut seed) j ∧ Below w.heap.size w wr) (fun _ _ _ iv _ => c2 - (intOf iv).toNat)
      case atStart => exact ⟨0, hd2, by omega, rfl, rfl, by omega, by simp [Keeps.many], B3.out⟩
      case round =>
        obtain ⟨j, s2, hj, rfl, rfl, hsl2, hse2, hB⟩ := hrel
        have HB := Lib.hid hB
        have HE := Lib.hid hse2
        clear hB hse2
        by_cases hlt2 : j < c2
        · have p2 : (j : Int) < (c2 : Int) := by omega
          have HT := Keeps.txN_lt seed 29 j
          have H6 := Lib.hid (pick_calls (wrap64 (seed + 29 * j)) 41 wr (by omega) (by omega) (wrap64_range _))
          obtain ⟨n, hn⟩ : ∃ n, Keeps.txN seed 29 j = n := ⟨_, rfl⟩
          rw [HT.2, hn] at H6
          rw [hn] at HT
          have HTL := HT.1
          clear HT
          have BA := Lib.hid (fun v => bytes_calls 8 (wrap64 (seed + 3 * j)) v (by omega))
          have BN := Lib.hid (fun v => bytes_calls n (wrap64 (seed + j)) v (by omega))
          have l1 := Keeps.bytes_length 8 (wrap64 (seed + 3 * j))
          have l2 := Keeps.bytes_length n (wrap64 (seed + j))
          have l4 := Keeps.txOut_length seed j
          have EQ2 := Lib.hid (show Keeps.txOut seed j = Keeps.bytes 8 (wrap64 (seed + 3 * j)) ++ [UInt8.ofNat n] ++ Keeps.bytes n (wrap64 (seed + j)) by rw [← hn]; rfl)
          have EE := Lib.hid (show Value.string (str (s2 ++ (Keeps.bytes 8 (wrap64 (seed + 3 * j)) ++ UInt8.ofNat n :: Keeps.bytes n (wrap64 (seed + j))))) = Value.string (str (s2 ++ Keeps.txOut seed j)) by rw [EQ2.out]; simp only [List.append_assoc, List.cons_append, List.nil_append])
          clear EQ2
          generalize Keeps.bytes 8 (wrap64 (seed + 3 * j)) = b1 at l1 BA EE
          generalize Keeps.bytes n (wrap64 (seed + j)) = b2 at l2 BN EE
          go_upto_region 13 with fail
          refine H6.out.mono ?_
          clear H6 hn
          rintro e5 w5 ⟨rfl, rfl⟩
          go_upto_region 13 with fail
          haveI hne : Nonempty (Reg.Of (fun _ : World => True)) := ⟨⟨w, trivial⟩⟩
          refine Reg.startL [0, 1, 2, 3, 4, 6, 7, 11, 12, 13, 14] 8 mixed (by kernel_rfl) rfl rfl (fun c a d v w h => by cases d <;> exact h) (by as_aux_lemma => kernel_rfl) rfl (fun _ => True) trivial ?_
          show wpQuiet _ _ _ _ [_, _, _, _, _, _, _, _, _, _, _] _
          repeat (go_big_quiet_step (fail))
          refine wpQuiet_nil ?_
          have W0 := Lib.hid (HB.out.drew)
          clear HB
          generalize w5.drew = v0 at W0 ⊢
          refine Reg.two 5 8 _ _ (by kernel_rfl) rfl rfl rfl rfl ?_ ?_
          · try go_frame
            go_wp2_with fail
            refine (BA.out v0).mono ?_
            rintro e v1 ⟨rfl, hb⟩
            have W1 := Lib.hid (W0.out.trans (hb.mono W0.out.size))
            clear hb
            go_wp2_with fail
            refine ⟨Reg.cls_mk trivial, ?_⟩
            refine Reg.two 8 15 _ _ (by kernel_rfl) rfl rfl rfl rfl ?_ ?_
            · try go_frame
              go_wp2_with fail
              obtain ⟨A, hA⟩ : ∃ A, v1.heap.size = A := ⟨_, rfl⟩
              have R2 := Lib.hid (show Row (v1.alloc (.cells #[.int .u8 (Y (UInt8.ofNat n))] 5)) A (w8 [UInt8.ofNat n]) from hA ▸ Row.new v1 [.int .u8 (Y (UInt8.ofNat n))] 5)
              have W2 := Lib.hid (W1.out.alloc W1.out.size (.cells #[.int .u8 (Y (UInt8.ofNat n))] 5))
              rw [hA]
              clear hA
              generalize v1.alloc (.cells #[.int .u8 (Y (UInt8.ofNat n))] 5) = v2 at R2 W2 ⊢
              refine ⟨Reg.cls_mk trivial, Reg.stronger (S' := Reg.cls (fun u => Row u A (w8 [UInt8.ofNat n]))) (fun _ _ => Reg.cls_mk trivial) ?_⟩
              haveI hne2 : Nonempty (Reg.Of (fun u => Row u A (w8 [UInt8.ofNat n]))) := ⟨⟨v2, R2.out⟩⟩
              refine Reg.restL [9, 10] 4 (by rfl) (by kernel_rfl) (by rfl) (fun c a d v w h => by cases d <;> exact h) (by as_aux_lemma => kernel_rfl) (by rfl) (Reg.cls_mk R2.out) ?_
              show wpQuiet _ _ _ _ [_, _] _
              refine Keeps.quiet_conv (o := ⟨some 79, _, _, _, _, _⟩) rfl 52 9 5 _ rfl A 0 1 1 [UInt8.ofNat n] rfl rfl Tryd.underlying52 Tryd.underlying5 Tryd.underlying9 (fun w hw => by obtain ⟨u, rfl⟩ := hw; exact (show Row u.w A (w8 [UInt8.ofNat n]) from u.h).bytes) ?_
              try go_frame
              repeat (go_big_quiet_step (fail))
              refine wpQuiet_nil ?_
              refine Reg.one 15 _ (by kernel_rfl) rfl rfl ?_
              try go_frame
              go_wp2_with fail
              refine (BN.out v2).mono ?_
              rintro e v3 ⟨rfl, hb⟩
              have R3 := Lib.hid (R2.out.below hb (R2.out.lt))
              have W3 := Lib.hid (W2.out.trans (hb.mono W2.out.size))
              clear hb
              go_wp2_with fail
              refine ⟨Reg.cls_mk R3.out, ?_⟩
              refine Reg.restL [16, 17, 18] 0 (by rfl) (by kernel_rfl) (by rfl) (fun c a d v w h => by cases d <;> exact h) (by as_aux_lemma => kernel_rfl) (by rfl) (Reg.cls_mk R3.out) ?_
              show wpQuiet _ _ _ _ [_, _, _] _
              repeat (go_big_quiet_step (fail))
              refine wpQuiet_nil ?_
              refine wpAnyH_done (by kernel_rfl) ?_ 0
              have HW := Lib.hid (W3.out)
              go_wp2_with fail
              go_roundw
              case rel => exact ⟨j + 1, s2 ++ Keeps.txOut seed j, by omega, by go_num, EE.out, by rw [List.length_append]; omega, by rw [HE.out, Keeps.many, List.append_assoc], HW.out⟩
              case measure => simp [intOf]; omega
            · try go_frame
              go_wp2_with fail
              refine (BN.out v1).mono ?_
              rintro e v2 ⟨rfl, hb⟩
              have W2 := Lib.hid (W1.out.trans (hb.mono W1.out.size))
              clear hb
              go_wp2_with fail
              refine ⟨Reg.cls_mk trivial, ?_⟩
              refine Reg.one 8 _ (by kernel_rfl) rfl rfl ?_
              try go_frame
              go_wp2_with fail
              obtain ⟨A, hA⟩ : ∃ A, v2.heap.size = A := ⟨_, rfl⟩
              have R3 := Lib.hid (show Row (v2.alloc (.cells #[.int .u8 (Y (UInt8.ofNat n))] 5)) A (w8 [UInt8.ofNat n]) from hA ▸ Row.new v2 [.int .u8 (Y (UInt8.ofNat n))] 5)
              have W3 := Lib.hid (W2.out.alloc W2.out.size (.cells #[.int .u8 (Y (UInt8.ofNat n))] 5))
              rw [hA]
              clear hA
              generalize v2.alloc (.cells #[.int .u8 (Y (UInt8.ofNat n))] 5) = v3 at R3 W3 ⊢
              refine ⟨Reg.cls_mk trivial, Reg.stronger (S' := Reg.cls (fun u => Row u A (w8 [UInt8.ofNat n]))) (fun _ _ => Reg.cls_mk trivial) ?_⟩
              haveI hne2 : Nonempty (Reg.Of (fun u => Row u A (w8 [UInt8.ofNat n]))) := ⟨⟨v3, R3.out⟩⟩
              refine Reg.restL [9, 10, 16, 17, 18] 0 (by rfl) (by kernel_rfl) (by rfl) (fun c a d v w h => by cases d <;> exact h) (by as_aux_lemma => kernel_rfl) (by rfl) (Reg.cls_mk R3.out) ?_
              show wpQuiet _ _ _ _ [_, _, _, _, _] _
              refine Keeps.quiet_conv (o := ⟨some 79, _, _, _, _, _⟩) rfl 52 9 5 _ rfl A 0 1 1 [UInt8.ofNat n] rfl rfl Tryd.underlying52 Tryd.underlying5 Tryd.underlying9 (fun w hw => by obtain ⟨u, rfl⟩ := hw; exact (show Row u.w A (w8 [UInt8.ofNat n]) from u.h).bytes) ?_
              try go_frame
              repeat (go_big_quiet_step (fail))
              refine wpQuiet_nil ?_
              refine wpAnyH_done (by kernel_rfl) ?_ 0
              have HW := Lib.hid (W3.out)
              go_wp2_with fail
              go_roundw
              case rel => exact ⟨j + 1, s2 ++ Keeps.txOut seed j, by omega, by go_num, EE.out, by rw [List.length_append]; omega, by rw [HE.out, Keeps.many, List.append_assoc], HW.out⟩
              case measure => simp [intOf]; omega
          · try go_frame
            go_wp2_with fail
            obtain ⟨A, hA⟩ : ∃ A, v0.heap.size = A := ⟨_, rfl⟩
            have R1 := Lib.hid (show Row (v0.alloc (.cells #[.int .u8 (Y (UInt8.ofNat n))] 5)) A (w8 [UInt8.ofNat n]) from hA ▸ Row.new v0 [.int .u8 (Y (UInt8.ofNat n))] 5)
            have W1 := Lib.hid (W0.out.alloc W0.out.size (.cells #[.int .u8 (Y (UInt8.ofNat n))] 5))
            rw [hA]
            clear hA
            generalize v0.alloc (.cells #[.int .u8 (Y (UInt8.ofNat n))] 5) = v1 at R1 W1 ⊢
            refine ⟨Reg.cls_mk trivial, Reg.stronger (S' := Reg.cls (fun u => Row u A (w8 [UInt8.ofNat n]))) (fun _ _ => Reg.cls_mk trivial) ?_⟩
            haveI hne2 : Nonempty (Reg.Of (fun u => Row u A (w8 [UInt8.ofNat n]))) := ⟨⟨v1, R1.out⟩⟩
            refine Reg.restL [9] 6 (by rfl) (by kernel_rfl) (by rfl) (fun c a d v w h => by cases d <;> exact h) (by as_aux_lemma => kernel_rfl) (by rfl) (Reg.cls_mk R1.out) ?_
            show wpQuiet _ _ _ _ [_] _
            refine Keeps.quiet_conv (o := ⟨some 79, _, _, _, _, _⟩) rfl 52 9 5 _ rfl A 0 1 1 [UInt8.ofNat n] rfl rfl Tryd.underlying52 Tryd.underlying5 Tryd.underlying9 (fun w hw => by obtain ⟨u, rfl⟩ := hw; exact (show Row u.w A (w8 [UInt8.ofNat n]) from u.h).bytes) ?_
            try go_frame
            repeat (go_big_quiet_step (fail))
            refine wpQuiet_nil ?_
            refine Reg.one 5 _ (by kernel_rfl) rfl rfl ?_
            try go_frame
            go_wp2_with fail
            refine (BA.out v1).mono ?_
            rintro e v2 ⟨rfl, hb⟩
            have R2 := Lib.hid (R1.out.below hb (R1.out.lt))
            have W2 := Lib.hid (W1.out.trans (hb.mono W1.out.size))
            clear hb
            go_wp2_with fail
            refine ⟨Reg.cls_mk R2.out, ?_⟩
            refine Reg.restL [10] 4 (by rfl) (by kernel_rfl) (by rfl) (fun c a d v w h => by cases d <;> exact h) (by as_aux_lemma => kernel_rfl) (by rfl) (Reg.cls_mk R2.out) ?_
            show wpQuiet _ _ _ _ [_] _
            repeat (go_big_quiet_step (fail))
            refine wpQuiet_nil ?_
            refine Reg.one 15 _ (by kernel_rfl) rfl rfl ?_
            try go_frame
            go_wp2_with fail
            refine (BN.out v2).mono ?_
            rintro e v3 ⟨rfl, hb⟩
            have R3 := Lib.hid (R2.out.below hb (R2.out.lt))
            have W3 := Lib.hid (W2.out.trans (hb.mono W2.out.size))
            clear hb
            go_wp2_with fail
            refine ⟨Reg.cls_mk R3.out, ?_⟩
            refine Reg.restL [16, 17, 18] 0 (by rfl) (by kernel_rfl) (by rfl) (fun c a d v w h => by cases d <;> exact h) (by as_aux_lemma => kernel_rfl) (by rfl) (Reg.cls_mk R3.out) ?_
            show wpQuiet _ _ _ _ [_, _, _] _
            repeat (go_big_quiet_step (fail))
            refine wpQuiet_nil ?_
            refine wpAnyH_done (by kernel_rfl) ?_ 0
            have HW := Lib.hid (W3.out)
            go_wp2_with fail
            go_roundw
            case rel => exact ⟨j + 1, s2 ++ Keeps.txOut seed j, by omega, by go_num, EE.out, by rw [List.length_append]; omega, by rw [HE.out, Keeps.many, List.append_assoc], HW.out⟩
            case measure => simp [intOf]; omega
        · obtain rfl : j = c2 := by omega
          have EZ := Lib.hid (show Value.string (str (s2 ++ bz)) = Value.string (str res) by rw [EQ.out, HE.out])
          go_wp2_with fail
          refine (BZ.out _).mono ?_
          rintro e9 w9 ⟨rfl, hb9⟩
          have B9 := Lib.hid (HB.out.trans (hb9.mono HB.out.size))
          clear hb9
          go_wp2_with fail
          go_ret
          exact ⟨congrArg Ending.returned EZ.out, B9.out⟩
end Go.Proofs.YtlpcjiollnnmgabDoor
