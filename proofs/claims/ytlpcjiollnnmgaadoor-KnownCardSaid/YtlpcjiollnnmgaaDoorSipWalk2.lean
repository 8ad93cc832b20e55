/-
  THE WALKS OF SIPHASH, THE WHOLE: hash.Sip, compactref.Sip, relay.Sip.
-/
import Derived.Test.YtlpcjiollnnmgaaDoorSipWalk
namespace Go.Proofs.YtlpcjiollnnmgaaDoor
open Go.RowKit Nums
theorem Four.alloc (w : World) (T : TypeId) (A B C D : UInt64) : Four (w.alloc (.cells #[.int .u64 (U A), .int .u64 (U B), .int .u64 (U C), .int .u64 (U D)] T)) w.heap.size A B C D :=
  ⟨T, by show (w.heap.push _)[w.heap.size]? = _; rw [Array.getElem?_push_size]⟩

set_option maxRecDepth 100000 in
set_option maxHeartbeats 1000000 in
theorem hsip_calls (k l : UInt64) (s : List UInt8) (hs : s.length ≤ 9223372036854775807) (w : World) :
    Calls Tryd.prog 34 #[.int .u64 (U k), .int .u64 (U l), .string (str s)] w fun e w' => e = .returned (.int .u64 (U (Sip.sip k l s))) ∧ Below w.heap.size w w' := by
  have hmf : ∀ (fn : Fn) (first cap : Array Value) (w : World), (Instr.makeFunc fn first cap).run Tryd.prog w = .ok (.func fn first cap) w := fun _ _ _ _ => rfl
  go_enter Tryd.func34, Tryd.ntmps34
  go_wp2
  have hf := Four.alloc w 109 (k ^^^ toU 8317987319222330741) (l ^^^ toU 7237128888997146477) (k ^^^ toU 7816392313619706465) (l ^^^ toU 8387220255154660723)
  have hb : Below w.heap.size w (w.alloc (.cells #[.int .u64 (U (k ^^^ toU 8317987319222330741)), .int .u64 (U (l ^^^ toU 7237128888997146477)), .int .u64 (U (k ^^^ toU 7816392313619706465)), .int .u64 (U (l ^^^ toU 8387220255154660723))] 109)) := (Below.refl _ w).alloc (Nat.le_refl _) _
  generalize w.alloc _ = w1 at hf hb ⊢
  generalize hB : w.heap.size = B at hf hb ⊢
  have hB' := Lib.hid hB
  clear hB
  go_loopw [2] (fun v wr => ∃ i : Nat, 8 * i ≤ s.length ∧ v = .string (str (s.drop (8 * i))) ∧ Four wr B (Sip.words i (Sip.start k l) s).a (Sip.words i (Sip.start k l) s).b (Sip.words i (Sip.start k l) s).c (Sip.words i (Sip.start k l) s).d ∧ Below B w wr) (fun v _ => match v with | .string t => t.size | _ => 0)
  case atStart => exact ⟨0, by omega, rfl, hf, hb⟩
  case round =>
    clear hf hb
    obtain ⟨i, hi, rfl, hf, hb⟩ := hrel
    generalize hw : Sip.words i (Sip.start k l) s = st at hf
    obtain ⟨A, b, C, D⟩ := st
    replace hf : Four wr B A b C D := hf
    have hW := Lib.hid hw
    clear hw
    by_cases hlt : 8 * i + 8 ≤ s.length
    · have hl : 8 ≤ (s.drop (8 * i)).length := by rw [List.length_drop]; omega
      have hl' : (s.drop (8 * i)).length ≤ 9223372036854775807 := by rw [List.length_drop]; omega
      have hl2 := Lib.hid (List.length_drop (i := 8 * i) (l := s))
      obtain ⟨⟨c0, c1, c2, c3⟩, f0, f1, f2, f3⟩ := hf.all
      generalize hr : s.drop (8 * i) = r at hl hl' hl2 ⊢
      have hR := Lib.hid hr
      clear hr
      go_wp2_with fail
      refine (word_calls r hl hl' _).mono ?_
      rintro e w' ⟨rfl, rfl⟩
      generalize hm : Sip.le (r.take 8) = m
      have hM := Lib.hid hm
      clear hm
      go_wp2_with fail
      refine (round_any B 2 (by omega) (by omega) _ (hf.set3 (D ^^^ m))).mono ?_
      rintro e w' ⟨rfl, hf', hb'⟩
      generalize hq : Sip.rounds (Int.toNat 2) ⟨A, b, C, D ^^^ m⟩ = q at hf'
      have hQ := Lib.hid hq
      clear hq
      obtain ⟨A', B', C', D'⟩ := q
      replace hf' : Four w' B A' B' C' D' := hf'
      replace hb := (hb.setCell (p := ⟨B, 3, none⟩) (Nat.le_refl _) (.int .u64 (U (D ^^^ m)))).trans hb'
      clear hb' hf c0 c1 c2 c3 f0 f1 f2 f3
      obtain ⟨⟨c0, c1, c2, c3⟩, f0, f1, f2, f3⟩ := hf'.all
      go_wp2_with fail
      go_roundw
      case rel =>
        have e : Sip.words (i + 1) (Sip.start k l) s = ⟨A' ^^^ m, B', C', D'⟩ := by
          have h1 : Sip.rounds 2 ⟨A, b, C, D ^^^ m⟩ = ⟨A', B', C', D'⟩ := hQ.out
          show Sip.word (Sip.words i (Sip.start k l) s) (Sip.le ((s.drop (8 * i)).take 8)) = _
          rw [hW.out, hR.out, hM.out]
          unfold Sip.word
          rw [h1]
        refine ⟨i + 1, by omega, ?_, ?_, hb.setCell (Nat.le_refl _) _⟩
        · rw [← hR.out, List.drop_drop]; rfl
        · rw [e]; exact hf'.set0 _
      case measure => simp [ByteArray.size, str]; omega
    · have hl2 := Lib.hid (List.length_drop (i := 8 * i) (l := s))
      have hl : (s.drop (8 * i)).length < 8 := by rw [List.length_drop]; omega
      generalize hr : s.drop (8 * i) = r at hl hl2 ⊢
      have hR := Lib.hid hr
      clear hr
      go_wp2_with fail
      go_loop [11, 49] (fun m j => ∃ t : Nat, t ≤ r.length ∧ j = .int .i64 t ∧ m = .int .u64 (U (shl (UInt64.ofNat s.length) 56 ||| Sip.le (r.take t)))) (fun _ j => r.length - (intOf j).toNat)
      case atStart => exact ⟨0, by omega, rfl, by rw [show Sip.le (r.take 0) = 0 from rfl, UInt64.or_zero]⟩
      case round =>
        obtain ⟨t, ht, rfl, rfl⟩ := hrel
        by_cases htl : t < r.length
        · have hd := Lib.hid (Sip.le_take r t htl (by omega))
          have h8 : 0 ≤ 8 * (t : Int) := by omega
          go_wp2_with fail
          go_round
          case rel => exact ⟨t + 1, by omega, by go_num, by rw [hd.out, UInt64.or_assoc]⟩
          case measure => simp [intOf]; omega
        · obtain rfl : t = r.length := by omega
          generalize hm : shl (UInt64.ofNat s.length) 56 ||| Sip.le (r.take r.length) = m
          have hM := Lib.hid hm
          clear hm
          obtain ⟨⟨c0, c1, c2, c3⟩, f0, f1, f2, f3⟩ := hf.all
          go_wp2_with fail
          refine (round_any B 2 (by omega) (by omega) _ (hf.set3 (D ^^^ m))).mono ?_
          rintro e w' ⟨rfl, hf', hb'⟩
          generalize hq : Sip.rounds (Int.toNat 2) ⟨A, b, C, D ^^^ m⟩ = q at hf'
          have hQ := Lib.hid hq
          clear hq
          obtain ⟨A', B', C', D'⟩ := q
          replace hf' : Four w' B A' B' C' D' := hf'
          replace hb := (hb.setCell (p := ⟨B, 3, none⟩) (Nat.le_refl _) (.int .u64 (U (D ^^^ m)))).trans hb'
          clear hb' hf c0 c1 c2 c3 f0 f1 f2 f3
          obtain ⟨⟨c0, c1, c2, c3⟩, f0, f1, f2, f3⟩ := hf'.all
          go_wp2_with fail
          replace hf' := (hf'.set0 (A' ^^^ m)).set2 (C' ^^^ toU 255)
          replace hb := (hb.setCell (p := ⟨B, 0, none⟩) (Nat.le_refl _) (.int .u64 (U (A' ^^^ m)))).setCell (p := ⟨B, 2, none⟩) (Nat.le_refl _) (.int .u64 (U (C' ^^^ toU 255)))
          refine (round_any B 4 (by omega) (by omega) _ hf').mono ?_
          rintro e w'' ⟨rfl, hf'', hb'⟩
          generalize hq : Sip.rounds (Int.toNat 4) ⟨A' ^^^ m, B', C' ^^^ toU 255, D'⟩ = q at hf''
          have hQ2 := Lib.hid hq
          clear hq
          obtain ⟨A2, B2, C2, D2⟩ := q
          replace hf'' : Four w'' B A2 B2 C2 D2 := hf''
          replace hb := hb.trans hb'
          clear hb' hf' c0 c1 c2 c3 f0 f1 f2 f3
          obtain ⟨⟨c0, c1, c2, c3⟩, f0, f1, f2, f3⟩ := hf''.all
          go_wp2_with fail
          go_ret
          refine ⟨?_, by rw [hB'.out]; exact hb⟩
          have hi : i = s.length / 8 := by have := hl2.out; omega
          have e1 : Sip.rounds 2 ⟨A, b, C, D ^^^ m⟩ = ⟨A', B', C', D'⟩ := hQ.out
          have e2 : Sip.rounds 4 ⟨A' ^^^ m, B', C' ^^^ toU 255, D'⟩ = ⟨A2, B2, C2, D2⟩ := hQ2.out
          have e3 : m = Sip.tail s.length (s.drop (8 * i)) := by rw [hR.out, ← hM.out, List.take_length]; rfl
          have e4 : Sip.sip k l s = A2 ^^^ B2 ^^^ C2 ^^^ D2 := by
            unfold Sip.sip
            rw [← hi, hW.out, ← e3]
            unfold Sip.word Sip.last
            rw [e1]
            simp only [e2]
          rw [e4]; rfl
end Go.Proofs.YtlpcjiollnnmgaaDoor
