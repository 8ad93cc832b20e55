/-
  THE WALKS OF SIPHASH: compactref.Sip, relay.Sip.
-/
import Derived.Test.YtlpcjiollnnmgaaDoorSipWalk2
namespace Go.Proofs.YtlpcjiollnnmgaaDoor
open Go.RowKit Nums
theorem le_c1 : Sip.le [117, 101, 115, 112, 101, 109, 111, 115] = toU 8317987319222330741 := by decide +kernel
theorem le_c2 : Sip.le [109, 111, 100, 110, 97, 114, 111, 100] = toU 7237128888997146477 := by decide +kernel
theorem le_c3 : Sip.le [97, 114, 101, 110, 101, 103, 121, 108] = toU 7816392313619706465 := by decide +kernel
theorem le_c4 : Sip.le [115, 101, 116, 121, 98, 100, 101, 116] = toU 8387220255154660723 := by decide +kernel

set_option maxRecDepth 100000 in
set_option maxHeartbeats 1000000 in
theorem rsip_calls (k l : UInt64) (s : List UInt8) (hs : s.length ≤ 9223372036854775000) (w : World) :
    Calls Tryd.prog 81 #[.int .u64 (U k), .int .u64 (U l), .string (str s)] w fun e w' => e = .returned (.int .u64 (U (Sip.sip k l s))) ∧ Below w.heap.size w w' := by
  go_enter Tryd.func81, Tryd.ntmps81
  go_wp2_with (go_at_call 92; refine (number_calls _ (by simp) _).mono ?_; rintro e w' ⟨rfl, rfl⟩)
  simp only [le_c1, le_c2, le_c3, le_c4]
  have hf := Four.alloc w 37 (k ^^^ toU 8317987319222330741) (l ^^^ toU 7237128888997146477) (k ^^^ toU 7816392313619706465) (l ^^^ toU 8387220255154660723)
  have hb : Below w.heap.size w (w.alloc (.cells #[.int .u64 (U (k ^^^ toU 8317987319222330741)), .int .u64 (U (l ^^^ toU 7237128888997146477)), .int .u64 (U (k ^^^ toU 7816392313619706465)), .int .u64 (U (l ^^^ toU 8387220255154660723))] 37)) := (Below.refl _ w).alloc (Nat.le_refl _) _
  have hz : w.heap.size < (w.alloc (.cells #[.int .u64 (U (k ^^^ toU 8317987319222330741)), .int .u64 (U (l ^^^ toU 7237128888997146477)), .int .u64 (U (k ^^^ toU 7816392313619706465)), .int .u64 (U (l ^^^ toU 8387220255154660723))] 37)).heap.size := by simp
  generalize w.alloc _ = w1 at hf hb hz ⊢
  generalize hB : w.heap.size = B at hf hb hz ⊢
  have hB' := Lib.hid hB
  clear hB
  obtain ⟨p, hp⟩ : ∃ p, p = 7 - s.length % 8 := ⟨_, rfl⟩
  have hp7 : p ≤ 7 := by omega
  have hP := Lib.hid hp
  clear hp
  go_loop [2] (fun v => ∃ j : Nat, j ≤ p ∧ v = .string (str (s ++ List.replicate j 0))) (fun v => match v with | .string t => s.length + 8 - t.size | _ => 0)
  case atStart => exact ⟨0, by omega, by simp⟩
  case round =>
    obtain ⟨j, hj, rfl⟩ := hrel
    have hl : (s ++ List.replicate j 0).length = s.length + j := by simp
    have hl2 := Lib.hid hl
    generalize hr : s ++ List.replicate j 0 = r at hl hl2 ⊢
    have hR := Lib.hid hr
    clear hr
    have hlen : r.length ≤ 9223372036854775800 := by omega
    clear hl
    by_cases hlt : j < p
    · have ht : ((r.length : Int) % 8 != 7) = true := by have := hl2.out; have := hP.out; rw [bne_iff_ne]; omega
      go_wp2_with fail
      go_round
      case rel => exact ⟨j + 1, by omega, by rw [← hR.out, List.append_assoc, List.replicate_succ']⟩
      case measure => have := hl2.out; simp [str, ByteArray.size]; omega
    · have ht : ((r.length : Int) % 8 != 7) = false := by have := hl2.out; have := hP.out; rw [bne_eq_false_iff_eq]; omega
      go_wp2_with fail
      have hb2 : Below B w (w1.alloc (.cells #[.int .u8 (Y (UInt8.ofNat s.length))] 5)) := hb.alloc (by omega) _
      have hf2 : Four (w1.alloc (.cells #[.int .u8 (Y (UInt8.ofNat s.length))] 5)) B (k ^^^ toU 8317987319222330741) (l ^^^ toU 7237128888997146477) (k ^^^ toU 7816392313619706465) (l ^^^ toU 8387220255154660723) := by
        obtain ⟨T, hT⟩ := hf
        exact ⟨T, by rw [Below.heap_alloc _ _ _ hz]; exact hT⟩
      have hz2 : B < (w1.alloc (.cells #[.int .u8 (Y (UInt8.ofNat s.length))] 5)).heap.size := by simp; omega
      generalize w1.alloc _ = w2 at hf2 hb2 hz2 ⊢
      have hq : r ++ [UInt8.ofNat s.length] = Sip.pad s := by
        have : j = 7 - s.length % 8 := by have := hP.out; omega
        rw [← hR.out, this]; rfl
      have hql : (r ++ [UInt8.ofNat s.length]).length = 8 * (s.length / 8 + 1) := by
        rw [List.length_append, hl2.out]; have := hP.out; simp; omega
      generalize r ++ [UInt8.ofNat s.length] = q at hq hql ⊢
      have hQ := Lib.hid hq
      have hQL := Lib.hid hql
      have hqm : q.length ≤ 9223372036854775807 := by omega
      clear hq hql hf hb hz ht
      go_loopw [2, 7] (fun v sl wr => ∃ i b : Nat, 8 * i ≤ q.length ∧ v = .string (str (q.drop (8 * i))) ∧ sl = .slice (some ⟨b, 0, none⟩) 4 4 ∧ Four wr b (Sip.words i (Sip.start k l) q).a (Sip.words i (Sip.start k l) q).b (Sip.words i (Sip.start k l) q).c (Sip.words i (Sip.start k l) q).d ∧ B ≤ b ∧ Below B w wr) (fun v _ _ => match v with | .string t => t.size | _ => 0)
      case atStart => exact ⟨0, B, by omega, rfl, rfl, hf2, Nat.le_refl _, hb2⟩
      case round =>
        clear hf2 hb2 hz2
        obtain ⟨i, b, hi, rfl, rfl, hf, hbb, hb⟩ := hrel
        generalize hw : Sip.words i (Sip.start k l) q = st at hf
        obtain ⟨A, b1, C, D⟩ := st
        replace hf : Four wr b A b1 C D := hf
        have hW := Lib.hid hw
        clear hw
        by_cases hlt : 8 * i < q.length
        · have hl8 : 8 ≤ (q.drop (8 * i)).length := by have := hQL.out; rw [List.length_drop]; omega
          have hl3 := Lib.hid (List.length_drop (i := 8 * i) (l := q))
          obtain ⟨⟨c0, c1, c2, c3⟩, f0, f1, f2, f3⟩ := hf.all
          have hle : (q.drop (8 * i)).length ≤ 9223372036854775807 := by rw [List.length_drop]; omega
          generalize hr : q.drop (8 * i) = r at hl8 hl3 hle ⊢
          have hR2 := Lib.hid hr
          clear hr
          have hne : r.isEmpty = false := by cases r with | nil => simp at hl8 | cons => rfl
          go_wp2_with fail
          refine (number_calls (r.take 8) (by rw [List.length_take]; omega) _).mono ?_
          rintro e w' ⟨rfl, rfl⟩
          generalize hm : Sip.le (r.take 8) = m
          have hM := Lib.hid hm
          clear hm
          go_wp2_with fail
          refine (sipRounds_any b 2 (by omega) (by omega) _ (hf.set3 (D ^^^ m))).mono ?_
          rintro e w' ⟨rfl, hf', hb'⟩
          have hzz : B ≤ wr.heap.size := by have := hb.size; have := hB'.out; omega
          have hzs : (wr.setCell ⟨b, 3, none⟩ (.int .u64 (U (D ^^^ m)))).heap.size = wr.heap.size := by simp [World.setCell]
          rw [hzs] at hf' hb' ⊢
          replace hb := (hb.setCell (p := ⟨b, 3, none⟩) hbb (.int .u64 (U (D ^^^ m)))).trans (hb'.mono hzz)
          clear hb' hzs hf c0 c1 c2 c3 f0 f1 f2 f3
          generalize hq : Sip.rounds (Int.toNat 2) ⟨A, b1, C, D ^^^ m⟩ = q2 at hf'
          have hQ2 := Lib.hid hq
          clear hq
          obtain ⟨A', B', C', D'⟩ := q2
          replace hf' : Four w' wr.heap.size A' B' C' D' := hf'
          generalize wr.heap.size = b2 at hf' hzz ⊢
          obtain ⟨⟨c0, c1, c2, c3⟩, f0, f1, f2, f3⟩ := hf'.all
          go_wp2_with fail
          go_roundw
          case rel =>
            have e : Sip.words (i + 1) (Sip.start k l) q = ⟨A' ^^^ m, B', C', D'⟩ := by
              have h1 : Sip.rounds 2 ⟨A, b1, C, D ^^^ m⟩ = ⟨A', B', C', D'⟩ := hQ2.out
              show Sip.word (Sip.words i (Sip.start k l) q) (Sip.le ((q.drop (8 * i)).take 8)) = _
              rw [hW.out, hR2.out, hM.out]
              unfold Sip.word
              rw [h1]
            refine ⟨i + 1, b2, by have := hl3.out; omega, ?_, rfl, ?_, hzz, hb.setCell hzz _⟩
            · rw [← hR2.out, List.drop_drop]; rfl
            · rw [e]; exact hf'.set0 _
          case measure => simp [ByteArray.size, str]; omega
        · have hd : q.drop (8 * i) = [] := List.drop_eq_nil_of_le (by omega)
          rw [hd]
          clear hd
          obtain ⟨⟨c0, c1, c2, c3⟩, f0, f1, f2, f3⟩ := hf.all
          go_wp2_with fail
          refine (sipRounds_any b 4 (by omega) (by omega) _ (hf.set2 (C ^^^ toU 255))).mono ?_
          rintro e w' ⟨rfl, hf', hb'⟩
          have hzz : B ≤ wr.heap.size := by have := hb.size; have := hB'.out; omega
          have hzs : (wr.setCell ⟨b, 2, none⟩ (.int .u64 (U (C ^^^ toU 255)))).heap.size = wr.heap.size := by simp [World.setCell]
          rw [hzs] at hf' hb' ⊢
          replace hb := (hb.setCell (p := ⟨b, 2, none⟩) hbb (.int .u64 (U (C ^^^ toU 255)))).trans (hb'.mono hzz)
          clear hb' hzs hf c0 c1 c2 c3 f0 f1 f2 f3
          generalize hq : Sip.rounds (Int.toNat 4) ⟨A, b1, C ^^^ toU 255, D⟩ = q2 at hf'
          have hQ2 := Lib.hid hq
          clear hq
          obtain ⟨A', B', C', D'⟩ := q2
          replace hf' : Four w' wr.heap.size A' B' C' D' := hf'
          generalize wr.heap.size = b2 at hf' hzz ⊢
          obtain ⟨⟨c0, c1, c2, c3⟩, f0, f1, f2, f3⟩ := hf'.all
          go_wp2_with fail
          go_quiet (fail)
          go_wp2_with fail
          go_ret
          refine ⟨?_, by rw [hB'.out]; exact below_drewN hb _⟩
          have hi' : i = q.length / 8 := by omega
          have e2 : Sip.rounds 4 ⟨A, b1, C ^^^ toU 255, D⟩ = ⟨A', B', C', D'⟩ := hQ2.out
          have e4 : Sip.sip k l s = A' ^^^ B' ^^^ C' ^^^ D' := by
            rw [← Sip.sip_pad, ← hQ.out, ← hi', hW.out]
            unfold Sip.last
            simp only [e2]
          rw [e4]; rfl

theorem relaySip_calls (k l : UInt64) (s : List UInt8) (hs : s.length ≤ 9223372036854775807) (w : World) :
    Calls Tryd.prog 19 #[.int .u64 (U k), .int .u64 (U l), .string (str s)] w fun e w' => e = .returned (.int .u64 (U (Sip.sip k l s))) ∧ Below w.heap.size w w' := by
  go_enter Tryd.func19, Tryd.ntmps19
  go_wp2_with (go_at_call 34; refine (hsip_calls k l s hs _).mono ?_; rintro e w' ⟨rfl, hb⟩)
  go_ret
  exact ⟨rfl, hb⟩
end Go.Proofs.YtlpcjiollnnmgaaDoor
