/-
  THE WALK OF (*hash.state).block.
-/
import Derived.Test.YtlpcjiollnnmgabGreatDoorRows
import Derived.Test.YtlpcjiollnnmgabGreatDoorRows2
import Derived.WalkKit
import Derived.Outline
import Derived.LoopTactic
import Derived.Laws.CopyOwn
namespace Go.Proofs.YtlpcjiollnnmgabGreatDoor
open Go.RowKit Nums
theorem mixed : Tryz.prog.follows .mixedOrders = true := by kernel_rfl
theorem rot_calls (x : UInt32) (k : Int) (z : UInt64) (n : Nat) (hk : toU k &&& toU 31 = z) (h1 : U z = ((32 - n : Nat) : Int)) (h2 : U (toU 32 - z) = (n : Int)) (hn : n ≤ 32) (w : World) :
    Calls Tryz.prog 153 #[.int .u32 (V x), .int .i64 k] w fun e w' => e = .returned (.int .u32 (V (rotr32 x n))) ∧ w = w' := by
  have e1 := Lib.hid h1
  have e2 := Lib.hid h2
  have l1 : U z ≤ 32 := by omega
  have l2 : U (toU 32 - z) ≤ 32 := by omega
  clear h1 h2
  go_enter Tryz.func153, Tryz.ntmps153
  go_wp2
  go_ret
  refine ⟨?_, rfl⟩
  have h1 := e1.out
  have h2 := e2.out
  have f1 : (U z).toNat = 32 - n := by omega
  have f2 : (U (toU 32 - z)).toNat = n := by omega
  unfold rotr32
  rw [UInt32.or_comm]
  rw [← f1]
  conv => rhs; rw [← f2]
  rfl
/-- the program's turns -/
theorem rot_at (x : UInt32) (k : Int) (n : Nat) (h : (n = 2 ∧ k = -2) ∨ (n = 6 ∧ k = -6) ∨ (n = 7 ∧ k = -7) ∨ (n = 11 ∧ k = -11) ∨ (n = 13 ∧ k = -13) ∨ (n = 17 ∧ k = -17) ∨ (n = 18 ∧ k = -18) ∨ (n = 19 ∧ k = -19) ∨ (n = 22 ∧ k = -22) ∨ (n = 25 ∧ k = -25)) (w : World) :
    Calls Tryz.prog 153 #[.int .u32 (V x), .int .i64 k] w fun e w' => e = .returned (.int .u32 (V (rotr32 x n))) ∧ w = w' := by
  rcases h with ⟨rfl, rfl⟩ | ⟨rfl, rfl⟩ | ⟨rfl, rfl⟩ | ⟨rfl, rfl⟩ | ⟨rfl, rfl⟩ | ⟨rfl, rfl⟩ | ⟨rfl, rfl⟩ | ⟨rfl, rfl⟩ | ⟨rfl, rfl⟩ | ⟨rfl, rfl⟩ <;> exact rot_calls x _ _ _ rfl rfl rfl (by decide) w

def H8l (s : Sha.H8) : List UInt32 := [s.a, s.b, s.c, s.d, s.e, s.f, s.g, s.h]

set_option maxRecDepth 100000 in
set_option maxHeartbeats 4000000 in
theorem block_calls (S g o cap : Nat) (s : Sha.H8) (rv nv : Value) (b : List UInt8) (hb : b.length = 64) (w : World) (hS1 : 1 < w.heap.size)
    (hrow : Row w S (w32 (H8l s) ++ [rv, nv])) (hg : g < w.heap.size) (hby : Bytes w g o b) (hK : Row w 1 (w32 Sha.rounds)) :
    Calls Tryz.prog 136 #[.pointer (some ⟨S, 0, none⟩), .slice (some ⟨g, o, none⟩) 64 cap] w fun e w' =>
      e = .returned (.tuple #[]) ∧ Row w' S (w32 (H8l (Sha.block s b)) ++ [rv, nv]) ∧ But w.heap.size S w w' := by
  go_enter Tryz.func136, Tryz.ntmps136
  go_wp2
  have hz : Row (w.alloc (.cells (w32 (List.replicate 64 0)).toArray 209)) w.heap.size (w32 (List.replicate 64 0)) := Row.new w _ _
  have hk0 : Below w.heap.size w (w.alloc (.cells (w32 (List.replicate 64 0)).toArray 209)) := (Below.refl _ _).alloc (Nat.le_refl _) _
  have e0 : (w32 (List.replicate 64 0)).toArray = #[.int .u32 0, .int .u32 0, .int .u32 0, .int .u32 0, .int .u32 0, .int .u32 0, .int .u32 0, .int .u32 0, .int .u32 0, .int .u32 0, .int .u32 0, .int .u32 0, .int .u32 0, .int .u32 0, .int .u32 0, .int .u32 0, .int .u32 0, .int .u32 0, .int .u32 0, .int .u32 0, .int .u32 0, .int .u32 0, .int .u32 0, .int .u32 0, .int .u32 0, .int .u32 0, .int .u32 0, .int .u32 0, .int .u32 0, .int .u32 0, .int .u32 0, .int .u32 0, .int .u32 0, .int .u32 0, .int .u32 0, .int .u32 0, .int .u32 0, .int .u32 0, .int .u32 0, .int .u32 0, .int .u32 0, .int .u32 0, .int .u32 0, .int .u32 0, .int .u32 0, .int .u32 0, .int .u32 0, .int .u32 0, .int .u32 0, .int .u32 0, .int .u32 0, .int .u32 0, .int .u32 0, .int .u32 0, .int .u32 0, .int .u32 0, .int .u32 0, .int .u32 0, .int .u32 0, .int .u32 0, .int .u32 0, .int .u32 0, .int .u32 0, .int .u32 0] := by kernel_rfl
  rw [e0] at hz hk0
  have hSA : S ≠ w.heap.size := by have := hrow.lt; omega
  have hAs : w.heap.size < (w.alloc (.cells #[.int .u32 0, .int .u32 0, .int .u32 0, .int .u32 0, .int .u32 0, .int .u32 0, .int .u32 0, .int .u32 0, .int .u32 0, .int .u32 0, .int .u32 0, .int .u32 0, .int .u32 0, .int .u32 0, .int .u32 0, .int .u32 0, .int .u32 0, .int .u32 0, .int .u32 0, .int .u32 0, .int .u32 0, .int .u32 0, .int .u32 0, .int .u32 0, .int .u32 0, .int .u32 0, .int .u32 0, .int .u32 0, .int .u32 0, .int .u32 0, .int .u32 0, .int .u32 0, .int .u32 0, .int .u32 0, .int .u32 0, .int .u32 0, .int .u32 0, .int .u32 0, .int .u32 0, .int .u32 0, .int .u32 0, .int .u32 0, .int .u32 0, .int .u32 0, .int .u32 0, .int .u32 0, .int .u32 0, .int .u32 0, .int .u32 0, .int .u32 0, .int .u32 0, .int .u32 0, .int .u32 0, .int .u32 0, .int .u32 0, .int .u32 0, .int .u32 0, .int .u32 0, .int .u32 0, .int .u32 0, .int .u32 0, .int .u32 0, .int .u32 0, .int .u32 0] 209)).heap.size := by simp
  clear e0
  generalize w.alloc _ = w1 at hz hk0 hAs ⊢
  have hSl := hrow.lt
  generalize hA : w.heap.size = A at hz hk0 hAs hSA hS1 hg hSl ⊢
  have hA' := Lib.hid hA
  clear hA
  have hHrow := Lib.hid hrow
  have hHby := Lib.hid hby
  have hHK := Lib.hid hK
  clear hrow hby hK
  go_loopw [18] (fun v wr => ∃ i : Nat, i ≤ 16 ∧ v = .int .i64 i ∧ Row wr A (w32 (Sha.first b i ++ List.replicate (64 - i) 0)) ∧ Below A w wr ∧ A < wr.heap.size) (fun v _ => 16 - (intOf v).toNat)
  case atStart => exact ⟨0, by omega, rfl, hz, hk0, hAs⟩
  case round =>
    clear hz hk0 hAs
    obtain ⟨i, hi, rfl, hz, hk, hAs⟩ := hrel
    by_cases hlt : i < 16
    · have b0 := (hHby.out.below hk hg) (4 * i) (by omega)
      have b1 := (hHby.out.below hk hg) (4 * i + 1) (by omega)
      have b2 := (hHby.out.below hk hg) (4 * i + 2) (by omega)
      have b3 := (hHby.out.below hk hg) (4 * i + 3) (by omega)
      have hfl := Sha.first_length b i
      have hll : (w32 (Sha.first b i ++ List.replicate (64 - i) 0)).length = 64 := by simp [w32, hfl]; omega
      have cw : ∃ v, wr.cell? ⟨A, i, none⟩ = some v := ⟨_, by rw [hz.cell]; exact List.getElem?_eq_getElem (by omega)⟩
      obtain ⟨u, cu⟩ := cw
      have fz := hz.free i
      clear hfl hll
      have p0 : (0 : Int) ≤ 4 * (i : Int) := by omega
      have p1 : 4 * (i : Int) < 64 := by omega
      have p2 : 4 * (i : Int) + 1 < 64 := by omega
      have p3 : 4 * (i : Int) + 2 < 64 := by omega
      have p4 : 4 * (i : Int) + 3 < 64 := by omega
      have p5 : (i : Int) < 64 := by omega
      go_wp2_with fail
      refine Reg.tail 35 mixed (by as_aux_lemma => kernel_rfl) rfl ?_
      simp only [List.take_succ_cons, List.take_zero, List.drop_succ_cons, List.drop_zero]
      repeat (go_big_quiet_step (fail))
      refine wpQuiet_nil ?_
      go_wp2_with fail
      go_roundw
      case rel =>
        refine ⟨i + 1, by omega, by go_num, ?_, (hk.setCell (p := ⟨A, i, none⟩) (Nat.le_refl _) _).drew, by simpa [World.setCell] using hAs⟩
        have := (hz.set i (.int .u32 (V (Sha.word4 b i)))).drew
        rw [w32_set, Sha.set_fill (m := 64 - (i + 1)) (Sha.first_length b i) (by omega)] at this
        exact this
      case measure => simp [intOf]; omega
    · obtain rfl : i = 16 := by omega
      have hzz : Row wr A (w32 (Sha.sched b 0 ++ List.replicate 48 0)) := hz
      clear hz
      rw [show ((16 : Nat) : Int) = 16 from rfl]
      go_wp2_with fail
      obtain ⟨wq, rfl⟩ : ∃ wq : World, wq = wr := ⟨_, rfl⟩
      go_loopw [6] (fun v wr => ∃ n : Nat, 16 ≤ n ∧ n ≤ 64 ∧ v = .int .i64 n ∧ Row wr A (w32 (Sha.sched b (n - 16) ++ List.replicate (64 - n) 0)) ∧ Below A w wr ∧ A < wr.heap.size) (fun v _ => 64 - (intOf v).toNat)
      case atStart => exact ⟨16, by omega, by omega, rfl, hzz, hk, hAs⟩
      case round =>
        clear hzz hk hAs
        obtain ⟨n, hn16, hn64, rfl, hz, hk, hAs⟩ := hrel
        by_cases hlt : n < 64
        · have hsl := Sha.sched_length b (n - 16)
          have hsl' : (Sha.sched b (n - 16)).length = n := by omega
          have hg : ∀ j, j < n → wr.cell? ⟨A, j, none⟩ = some (.int .u32 (V (Sha.nw (Sha.sched b (n - 16)) j))) := fun j hj => by
            rw [hz.word j (by simp; omega), Sha.nw_append _ _ _ (by omega)]
          have g15 := hg (n - 15) (by omega)
          have g2 := hg (n - 2) (by omega)
          have g16 := hg (n - 16) (by omega)
          have g7 := hg (n - 7) (by omega)
          have cw : ∃ v, wr.cell? ⟨A, n, none⟩ = some v := ⟨_, hz.word n (by simp; omega)⟩
          obtain ⟨u, cu⟩ := cw
          have fz := hz.free n
          have hnx : Sha.next (Sha.sched b (n - 16)) = Sha.nw (Sha.sched b (n - 16)) (n - 16) + Sha.s0 (Sha.nw (Sha.sched b (n - 16)) (n - 15)) + Sha.nw (Sha.sched b (n - 16)) (n - 7) + Sha.s1 (Sha.nw (Sha.sched b (n - 16)) (n - 2)) := by
            unfold Sha.next; rw [hsl']
          have hNX := Lib.hid hnx
          have hSL := Lib.hid hsl'
          clear hnx hsl hsl' hg
          generalize Sha.nw (Sha.sched b (n - 16)) (n - 15) = x15 at g15 hNX
          generalize Sha.nw (Sha.sched b (n - 16)) (n - 2) = x2 at g2 hNX
          generalize Sha.nw (Sha.sched b (n - 16)) (n - 16) = x16 at g16 hNX
          generalize Sha.nw (Sha.sched b (n - 16)) (n - 7) = x7 at g7 hNX
          have p0 : (0 : Int) ≤ (n : Int) - 15 := by omega
          have p1 : (n : Int) - 15 < 64 := by omega
          have p2 : (0 : Int) ≤ (n : Int) - 2 := by omega
          have p3 : (n : Int) - 2 < 64 := by omega
          have p4 : (0 : Int) ≤ (n : Int) - 16 := by omega
          have p5 : (n : Int) - 16 < 64 := by omega
          have p6 : (0 : Int) ≤ (n : Int) - 7 := by omega
          have p7 : (n : Int) - 7 < 64 := by omega
          have p8 : (n : Int) < 64 := by omega
          go_wp2_with fail
          go_quiet (fail)
          go_wp2_with (go_at_call 153; (first | refine (rot_at _ _ 7 (by omega) _).mono ?_ | refine (rot_at _ _ 18 (by omega) _).mono ?_ | refine (rot_at _ _ 17 (by omega) _).mono ?_ | refine (rot_at _ _ 19 (by omega) _).mono ?_); rintro e w' ⟨rfl, rfl⟩)
          refine Reg.tail 15 mixed (by as_aux_lemma => kernel_rfl) rfl ?_
          simp only [List.take_succ_cons, List.take_zero, List.drop_succ_cons, List.drop_zero]
          repeat (go_big_quiet_step (fail))
          refine wpQuiet_nil ?_
          go_wp2_with fail
          go_roundw
          case rel =>
            have e1 : Sha.sched b (n + 1 - 16) = Sha.sched b (n - 16) ++ [Sha.next (Sha.sched b (n - 16))] := by rw [show n + 1 - 16 = (n - 16) + 1 by omega]; rfl
            refine ⟨n + 1, by omega, by omega, by go_num, ?_, ?_, by simpa [World.setCell] using hAs⟩
            · have := hz.set n (.int .u32 (V (Sha.next (Sha.sched b (n - 16)))))
              rw [w32_set, Sha.set_fill (m := 64 - (n + 1)) hSL.out (by omega), ← e1, hNX.out] at this
              exact this
            · exact (below_drewN hk _).setCell (p := ⟨A, n, none⟩) (Nat.le_refl _) _
          case measure => simp [intOf]; omega
        · obtain rfl : n = 64 := by omega
          replace hz : Row wr A (w32 (Sha.sched b 48)) := by simpa using hz
          rw [show ((64 : Nat) : Int) = 64 from rfl]
          have hr := hHrow.out.below hk hSl
          have hrc : ∀ j, j < 8 → wr.cell? ⟨S, j, none⟩ = some (.int .u32 (V (Sha.nw (H8l s) j))) := fun j hj => by
            rw [hr.cell, List.getElem?_append_left (by simp [w32, H8l]; omega), w32_get _ _ (by simp [H8l]; omega)]
          have c0 := hrc 0 (by omega)
          have c1 := hrc 1 (by omega)
          have c2 := hrc 2 (by omega)
          have c3 := hrc 3 (by omega)
          have c4 := hrc 4 (by omega)
          have c5 := hrc 5 (by omega)
          have c6 := hrc 6 (by omega)
          have c7 := hrc 7 (by omega)
          simp only [show Sha.nw (H8l s) 0 = s.a from rfl, show Sha.nw (H8l s) 1 = s.b from rfl, show Sha.nw (H8l s) 2 = s.c from rfl, show Sha.nw (H8l s) 3 = s.d from rfl, show Sha.nw (H8l s) 4 = s.e from rfl, show Sha.nw (H8l s) 5 = s.f from rfl, show Sha.nw (H8l s) 6 = s.g from rfl, show Sha.nw (H8l s) 7 = s.h from rfl] at c0 c1 c2 c3 c4 c5 c6 c7
          clear hrc
          go_wp2_with fail
          have hz3 : Row (wr.alloc (.cells (w32 (H8l s)).toArray 169)) wr.heap.size (w32 (H8l s)) := Row.new wr _ _
          have hk3 : Below A w (wr.alloc (.cells (w32 (H8l s)).toArray 169)) := hk.alloc (by omega) _
          have hw3 : Row (wr.alloc (.cells (w32 (H8l s)).toArray 169)) A (w32 (Sha.sched b 48)) := hz.alloc _
          have e3 : (w32 (H8l s)).toArray = #[.int .u32 (V s.a), .int .u32 (V s.b), .int .u32 (V s.c), .int .u32 (V s.d), .int .u32 (V s.e), .int .u32 (V s.f), .int .u32 (V s.g), .int .u32 (V s.h)] := rfl
          rw [e3] at hz3 hk3 hw3
          clear e3 hz hk c0 c1 c2 c3 c4 c5 c6 c7 hr
          generalize wr.alloc _ = w3 at hz3 hk3 hw3 ⊢
          generalize wr.heap.size = Hb at hz3 hAs ⊢
          have hwl : (Sha.sched b 48).length = 64 := Sha.sched_length b 48
          generalize hws : Sha.sched b 48 = ws at hw3 hwl
          have hWS := Lib.hid hws
          have hWL := Lib.hid hwl
          clear hws hwl
          have hHs : Hb < w3.heap.size := hz3.lt
          obtain ⟨wp, rfl⟩ : ∃ wp : World, wp = wr := ⟨_, rfl⟩
          go_loopw [104] (fun v wr => ∃ i : Nat, i ≤ 64 ∧ v = .int .i64 i ∧ Row wr Hb (w32 (H8l (Sha.rnds ws s i))) ∧ Row wr A (w32 ws) ∧ Below A w wr) (fun v _ => 64 - (intOf v).toNat)
          case atStart => exact ⟨0, by omega, rfl, hz3, hw3, hk3⟩
          case round =>
            clear hz3 hw3 hk3 hHs
            obtain ⟨i, hi64, rfl, hz, hw, hk⟩ := hrel
            generalize hst : Sha.rnds ws s i = st at hz
            have hST := Lib.hid hst
            clear hst
            obtain ⟨a1, b1, c1, d1, e1, f1, g1, h1⟩ := st
            by_cases hlt : i < 64
            · have hcc : ∀ j, j < 8 → wr.cell? ⟨Hb, j, none⟩ = some (.int .u32 (V (Sha.nw (H8l ⟨a1, b1, c1, d1, e1, f1, g1, h1⟩) j))) := fun j hj => hz.word j (by simp [H8l]; omega)
              have x0 : wr.cell? ⟨Hb, 0, none⟩ = some (.int .u32 (V a1)) := hcc 0 (by omega)
              have x1 : wr.cell? ⟨Hb, 1, none⟩ = some (.int .u32 (V b1)) := hcc 1 (by omega)
              have x2 : wr.cell? ⟨Hb, 2, none⟩ = some (.int .u32 (V c1)) := hcc 2 (by omega)
              have x3 : wr.cell? ⟨Hb, 3, none⟩ = some (.int .u32 (V d1)) := hcc 3 (by omega)
              have x4 : wr.cell? ⟨Hb, 4, none⟩ = some (.int .u32 (V e1)) := hcc 4 (by omega)
              have x5 : wr.cell? ⟨Hb, 5, none⟩ = some (.int .u32 (V f1)) := hcc 5 (by omega)
              have x6 : wr.cell? ⟨Hb, 6, none⟩ = some (.int .u32 (V g1)) := hcc 6 (by omega)
              have x7 : wr.cell? ⟨Hb, 7, none⟩ = some (.int .u32 (V h1)) := hcc 7 (by omega)
              have xw := hw.word i (by have := hWL.out; omega)
              have xk := (hHK.out.below hk hS1).word i hlt
              have p0 : (i : Int) < 64 := by omega
              clear hcc
              generalize hkk : Sha.nw Sha.rounds i = kk at xk
              have hKK := Lib.hid hkk
              generalize hwk : Sha.nw ws i = wk at xw
              have hWK := Lib.hid hwk
              clear hkk hwk
              go_wp2_with fail
              go_quiet (fail)
              obtain ⟨q1, rfl⟩ : ∃ q1 : Nat, q1 = nq := ⟨_, rfl⟩
              go_wp2_with fail
              go_quiet ((go_at_call 153; first | (exact quiet_add_left (rot_at _ _ 6 (by omega) _)) | (exact quiet_add_left (rot_at _ _ 11 (by omega) _)) | (exact quiet_add_left (rot_at _ _ 25 (by omega) _)) | (exact quiet_add_left (rot_at _ _ 2 (by omega) _)) | (exact quiet_add_left (rot_at _ _ 13 (by omega) _)) | (exact quiet_add_left (rot_at _ _ 22 (by omega) _))))
              obtain ⟨q2, rfl⟩ : ∃ q2 : Nat, q2 = nq := ⟨_, rfl⟩
              go_wp2_with fail
              go_quiet ((go_at_call 153; first | (exact quiet_add_left (rot_at _ _ 6 (by omega) _)) | (exact quiet_add_left (rot_at _ _ 11 (by omega) _)) | (exact quiet_add_left (rot_at _ _ 25 (by omega) _)) | (exact quiet_add_left (rot_at _ _ 2 (by omega) _)) | (exact quiet_add_left (rot_at _ _ 13 (by omega) _)) | (exact quiet_add_left (rot_at _ _ 22 (by omega) _))))
              obtain ⟨q3, rfl⟩ : ∃ q3 : Nat, q3 = nq := ⟨_, rfl⟩
              go_wp2_with fail
              generalize htt : h1 + (rotr32 e1 6 ^^^ rotr32 e1 11 ^^^ rotr32 e1 25) + (e1 &&& f1 ^^^ ~~~e1 &&& g1) + kk + wk = tt
              have hTT := Lib.hid htt
              clear htt
              generalize huu : (rotr32 a1 2 ^^^ rotr32 a1 13 ^^^ rotr32 a1 22) + (a1 &&& b1 ^^^ a1 &&& c1 ^^^ b1 &&& c1) = uu
              have hUU := Lib.hid huu
              clear huu x0 x1 x2 x3 x4 x5 x6 x7 xw xk
              replace hz := ((hz.drewN q1).drewN q2).drewN q3
              replace hw := ((hw.drewN q1).drewN q2).drewN q3
              replace hk := below_drewN (below_drewN (below_drewN hk q1) q2) q3
              generalize ((wr.drewN q1).drewN q2).drewN q3 = wg at hz hw hk ⊢
              refine Reg.tail 2 mixed (by as_aux_lemma => kernel_rfl) rfl ?_
              simp only [List.take_succ_cons, List.take_zero, List.drop_succ_cons, List.drop_zero]
              repeat (go_big_quiet_step (fail))
              refine wpQuiet_nil ?_
              replace hz := hz.drew
              replace hw := hw.drew
              replace hk := hk.drew
              generalize wg.drew = wd at hz hw hk ⊢
              obtain ⟨T, hT⟩ := hz
              have hcs : ∀ (j : Nat) (v : Value), (w32 [a1, b1, c1, d1, e1, f1, g1])[j]? = some v → wd.cell? (Addr.add ⟨Hb, 0, none⟩ j) = some v := fun j v hj => by
                rw [Addr.add_lit, Nat.zero_add, Row.cell ⟨T, hT⟩, ← hj]
                match j with
                | 0 | 1 | 2 | 3 | 4 | 5 | 6 => rfl
                | j + 7 => simp [w32] at hj
              refine wpList_copy_splice rfl _ _ _ _ rfl 168 Tryz.underlying211 (by kernel_rfl) _ _ 7 7 7 8 rfl rfl Hb 1 (w32 (H8l ⟨a1, b1, c1, d1, e1, f1, g1, h1⟩)) T hT (w32 [a1, b1, c1, d1, e1, f1, g1]) rfl (fun _ => ⟨rfl, _, rfl, hcs⟩) (by simp [w32, H8l]) ?_ Hb wd (Below.refl _ _) (Nat.le_refl _) ?_
              · intro v hv
                obtain ⟨x, _, rfl⟩ := List.mem_map.1 hv
                rfl
              intro w' hw' hb'
              have hz' : Row w' Hb (w32 [a1, a1, b1, c1, d1, e1, f1, g1]) := ⟨T, hw'.out⟩
              replace hw := hw.below hb' hAs
              replace hk := hk.trans (hb'.mono (Nat.le_of_lt hAs))
              clear hw' hb' hT hcs
              have y0 : w'.cell? ⟨Hb, 0, none⟩ = some (.int .u32 (V a1)) := hz'.word 0 (by simp)
              have y4 : w'.cell? ⟨Hb, 4, none⟩ = some (.int .u32 (V d1)) := hz'.word 4 (by simp)
              have z0 := hz'.free 0
              have z4 := hz'.free 4
              go_wp2_with fail
              go_roundw
              case rel =>
                have hkA : A ≤ Hb := Nat.le_of_lt hAs
                refine ⟨i + 1, by omega, by go_num, ?_, (hw.other (a := ⟨Hb, 4, none⟩) (show Hb ≠ A by omega) _).other (a := ⟨Hb, 0, none⟩) (show Hb ≠ A by omega) _, (hk.setCell (p := ⟨Hb, 4, none⟩) hkA _).setCell (p := ⟨Hb, 0, none⟩) hkA _⟩
                have e : H8l (Sha.rnds ws s (i + 1)) = [tt + uu, a1, b1, c1, d1 + tt, e1, f1, g1] := by
                  show H8l (Sha.rnd (Sha.rnds ws s i) (Sha.nw Sha.rounds i) (Sha.nw ws i)) = _
                  rw [hST.out, hKK.out, hWK.out, ← hTT.out, ← hUU.out]
                  rfl
                rw [e]
                have := (hz'.set 4 (.int .u32 (V (d1 + tt)))).set 0 (.int .u32 (V (tt + uu)))
                exact this
              case measure => simp [intOf]; omega
            · obtain rfl : i = 64 := by omega
              have hr := hHrow.out.below hk hSl
              rw [show ((64 : Nat) : Int) = 64 from rfl]
              go_wp2_with fail
              obtain ⟨wt, rfl⟩ : ∃ wt : World, wt = wr := ⟨_, rfl⟩
              generalize hfin : (⟨a1, b1, c1, d1, e1, f1, g1, h1⟩ : Sha.H8) = fin at hz hST
              have hFIN := Lib.hid hfin
              clear hfin
              have hP8 : (H8l (Sha.plus s fin)).length = 8 := rfl
              have hS8 : (H8l s).length = 8 := rfl
              have hF8 : (H8l fin).length = 8 := rfl
              have hPL := Lib.hid hP8
              have hSL := Lib.hid hS8
              have hFL := Lib.hid hF8
              have hHS : Hb ≠ S := by omega
              clear hP8 hS8 hF8
              go_loopw [178] (fun v wr => ∃ i : Nat, i ≤ 8 ∧ v = .int .i64 i ∧ Row wr S (w32 ((H8l (Sha.plus s fin)).take i ++ (H8l s).drop i) ++ [rv, nv]) ∧ Row wr Hb (w32 (H8l fin)) ∧ But A S w wr) (fun v _ => 8 - (intOf v).toNat)
              case atStart => exact ⟨0, by omega, rfl, hr, hz, But.of_below hk⟩
              case round =>
                clear hr hz hk hw
                obtain ⟨i, hi8, rfl, hr, hz, hk⟩ := hrel
                have hml : (w32 ((H8l (Sha.plus s fin)).take i ++ (H8l s).drop i)).length = 8 := by
                  simp [w32, hPL.out, hSL.out]; omega
                by_cases hlt : i < 8
                · have cs : wr.cell? ⟨S, i, none⟩ = some (.int .u32 (V (Sha.nw (H8l s) i))) := by
                    rw [hr.cell, List.getElem?_append_left (by omega), w32_get _ _ (by simpa [w32] using (by omega : i < (w32 ((H8l (Sha.plus s fin)).take i ++ (H8l s).drop i)).length)), Sha.mix_get _ _ _ (by rw [hPL.out]; omega)]
                  have cf := hz.word i (by rw [hFL.out]; omega)
                  have fz := hr.free i
                  have hpl : Sha.nw (H8l (Sha.plus s fin)) i = Sha.nw (H8l s) i + Sha.nw (H8l fin) i := by
                    match i, hlt with
                    | 0, _ | 1, _ | 2, _ | 3, _ | 4, _ | 5, _ | 6, _ | 7, _ => rfl
                  have hPP := Lib.hid hpl
                  have hML := Lib.hid hml
                  clear hpl hml
                  have p0 : (i : Int) < 8 := by omega
                  go_wp2_with fail
                  refine Reg.tail 13 mixed (by as_aux_lemma => kernel_rfl) rfl ?_
                  simp only [List.take_succ_cons, List.take_zero, List.drop_succ_cons, List.drop_zero]
                  repeat (go_big_quiet_step (fail))
                  refine wpQuiet_nil ?_
                  go_wp2_with fail
                  go_roundw
                  case rel =>
                    refine ⟨i + 1, by omega, by go_num, ?_, (hz.other (a := ⟨S, i, none⟩) (show S ≠ Hb by omega) _).drew, (hk.setOwn i _).drew⟩
                    have := (hr.set i (.int .u32 (V (Sha.nw (H8l (Sha.plus s fin)) i)))).drew
                    rw [List.set_append_left _ _ (by rw [hML.out]; omega), w32_set, Sha.mix_set _ _ _ (by rw [hPL.out]; omega) (by rw [hSL.out]; omega), hPP.out] at this
                    exact this
                  case measure => simp [intOf]; omega
                · obtain rfl : i = 8 := by omega
                  go_wp2_with fail
                  go_end0
                  have e8 : (H8l (Sha.plus s fin)).take 8 ++ (H8l s).drop 8 = H8l (Sha.block s b) := by
                    have : Sha.block s b = Sha.plus s fin := by unfold Sha.block; rw [hWS.out, hST.out]
                    rw [this]; rfl
                  rw [e8] at hr
                  exact ⟨rfl, hr, by rw [hA'.out]; exact hk⟩
end Go.Proofs.YtlpcjiollnnmgabGreatDoor
