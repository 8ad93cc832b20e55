/-
  A REGION THAT DRAWS ITS ORDER, WHOSE FIRST n OPERATIONS ONLY READ (none is a call) AND WHOSE TAIL STANDS IN ONE ORDER: walked by the cheap step of the guide's 'go_quiet' over the first part. Plain; nothing of the program.
-/
import Derived.Test.YtlpcjiollnnmgabGreatDoorNums
namespace Go.Proofs.YtlpcjiollnnmgabGreatDoor
open Nums
namespace Reg
/-- operations that hand on one value and are no call -/
def plain : Op → Bool
  | .move _ | .assign _ | .load _ _ | .binOp _ _ _ _ _ | .unOp _ _ _ | .convert _ _ _ | .fieldAddr _ _ _ | .indexAddr _ _ _ | .index _ _ _ | .nilCheck _ | .slice _ _ _ _ _ | .build _ _ => true
  | _ => false

theorem map_ne {P : Program} {w w' : World} {s : Sem Value} {f : FuncId} {args : Array Value} : (s >>= fun v => pure (Next.value v) : Sem Next).run P w ≠ .ok (.enter f args) w' := by
  intro h
  rw [Sem.run_bind] at h
  cases hr : s.run P w with
  | ok v w1 => rw [hr] at h; simp [Result.andThen, Sem.run_pure] at h
  | halt x w1 => rw [hr] at h; simp [Result.andThen] at h

theorem bind_ne {α : Type} {P : Program} {w w' : World} {s : Sem α} {g : α → Sem Next} {f : FuncId} {args : Array Value} (h : ∀ v w1, (g v).run P w1 ≠ .ok (.enter f args) w') : (s >>= g).run P w ≠ .ok (.enter f args) w' := by
  intro hr
  rw [Sem.run_bind] at hr
  cases hs : s.run P w with
  | ok v w1 => rw [hs] at hr; exact h v w1 hr
  | halt x w1 => rw [hs] at hr; simp [Result.andThen] at hr
theorem pure_ne {P : Program} {w w' : World} {v : Value} {f : FuncId} {args : Array Value} : (pure (Next.value v) : Sem Next).run P w ≠ .ok (.enter f args) w' := by
  simp [Sem.run_pure]
theorem nil_ne {P : Program} {w w' : World} {x : Value} {f : FuncId} {args : Array Value} {o : Oper} {y : Operand} {ev : Operand → Value} (ho : o.op = .nilCheck y) (hx : ev y = x) : (execOp ev o).run P w ≠ .ok (.enter f args) w' := by
  intro hr
  unfold execOp at hr
  simp only [ho, hx] at hr
  split at hr
  · simp [runtimePanic] at hr
  · simp [runtimePanic] at hr
  · simp [runtimePanic] at hr
  · split at hr
    · simp [runtimePanic] at hr
    · refine bind_ne (fun v w1 => ?_) hr
      refine bind_ne (fun v2 w2 => ?_)
      split
      · exact bind_ne (fun v3 w3 => pure_ne)
      · exact pure_ne
    · exact pure_ne hr
  · exact pure_ne hr
theorem plain_ne {P : Program} {ev : Operand → Value} {o : Oper} {w w' : World} {f : FuncId} {args : Array Value} (h : plain o.op = true) : (execOp ev o).run P w ≠ .ok (.enter f args) w' := by
  cases ho : o.op <;> rw [ho] at h <;> simp only [plain, Bool.false_eq_true] at h
  case nilCheck x => exact nil_ne ho rfl
  all_goals (unfold execOp; simp only [ho]; first | exact pure_ne | exact map_ne)
theorem still_of_quiet {P : Program} {o : Oper} {a : Act} {C : World → Prop} {w : World} {K : Act → Prop} (hp : plain o.op = true) (hC : C w) (h : o.quiet P a C K) : o.still P a w K := by
  obtain ⟨v, h1, h2⟩ := h
  have h3 := h1 w hC
  unfold Oper.quietAt at h3
  unfold Oper.still
  have hne := fun f args w' => plain_ne (P := P) (ev := a.eval) (o := o) (w := w) (w' := w') (f := f) (args := args) hp
  generalize (execOp a.eval o).run P w = r at *
  cases r with
  | ok n w' =>
    cases n <;> simp only [Oper.quietUpon] at h3 <;> simp only [Oper.stillUpon]
    case value u => obtain ⟨e1, rfl⟩ := h3; exact ⟨e1, h2⟩
    case skip => obtain ⟨e1, rfl⟩ := h3; exact ⟨e1, h2⟩
    case enter f args => exact absurd rfl (hne f args w')
  | halt x w' => simp only [Oper.quietUpon] at h3
theorem still_of_quiet_list {P : Program} {ops : Array Oper} {C : World → Prop} {w : World} {Q : Act → Prop} (hC : C w) :
    ∀ (l : List Oper) (a : Act), l.all (fun o => plain o.op) = true → wpQuiet P ops C Q l a → wpStill P ops w Q l a
  | [], _, _, h => h
  | o :: l, a, hp, h => by
    simp only [List.all_cons, Bool.and_eq_true] at hp
    unfold wpQuiet at h
    unfold wpStill
    split
    · rename_i hw
      rw [if_pos hw] at h
      exact Oper.still_mono (fun a' h' => still_of_quiet_list hC l a' hp.2 h') (still_of_quiet hp.1 hC h)
    · rename_i hw
      rw [if_neg hw] at h
      exact still_of_quiet_list hC l _ hp.2 h
/-- the first n operations read alone, no call among them; then the tail, in its one order -/
theorem tail {P : Program} {id : Nat} {Q : Exit → Act → World → Prop} {a : Act} {w : World} {l : List Oper} (n : Nat) (hm : P.follows .mixedOrders = true) (hB : Region.lexTailB .any l.toArray n = true)
    (hp : (l.take n).all (fun o => plain o.op) = true)
    (h : wpQuiet P l.toArray (fun w' => ∃ m, w' = w.drewN m) (fun a' => wpList P l.toArray Q (l.drop n) a' w.drew) (l.take n) a) : (Code.region id l.toArray true).wp P Q a w :=
  region_tail n hm hB (still_of_quiet_list ⟨1, rfl⟩ _ _ hp h)
end Reg
/-- a callee that leaves the world, met inside a quiet region behind n, a + n draws -/
theorem quiet_left {P : Program} {f : FuncId} {args : Array Value} {w : World} {n : Nat} {v : Value}
    (h : Calls P f args (w.drewN n) fun e w' => e = .returned v ∧ w.drewN n = w') : Calls P f args (w.drewN n) fun e w'' => e = .returned v ∧ ∃ m, w'' = w.drewN m :=
  h.mono fun _ _ ⟨he, hm⟩ => ⟨he, n, hm.symm⟩
theorem quiet_add_left {P : Program} {f : FuncId} {args : Array Value} {w : World} {a n : Nat} {v : Value}
    (h : Calls P f args (w.drewN (a + n)) fun e w' => e = .returned v ∧ w.drewN (a + n) = w') :
    Calls P f args (w.drewN (a + n)) fun e w'' => e = .returned v ∧ ∃ m, w'' = w.drewN (a + m) :=
  h.mono fun _ _ ⟨he, hm⟩ => ⟨he, n, hm.symm⟩
end Go.Proofs.YtlpcjiollnnmgabGreatDoor
