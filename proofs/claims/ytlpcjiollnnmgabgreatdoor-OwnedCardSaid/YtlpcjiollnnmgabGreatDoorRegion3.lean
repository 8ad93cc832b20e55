/-
  A REGION THAT DRAWS ITS ORDER, WALKED BY HAND UNDER A CONDITION S ON THE WORLD: the operations that only read (in every world that meets S they yield one value) are taken first, whichever they are; then one operation after the other. Plain; nothing of the program.
-/
import Derived.Test.YtlpcjiollnnmgabGreatDoorRegion2
import Derived.OrdersHeld
namespace Go.Proofs.YtlpcjiollnnmgabGreatDoor
open Nums
namespace Reg
theorem map_noskip {P : Program} {w w' : World} {s : Sem Value} : (s >>= fun v => pure (Next.value v) : Sem Next).run P w ≠ .ok .skip w' := by
  intro h
  rw [Sem.run_bind] at h
  cases hr : s.run P w with
  | ok v w1 => rw [hr] at h; simp [Result.andThen, Sem.run_pure] at h
  | halt x w1 => rw [hr] at h; simp [Result.andThen] at h
theorem bind_noskip {α : Type} {P : Program} {w w' : World} {s : Sem α} {g : α → Sem Next} (h : ∀ v w1, (g v).run P w1 ≠ .ok .skip w') : (s >>= g).run P w ≠ .ok .skip w' := by
  intro hr
  rw [Sem.run_bind] at hr
  cases hs : s.run P w with
  | ok v w1 => rw [hs] at hr; exact h v w1 hr
  | halt x w1 => rw [hs] at hr; simp [Result.andThen] at hr
/-- operations that hand on one value: no call, nothing skipped -/
def reading : Op → Bool
  | .move _ | .assign _ | .load _ _ | .binOp _ _ _ _ _ | .unOp _ _ _ | .convert _ _ _ | .fieldAddr _ _ _ | .indexAddr _ _ _ | .index _ _ _ | .slice _ _ _ _ _ | .build _ _ | .extract _ _ | .nilCheck _ => true
  | .call c => match c.callee with
    | .builtin .len | .builtin .min | .builtin .max => true
    | _ => false
  | _ => false
theorem reading_ne {P : Program} {ev : Operand → Value} {o : Oper} {w w' : World} {f : FuncId} {args : Array Value} (h : reading o.op = true) : (execOp ev o).run P w ≠ .ok (.enter f args) w' := by
  cases ho : o.op <;> rw [ho] at h <;> simp only [reading, Bool.false_eq_true] at h
  case call c =>
    obtain ⟨callee, as, ts⟩ := c
    cases callee <;> simp only [Bool.false_eq_true] at h
    rename_i b
    cases b <;> simp only [Bool.false_eq_true] at h <;> (unfold execOp; simp only [ho]; simp only [resolve, invoke, builtin, Sem.run_bind, Sem.run_pure, Result.andThen]; intro hr; split at hr <;> simp_all)
  case extract t i => unfold execOp; simp only [ho]; first | exact pure_ne | exact map_ne
  all_goals exact plain_ne (by rw [ho]; rfl)
theorem reading_noskip {P : Program} {ev : Operand → Value} {o : Oper} {w w' : World} (h : reading o.op = true) : (execOp ev o).run P w ≠ .ok .skip w' := by
  cases ho : o.op <;> rw [ho] at h <;> simp only [reading, Bool.false_eq_true] at h
  case call c =>
    obtain ⟨callee, as, ts⟩ := c
    cases callee <;> simp only [Bool.false_eq_true] at h
    rename_i b
    cases b <;> simp only [Bool.false_eq_true] at h <;> (unfold execOp; simp only [ho]; simp only [resolve, invoke, builtin, Sem.run_bind, Sem.run_pure, Result.andThen]; intro hr; split at hr <;> simp_all)
  case nilCheck x =>
    unfold execOp; simp only [ho]; intro hr
    split at hr
    all_goals first | (simp [runtimePanic, Sem.run_bind] at hr; done) | skip
    split at hr
    · simp [runtimePanic, Sem.run_bind] at hr
    · exact bind_noskip (fun _ _ => bind_noskip fun _ _ => by split; exact bind_noskip (fun _ _ => by simp [Sem.run_pure]); simp [Sem.run_pure]) hr
    · simp [Sem.run_pure] at hr
  all_goals (unfold execOp; simp only [ho]; first | (simp [Sem.run_pure]; done) | exact map_noskip)
def takeB (ops : Array Oper) : List Nat → Array Bool → Bool
  | [], _ => true
  | i :: r, listed => (Region.ready .any ops listed).contains i && Region.free .any ops listed i && takeB ops r (listed.setIfInBounds i true)
def marksL : List Nat → Array Bool → Array Bool
  | [], listed => listed
  | i :: r, listed => marksL r (listed.setIfInBounds i true)
section
variable {P : Program} {ops : Array Oper} {Q : Exit → Act → World → Prop} {S : World → Prop}
theorem yieldsIf_of_quiet {o : Oper} {a : Act} {K : Act → Prop} (hp : reading o.op = true) (hw : Region.wanted o (yielded ops a.tmps) = true) (h : o.quiet P a S K) : ∃ v, YieldsIf P ops S o v a ∧ K (a.put o.dst v) := by
  obtain ⟨v, h1, h2⟩ := h
  refine ⟨v, .inl ⟨hw, fun w hS => ?_⟩, h2⟩
  have h3 := h1 w hS
  unfold Oper.quietAt at h3
  have hne := fun f args w' => reading_ne (P := P) (ev := a.eval) (o := o) (w := w) (w' := w') (f := f) (args := args) hp
  have hns := fun w' => reading_noskip (P := P) (ev := a.eval) (o := o) (w := w) (w' := w') hp
  generalize (execOp a.eval o).run P w = r at *
  cases r with
  | ok n w' =>
    cases n <;> simp only [Oper.quietUpon] at h3
    case value u => obtain ⟨e1, e2⟩ := h3; rw [e1, e2]
    case skip => exact absurd rfl (hns w')
    case enter f args => exact absurd rfl (hne f args w')
  | halt x w' => simp only [Oper.quietUpon] at h3
theorem takes (hsel : Region.noSelect ops = true) (hQ : ∀ c (a : Act) d v w, Q (.panic c) (a.put d v) w → Q (.panic c) a w) (fuel : Nat) (w : World) (hS : S w) :
    ∀ (is : List Nat) (os : List Oper) (listed : Array Bool) (a : Act), is.map (fun i => ops[i]?) = os.map some → takeB ops is listed = true → os.all (fun o => reading o.op) = true →
      wpQuiet P ops S (fun a' => wpAnyH P .any ops Q S fuel (marksL is listed) a' w) os a → wpAnyH P .any ops Q S (fuel + is.length) listed a w := by
  intro is
  induction is with
  | nil =>
    intro os listed a hi _ _ h
    have : os = [] := by simpa using hi.symm
    subst this; exact h
  | cons i is ih =>
    intro os listed a hi hB hp h
    cases os with
    | nil => simp at hi
    | cons o os =>
      simp only [List.map_cons, List.cons.injEq] at hi
      simp only [takeB, Bool.and_eq_true] at hB
      simp only [List.all_cons, Bool.and_eq_true] at hp
      have hy : ∃ v, YieldsIf P ops S o v a ∧ wpQuiet P ops S (fun a' => wpAnyH P .any ops Q S fuel (marksL is (listed.setIfInBounds i true)) a' w) os (a.put o.dst v) := by
        unfold wpQuiet at h
        split at h
        · rename_i hw
          exact yieldsIf_of_quiet hp.1 hw h
        · rename_i hw
          exact ⟨undef, .inr ⟨by simpa using hw, rfl⟩, h⟩
      obtain ⟨v, hy, h2⟩ := hy
      exact wpAnyH_take (fuel := fuel + is.length) hi.1 hsel hB.1.2 hB.1.1 (fun c a w hq => hQ c _ _ _ w hq) hy hS (ih os _ _ hi.2 hB.2 hp.2 h2)
/-- the worlds that meet S, as a class whose members the walk's simp can name -/
structure Of (S : World → Prop) where
  w : World
  h : S w
def cls (S : World → Prop) : World → Prop := fun w' => ∃ u : Of S, w' = u.w
theorem cls_mk {S : World → Prop} {w : World} (h : S w) : cls S w := ⟨⟨w, h⟩, rfl⟩
theorem cls_iff {S : World → Prop} {w : World} : cls S w ↔ S w := ⟨fun ⟨u, h⟩ => h ▸ u.h, cls_mk⟩
/-- the beginning -/
theorem start {id : Nat} {a : Act} {w : World} (is : List Nat) (os : List Oper) (fuel : Nat) (hm : P.follows .mixedOrders = true) (hsel : Region.noSelect ops = true) (hl : fuel + is.length = ops.size)
    (hQ : ∀ c (a : Act) d v w, Q (.panic c) (a.put d v) w → Q (.panic c) a w) (hi : is.map (fun i => ops[i]?) = os.map some) (hB : takeB ops is (Array.replicate ops.size false) = true) (hp : os.all (fun o => reading o.op) = true)
    (S : World → Prop) (hS : S w.drew) (h : wpQuiet P ops (fun w' => ∃ u : Of S, w' = u.w) (fun a' => wpAnyH P .any ops Q (cls S) fuel (marksL is (Array.replicate ops.size false)) a' w.drew) os a) : (Code.region id ops true).wp P Q a w := by
  refine wp_region_held (S := cls S) hm ?_
  rw [← hl]
  have hz : (Array.replicate (fuel + is.length) false : Array Bool) = Array.replicate ops.size false := by rw [hl]
  rw [hz]
  exact takes hsel hQ fuel w.drew (cls_mk hS) is os _ a hi hB hp h
theorem range_take {l : List Oper} (n : Nat) (h : n ≤ l.length) : (List.range n).map (fun i => l.toArray[i]?) = (l.take n).map some := by
  apply List.ext_getElem?
  intro i
  by_cases hi : i < n
  · simp [hi, List.getElem?_take_of_lt hi, List.getElem?_eq_getElem (show i < l.length by omega)]
  · simp [hi]; omega
/-- the first n only read -/
theorem startN {id : Nat} {a : Act} {w : World} {l : List Oper} (n fuel : Nat) (hm : P.follows .mixedOrders = true) (hsel : Region.noSelect l.toArray = true) (hl : fuel + n = l.length)
    (hQ : ∀ c (a : Act) d v w, Q (.panic c) (a.put d v) w → Q (.panic c) a w) (hB : takeB l.toArray (List.range n) (Array.replicate l.toArray.size false) = true) (hp : (l.take n).all (fun o => reading o.op) = true)
    (S : World → Prop) (hS : S w.drew) (h : wpQuiet P l.toArray (fun w' => ∃ u : Of S, w' = u.w) (fun a' => wpAnyH P .any l.toArray Q (cls S) fuel (marksL (List.range n) (Array.replicate l.toArray.size false)) a' w.drew) (l.take n) a) : (Code.region id l.toArray true).wp P Q a w :=
  start (List.range n) (l.take n) fuel hm hsel (by simp; omega) hQ (range_take n (by omega)) hB hp S hS h
theorem filter_some {l : List Oper} : ∀ (is : List Nat), is.all (fun i => decide (i < l.length)) = true → is.map (fun i => l.toArray[i]?) = (is.filterMap fun i => l[i]?).map some
  | [], _ => rfl
  | i :: is, h => by
    simp only [List.all_cons, Bool.and_eq_true, decide_eq_true_eq] at h
    have := filter_some (l := l) is h.2
    rw [List.map_cons, this, List.filterMap_cons]
    have e : l[i]? = some l[i] := List.getElem?_eq_getElem h.1
    simp [e]
/-- those at the places is only read -/
theorem startL {id : Nat} {a : Act} {w : World} {l : List Oper} (is : List Nat) (fuel : Nat) (hm : P.follows .mixedOrders = true) (hsel : Region.noSelect l.toArray = true) (hl : fuel + is.length = l.length) (hi : is.all (fun i => decide (i < l.length)) = true)
    (hQ : ∀ c (a : Act) d v w, Q (.panic c) (a.put d v) w → Q (.panic c) a w) (hB : takeB l.toArray is (Array.replicate l.toArray.size false) = true) (hp : (is.filterMap fun i => l[i]?).all (fun o => reading o.op) = true)
    (S : World → Prop) (hS : S w.drew) (h : wpQuiet P l.toArray (fun w' => ∃ u : Of S, w' = u.w) (fun a' => wpAnyH P .any l.toArray Q (cls S) fuel (marksL is (Array.replicate l.toArray.size false)) a' w.drew) (is.filterMap fun i => l[i]?) a) : (Code.region id l.toArray true).wp P Q a w :=
  start is _ fuel hm hsel (by simp; omega) hQ (filter_some is hi) hB hp S hS h
/-- further on, those at the places is only read -/
theorem restL {a : Act} {w : World} {l : List Oper} {Q : Exit → Act → World → Prop} {S : World → Prop} {n : Nat} {L : Array Bool} (is : List Nat) (fuel : Nat) (hn : n = fuel + is.length) (hsel : Region.noSelect l.toArray = true) (hi : is.all (fun i => decide (i < l.length)) = true)
    (hQ : ∀ c (a : Act) d v w, Q (.panic c) (a.put d v) w → Q (.panic c) a w) (hB : takeB l.toArray is L = true) (hp : (is.filterMap fun i => l[i]?).all (fun o => reading o.op) = true)
    (hS : cls S w) (h : wpQuiet P l.toArray (fun w' => ∃ u : Of S, w' = u.w) (fun a' => wpAnyH P .any l.toArray Q (cls S) fuel (marksL is L) a' w) (is.filterMap fun i => l[i]?) a) : wpAnyH P .any l.toArray Q (cls S) n L a w := by
  subst hn
  exact takes hsel hQ fuel w hS is _ L a (filter_some is hi) hB hp h
/-- one operation, carried out -/
def next (S : World → Prop) (Q : Exit → Act → World → Prop) (K : Act → World → Prop) : Exit → Act → World → Prop
  | .normal, a, w => S w ∧ K a w
  | e, a, w => Q e a w
theorem op_of_list {i : Nat} {o : Oper} {K : Act → World → Prop} {a : Act} {w : World} (ho : ops[i]? = some o) (hg : o.guard = none) (h : wpList P ops (next S Q K) [o] a w) : wpOp P ops Q i (fun a' w' => S w' ∧ K a' w') a w := by
  unfold wpOp
  simp only [ho]
  have hw : Region.wanted o (yielded ops a.tmps) = true := by simp [Region.wanted, hg]
  rw [if_pos hw]
  unfold wpList at h
  rw [if_pos hw] at h
  refine h.imp (fun h => ?_) (fun h => ⟨h.1, h.2⟩)
  unfold Oper.wp at h ⊢
  generalize (execOp a.eval o).run P w = r at h ⊢
  cases r with
  | ok n w' =>
    cases n <;> simp only [Oper.upon] at h ⊢
    case enter f args => exact h.mono fun e w'' he => by cases e <;> exact he
    all_goals exact h
  | halt x w' => cases x <;> simp only [Oper.upon] at h ⊢; exact h
/-- the only one that may come up -/
theorem one {fuel : Nat} {L : Array Bool} {a : Act} {w : World} (i : Nat) (o : Oper) (hr : Region.ready .any ops L = [i]) (ho : ops[i]? = some o) (hg : o.guard = none)
    (h : wpList P ops (next S Q (wpAnyH P .any ops Q S fuel (L.setIfInBounds i true))) [o] a w) : wpAnyH P .any ops Q S (fuel + 1) L a w :=
  wpAnyH_all hr (by simp) fun j hj => by
    obtain rfl : j = i := by simpa using hj
    exact op_of_list ho hg h
/-- two that may come up -/
theorem two {fuel : Nat} {L : Array Bool} {a : Act} {w : World} (i j : Nat) (oi oj : Oper) (hr : Region.ready .any ops L = [i, j]) (hi : ops[i]? = some oi) (hgi : oi.guard = none) (hj : ops[j]? = some oj) (hgj : oj.guard = none)
    (h1 : wpList P ops (next S Q (wpAnyH P .any ops Q S fuel (L.setIfInBounds i true))) [oi] a w) (h2 : wpList P ops (next S Q (wpAnyH P .any ops Q S fuel (L.setIfInBounds j true))) [oj] a w) : wpAnyH P .any ops Q S (fuel + 1) L a w :=
  wpAnyH_all hr (by simp) fun k hk => by
    rcases List.mem_cons.1 hk with rfl | hk
    · exact op_of_list hi hgi h1
    · obtain rfl : k = j := by simpa using hk
      exact op_of_list hj hgj h2
end
end Reg
end Go.Proofs.YtlpcjiollnnmgabGreatDoor
