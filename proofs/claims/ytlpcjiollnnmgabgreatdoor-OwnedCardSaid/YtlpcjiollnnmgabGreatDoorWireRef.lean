/-
  THE REFERENCE's READER IN PLAIN LEAN (what is left; what was wrong first), and that it ends as the program's reader does. Nothing of the program.
-/
import Derived.Test.YtlpcjiollnnmgabGreatDoorWire
namespace Go.Proofs.YtlpcjiollnnmgabGreatDoor
open Nums
namespace Rf
open Wr
/-- what is left; what was wrong first (0: nothing) -/
abbrev St := List UInt8 × Nat
def wrong (e : Nat) (st : St) : St := if st.2 = 0 then (st.1, e) else st
def take (n : Nat) (st : St) : List UInt8 × St := if st.2 ≠ 0 then ([], st) else if st.1.length < n then ([], (st.1, 1)) else (st.1.take n, (st.1.drop n, 0))
def sizeMore (b : UInt8) (st : St) : Nat × St :=
  let p := take (more b) st
  (Sip.leN p.1, if p.2.2 = 0 ∧ sizeB (Sip.leN p.1) ≠ b :: p.1 then wrong 2 p.2 else p.2)
def size (st : St) : Nat × St :=
  let p := take 1 st
  if p.2.2 ≠ 0 then (0, p.2) else if nth p.1 0 < 253 then ((nth p.1 0).toNat, p.2) else sizeMore (nth p.1 0) p.2
def bound (lo hi : Nat) (p : Nat × St) : St := if p.2.2 = 0 ∧ (p.1 < lo ∨ hi < p.1) then wrong 3 p.2 else p.2
def within (lo hi : Nat) (st : St) : Nat × St :=
  let q := bound lo hi (size st)
  if q.2 ≠ 0 then (0, q) else ((size st).1, q)
def done (st : St) : Nat := if st.2 = 0 ∧ st.1 ≠ [] then 5 else st.2
def script (st : St) : St := (take (within 0 40 st).1 (within 0 40 st).2).2
def inp (st : St) : St := (take 4 (script (take 36 st).2)).2
def outp (st : St) : St := script (take 8 st).2
def rep (f : St → St) : Nat → St → St
  | 0, st => st
  | n + 1, st => rep f n (f st)
def ins (st : St) : St := rep inp (within 1 4 st).1 (within 1 4 st).2
def outs (st : St) : St := rep outp (within 1 4 st).1 (within 1 4 st).2
def body (st : St) : St := (take 4 (outs (ins (take 4 st).2))).2
def tx (st : St) : List UInt8 × St := (st.1.take (st.1.length - (body st).1.length), body st)
def txs : Nat → St → List (List UInt8) × St
  | 0, st => ([], st)
  | n + 1, st => if st.2 ≠ 0 then ([], st) else ((tx st).1 :: (txs n (tx st).2).1, (txs n (tx st).2).2)
def index (next bound : Nat) (st : St) : Nat × St :=
  let p := size st
  let q := if p.2.2 = 0 ∧ (bound ≤ p.1 ∨ bound ≤ next + p.1) then wrong 4 p.2 else p.2
  if q.2 ≠ 0 then (0, q) else (next + p.1, q)
def indexes (bound : Nat) : Nat → Nat → St → List Nat × St
  | 0, _, st => ([], st)
  | n + 1, next, st => if st.2 ≠ 0 then ([], st) else
    let p := index next bound st
    let q := indexes bound n (p.1 + 1) p.2
    (p.1 :: q.1, q.2)
def pairs (bound : Nat) : Nat → Nat → St → List (Nat × List UInt8) × St
  | 0, _, st => ([], st)
  | n + 1, next, st => if st.2 ≠ 0 then ([], st) else
    let p := index next bound st
    let t := tx p.2
    let q := pairs bound n (p.1 + 1) t.2
    ((p.1, t.1) :: q.1, q.2)
def takes (k : Nat) : Nat → St → List (List UInt8) × St
  | 0, st => ([], st)
  | n + 1, st => if st.2 ≠ 0 then ([], st) else
    let p := take k st
    let q := takes k n p.2
    (p.1 :: q.1, q.2)

/-! ### it leaves what was wrong -/
theorem take_bad (n : Nat) (st : St) (h : st.2 ≠ 0) : take n st = ([], st) := by unfold take; rw [if_pos h]
theorem size_bad (st : St) (h : st.2 ≠ 0) : size st = (0, st) := by
  unfold size; simp only [take_bad 1 st h]; rw [if_pos h]
theorem within_bad (lo hi : Nat) (st : St) (h : st.2 ≠ 0) : within lo hi st = (0, st) := by
  unfold within bound; simp only [size_bad st h]; rw [if_neg (by omega : ¬ (st.2 = 0 ∧ _)), if_pos h]
theorem script_bad (st : St) (h : st.2 ≠ 0) : script st = st := by
  unfold script; rw [within_bad _ _ st h, take_bad _ _ h]
theorem inp_bad (st : St) (h : st.2 ≠ 0) : inp st = st := by
  unfold inp; rw [take_bad _ st h, script_bad st h, take_bad _ st h]
theorem outp_bad (st : St) (h : st.2 ≠ 0) : outp st = st := by
  unfold outp; rw [take_bad _ st h, script_bad st h]
theorem ins_bad (st : St) (h : st.2 ≠ 0) : ins st = st := by
  unfold ins; rw [within_bad _ _ st h]; rfl
theorem outs_bad (st : St) (h : st.2 ≠ 0) : outs st = st := by
  unfold outs; rw [within_bad _ _ st h]; rfl
theorem rep_bad (f : St → St) (hf : ∀ st : St, st.2 ≠ 0 → f st = st) : ∀ (n : Nat) (st : St), st.2 ≠ 0 → rep f n st = st
  | 0, _, _ => rfl
  | n + 1, st, h => by rw [rep, hf st h, rep_bad f hf n st h]
theorem body_bad (st : St) (h : st.2 ≠ 0) : body st = st := by
  unfold body; rw [take_bad _ st h, ins_bad st h, outs_bad st h, take_bad _ st h]
theorem tx_bad (st : St) (h : st.2 ≠ 0) : (tx st).2 = st := by unfold tx; rw [body_bad st h]
theorem txs_bad (n : Nat) (st : St) (h : st.2 ≠ 0) : txs n st = ([], st) := by
  cases n with
  | zero => rfl
  | succ n => rw [txs, if_pos h]
theorem index_bad (next b : Nat) (st : St) (h : st.2 ≠ 0) : index next b st = (0, st) := by
  unfold index; simp only [size_bad st h]; rw [if_neg (by omega : ¬ (st.2 = 0 ∧ _)), if_pos h]
theorem indexes_bad (b n next : Nat) (st : St) (h : st.2 ≠ 0) : indexes b n next st = ([], st) := by
  cases n with
  | zero => rfl
  | succ n => rw [indexes, if_pos h]
theorem pairs_bad (b n next : Nat) (st : St) (h : st.2 ≠ 0) : pairs b n next st = ([], st) := by
  cases n with
  | zero => rfl
  | succ n => rw [pairs, if_pos h]
theorem takes_bad (k n : Nat) (st : St) (h : st.2 ≠ 0) : takes k n st = ([], st) := by
  cases n with
  | zero => rfl
  | succ n => rw [takes, if_pos h]

/-! ### it ends as the program's -/
/-- a reader's end, told by the program's -/
def Ag {α β : Type} (x : R α) (f : α → β) (p : β × St) : Prop := match x with
  | .ok a r => p = (f a, (r, 0))
  | .bad e => p.2.2 = e ∧ e ≠ 0
/-- the same, of the state alone -/
def As {α : Type} (x : R α) (st : St) : Prop := match x with
  | .ok _ r => st = (r, 0)
  | .bad e => st.2 = e ∧ e ≠ 0
theorem Ag.as {α β : Type} {x : R α} {f : α → β} {p : β × St} (h : Ag x f p) : As x p.2 := by
  cases x with
  | ok a r => have : p = _ := h; rw [this]; rfl
  | bad e => exact h
theorem As.void {α : Type} {x : R α} {st : St} (h : As x st) : As x.void st := by cases x <;> exact h
theorem Ag.bind {α β γ δ : Type} {x : R α} {f : α → β} {p : β × St} {k : α → List UInt8 → R γ} {g : γ → δ} {q : δ × St} (h : Ag x f p)
    (hok : ∀ a r, x = .ok a r → p = (f a, (r, 0)) → Ag (k a r) g q) (hbad : p.2.2 ≠ 0 → q.2.2 = p.2.2) : Ag (x.bind k) g q := by
  cases x with
  | ok a r => exact hok a r rfl h
  | bad e => have h' : p.2.2 = e ∧ e ≠ 0 := h; exact ⟨by rw [hbad (by rw [h'.1]; exact h'.2), h'.1], h'.2⟩
theorem Ag.bindS {α β γ : Type} {x : R α} {f : α → β} {p : β × St} {k : α → List UInt8 → R γ} {st : St} (h : Ag x f p)
    (hok : ∀ a r, x = .ok a r → p = (f a, (r, 0)) → As (k a r) st) (hbad : p.2.2 ≠ 0 → st.2 = p.2.2) : As (x.bind k) st := by
  cases x with
  | ok a r => exact hok a r rfl h
  | bad e => have h' : p.2.2 = e ∧ e ≠ 0 := h; exact ⟨by rw [hbad (by rw [h'.1]; exact h'.2), h'.1], h'.2⟩
theorem As.bind {α γ δ : Type} {x : R α} {st : St} {k : α → List UInt8 → R γ} {g : γ → δ} {q : δ × St} (h : As x st)
    (hok : ∀ a r, x = .ok a r → st = (r, 0) → Ag (k a r) g q) (hbad : st.2 ≠ 0 → q.2.2 = st.2) : Ag (x.bind k) g q := by
  cases x with
  | ok a r => exact hok a r rfl h
  | bad e => have h' : st.2 = e ∧ e ≠ 0 := h; exact ⟨by rw [hbad (by rw [h'.1]; exact h'.2), h'.1], h'.2⟩
theorem As.bindS {α γ : Type} {x : R α} {st st' : St} {k : α → List UInt8 → R γ} (h : As x st)
    (hok : ∀ a r, x = .ok a r → st = (r, 0) → As (k a r) st') (hbad : st.2 ≠ 0 → st'.2 = st.2) : As (x.bind k) st' := by
  cases x with
  | ok a r => exact hok a r rfl h
  | bad e => have h' : st.2 = e ∧ e ≠ 0 := h; exact ⟨by rw [hbad (by rw [h'.1]; exact h'.2), h'.1], h'.2⟩
theorem take_ag (n : Nat) (l : List UInt8) : Ag (Wr.take n l) id (take n (l, 0)) := by
  unfold Wr.take take
  by_cases h : l.length < n
  · simp [h, Ag]
  · simp [h, Ag]
theorem take_len {n : Nat} {l a r : List UInt8} (h : Wr.take n l = .ok a r) : a.length = n := by
  unfold Wr.take at h
  split at h
  · cases h
  · cases h; rw [List.length_take]; omega
theorem sizeMore_ag (b : UInt8) (hb : ¬ b < 253) (l : List UInt8) : Ag (Wr.rest b l) id (sizeMore b (l, 0)) := by
  unfold Wr.rest sizeMore
  refine (take_ag (more b) l).bind (fun u r hu hp => ?_) (fun h => ?_)
  · rw [hp]
    have hl := take_len hu
    have he := sizeB_eq b u hb hl
    dsimp only [id]
    by_cases h : Sip.leN u < least b
    · rw [if_pos h, if_pos ⟨rfl, fun e => by have := he.1 e; omega⟩]
      exact ⟨rfl, by decide⟩
    · rw [if_neg h, if_neg (fun hh => hh.2 (he.2 (by omega)))]
      rfl
  · dsimp only; rw [if_neg (fun hh => h hh.1)]
theorem size_ag (l : List UInt8) : Ag (Wr.size l) id (size (l, 0)) := by
  unfold Wr.size size
  refine (take_ag 1 l).bind (fun t r ht hp => ?_) (fun h => ?_)
  · rw [hp]; dsimp only [id]
    have e0 : ¬ ((0 : Nat) ≠ 0) := by simp
    rw [if_neg e0]
    by_cases h : nth t 0 < 253
    · rw [if_pos h, if_pos h]; rfl
    · rw [if_neg h, if_neg h]; exact sizeMore_ag _ h r
  · dsimp only; rw [if_pos h]
theorem within_ag (lo hi : Nat) (l : List UInt8) : Ag (Wr.upTo lo hi l) id (within lo hi (l, 0)) := by
  unfold Wr.upTo within bound
  refine (size_ag l).bind (fun x r hx hp => ?_) (fun h => ?_)
  · rw [hp]; dsimp only [id]
    by_cases h : x < lo ∨ hi < x
    · simp [h, wrong, Ag]
    · simp [h, Ag]
  · simp [h]
theorem script_as (l : List UInt8) : As (Wr.script l) (script (l, 0)) := by
  unfold Wr.script script
  refine (within_ag 0 40 l).bindS (fun n r hx hp => ?_) (fun h => ?_)
  · rw [hp]; exact (take_ag n r).as.void
  · rw [take_bad _ _ h]
theorem inp_as (l : List UInt8) : As (Wr.inp l) (inp (l, 0)) := by
  unfold Wr.inp inp
  refine (take_ag 36 l).bindS (fun a r hx hp => ?_) (fun h => ?_)
  · rw [hp]
    refine (script_as r).bindS (fun a r hx hp => ?_) (fun h => ?_)
    · rw [hp]; exact (take_ag 4 r).as.void
    · rw [take_bad _ _ h]
  · rw [script_bad _ h, take_bad _ _ h]
theorem outp_as (l : List UInt8) : As (Wr.outp l) (outp (l, 0)) := by
  unfold Wr.outp outp
  refine (take_ag 8 l).bindS (fun a r hx hp => ?_) (fun h => ?_)
  · rw [hp]; exact script_as r
  · rw [script_bad _ h]
theorem rep_as {p : List UInt8 → R Unit} {f : St → St} (hp : ∀ l, As (p l) (f (l, 0))) (hf : ∀ st : St, st.2 ≠ 0 → f st = st) : ∀ (n : Nat) (l : List UInt8), As (Wr.rep p n l) (rep f n (l, 0))
  | 0, _ => rfl
  | n + 1, l => by
    rw [Wr.rep, rep]
    refine (hp l).bindS (fun a r hx hs => ?_) (fun h => ?_)
    · rw [hs]; exact rep_as hp hf n r
    · rw [rep_bad f hf n _ h]
theorem body_as (l : List UInt8) : As (Wr.body l) (body (l, 0)) := by
  unfold Wr.body body
  refine (take_ag 4 l).bindS (fun a r hx hp => ?_) (fun h => ?_)
  · rw [hp]
    have h1 : ∀ r, As ((Wr.upTo 1 4 r).bind fun n r => Wr.rep Wr.inp n r) (ins (r, 0)) := fun r => by
      refine (within_ag 1 4 r).bindS (fun n r' hx hp => ?_) (fun h => ?_)
      · unfold ins; rw [hp]; exact rep_as inp_as inp_bad n r'
      · unfold ins; rw [rep_bad inp inp_bad _ _ h]
    have h2 : ∀ r, As ((Wr.upTo 1 4 r).bind fun n r => Wr.rep Wr.outp n r) (outs (r, 0)) := fun r => by
      refine (within_ag 1 4 r).bindS (fun n r' hx hp => ?_) (fun h => ?_)
      · unfold outs; rw [hp]; exact rep_as outp_as outp_bad n r'
      · unfold outs; rw [rep_bad outp outp_bad _ _ h]
    have h3 := h1 r
    have e : ((Wr.upTo 1 4 r).bind fun n r => (Wr.rep Wr.inp n r).bind fun _ r => (Wr.upTo 1 4 r).bind fun n r => (Wr.rep Wr.outp n r).bind fun _ r => (Wr.take 4 r).void) =
        ((Wr.upTo 1 4 r).bind fun n r => Wr.rep Wr.inp n r).bind fun _ r => ((Wr.upTo 1 4 r).bind fun n r => Wr.rep Wr.outp n r).bind fun _ r => (Wr.take 4 r).void := by
      rw [R.bind_bind]; congr 1; funext n r; congr 1; funext _ r; rw [R.bind_bind]
    rw [e]
    refine h3.bindS (fun _ r' hx hp => ?_) (fun h => ?_)
    · dsimp only [id]; rw [hp]
      refine (h2 r').bindS (fun _ r'' hx hp => ?_) (fun h => ?_)
      · rw [hp]; exact (take_ag 4 r'').as.void
      · rw [take_bad _ _ h]
    · dsimp only [id]; rw [outs_bad _ h, take_bad _ _ h]
  · rw [ins_bad _ h, outs_bad _ h, take_bad _ _ h]
theorem tx_ag (l : List UInt8) : Ag (Wr.tx l) id (tx (l, 0)) := by
  unfold Wr.tx tx
  refine (body_as l).bind (fun a r hx hp => ?_) (fun h => rfl)
  rw [hp]; rfl
theorem map_ag {α β γ : Type} {x : R α} {f : α → γ} {p : γ × St} {g : α → β} {h : β → γ} (hp : Ag x f p) (e : ∀ a, h (g a) = f a) : Ag (x.map g) h p := by
  cases x with
  | ok a r => have : p = _ := hp; rw [this]; show _ = _; rw [e]
  | bad e => exact hp
theorem txs_ag : ∀ (n : Nat) (l : List UInt8), Ag (Wr.txs n l) id (txs n (l, 0))
  | 0, _ => rfl
  | n + 1, l => by
    rw [Wr.txs, txs, if_neg (show ¬ ((l, 0) : St).2 ≠ 0 by simp)]
    refine (tx_ag l).bind (fun t r hx hp => ?_) (fun h => ?_)
    · rw [hp]
      have ih := txs_ag n r
      dsimp only [id]
      generalize Wr.txs n r = x at ih
      cases x with
      | ok a r' => have : txs n (r, 0) = _ := ih; rw [this]; rfl
      | bad e => exact ih
    · rw [txs_bad _ _ h]
theorem index_ag (next b : Nat) (l : List UInt8) : Ag (Wr.index next b l) id (index next b (l, 0)) := by
  unfold Wr.index index
  refine (size_ag l).bind (fun x r hx hp => ?_) (fun h => ?_)
  · rw [hp]; dsimp only [id]
    by_cases h : b ≤ x ∨ b ≤ next + x
    · simp [h, wrong, Ag]
    · simp [h, Ag]
  · simp [h]
theorem indexes_ag (b : Nat) : ∀ (n next : Nat) (l : List UInt8), Ag (Wr.indexes b n next l) id (indexes b n next (l, 0))
  | 0, _, _ => rfl
  | n + 1, next, l => by
    rw [Wr.indexes, indexes, if_neg (show ¬ ((l, 0) : St).2 ≠ 0 by simp)]
    refine (index_ag next b l).bind (fun i r hx hp => ?_) (fun h => ?_)
    · rw [hp]
      have ih := indexes_ag b n (i + 1) r
      dsimp only [id]
      generalize Wr.indexes b n (i + 1) r = x at ih
      cases x with
      | ok a r' => have : indexes b n (i + 1) (r, 0) = _ := ih; rw [this]; rfl
      | bad e => exact ih
    · dsimp only; rw [indexes_bad _ _ _ _ h]
theorem pairs_ag (b : Nat) : ∀ (n next : Nat) (l : List UInt8), Ag (Wr.pairs b n next l) id (pairs b n next (l, 0))
  | 0, _, _ => rfl
  | n + 1, next, l => by
    rw [Wr.pairs, pairs, if_neg (show ¬ ((l, 0) : St).2 ≠ 0 by simp)]
    refine (index_ag next b l).bind (fun i r hx hp => ?_) (fun h => ?_)
    · rw [hp]
      dsimp only [id]
      refine (tx_ag r).bind (fun t r2 hx hp => ?_) (fun h => ?_)
      · rw [hp]
        have ih := pairs_ag b n (i + 1) r2
        dsimp only [id]
        generalize Wr.pairs b n (i + 1) r2 = x at ih
        cases x with
        | ok a r' => have : pairs b n (i + 1) (r2, 0) = _ := ih; rw [this]; rfl
        | bad e => exact ih
      · rw [pairs_bad _ _ _ _ h]
    · dsimp only; rw [tx_bad _ h, pairs_bad _ _ _ _ h]
theorem takes_ag (k : Nat) : ∀ (n : Nat) (l : List UInt8), Ag (Wr.takes k n l) id (takes k n (l, 0))
  | 0, _ => rfl
  | n + 1, l => by
    rw [Wr.takes, takes, if_neg (show ¬ ((l, 0) : St).2 ≠ 0 by simp)]
    refine (take_ag k l).bind (fun i r hx hp => ?_) (fun h => ?_)
    · rw [hp]
      have ih := takes_ag k n r
      dsimp only [id]
      generalize Wr.takes k n r = x at ih
      cases x with
      | ok a r' => have : takes k n (r, 0) = _ := ih; rw [this]; rfl
      | bad e => exact ih
    · dsimp only; rw [takes_bad _ _ _ h]
/-- all of the bytes -/
theorem fin_done {α β : Type} {x : R α} {f : α → β} {p : β × St} (h : Ag x f p) : match fin x with
    | .ok a _ => done p.2 = 0 ∧ p.1 = f a
    | .bad e => done p.2 = e ∧ e ≠ 0 := by
  cases x with
  | ok a r =>
    have h' : p = _ := h
    rw [h']
    unfold fin done
    dsimp only [R.bind]
    by_cases hr : r = []
    · rw [if_pos hr]; dsimp only; exact ⟨by rw [if_neg (fun hh => hh.2 hr)], rfl⟩
    · rw [if_neg hr]; dsimp only; exact ⟨by rw [if_pos ⟨rfl, hr⟩], by decide⟩
  | bad e =>
    have h' : p.2.2 = e ∧ e ≠ 0 := h
    unfold fin done
    dsimp only [R.bind]
    exact ⟨by rw [if_neg (fun hh => h'.2 (by rw [← h'.1]; exact hh.1)), h'.1], h'.2⟩
end Rf
end Go.Proofs.YtlpcjiollnnmgabGreatDoor
