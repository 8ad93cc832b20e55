/-
  THE REFERENCE's READER OF BLOCKS AND REQUESTS, IN PLAIN LEAN. Nothing of the program.
-/
import Derived.Test.YtlpcjiollnnmgaaDoorWireRef
namespace Go.Proofs.YtlpcjiollnnmgaaDoor
open Nums
namespace Wr
def blkR' (k : Nat) (l : List UInt8) : R (List UInt8 × List (List UInt8)) := (take k l).bind fun h r => (upTo 1 16 r).bind fun n r => (txs n r).map fun ts => (h, ts)
def reqR' (l : List UInt8) : R (List UInt8 × List Nat) := (take 32 l).bind fun h r => (upTo 1 16 r).bind fun n r => (indexes 16 n 0 r).map fun is => (h, is)
end Wr
namespace Rf
open Wr (R)
def blk (k : Nat) (l : List UInt8) : (List UInt8 × List (List UInt8)) × St :=
  let p := take k (l, 0)
  let q := within 1 16 p.2
  let r := txs q.1 q.2
  ((p.1, r.1), r.2)
def req (l : List UInt8) : (List UInt8 × List Nat) × St :=
  let p := take 32 (l, 0)
  let q := within 1 16 p.2
  let r := indexes 16 q.1 0 q.2
  ((p.1, r.1), r.2)
theorem map_pair {α β : Type} {x : R α} {p : α × St} (h : Ag x id p) (g : α → β) : Ag (x.map g) id (g p.1, p.2) := by
  cases x with
  | ok a r => have h' : p = (a, (r, 0)) := h; rw [h']; rfl
  | bad e => exact h
theorem blk_ag (k : Nat) (l : List UInt8) : Ag (Wr.blkR' k l) id (blk k l) := by
  unfold Wr.blkR' blk
  refine (take_ag k l).bind (fun h r hx hp => ?_) (fun h => ?_)
  · rw [hp]
    dsimp only [id]
    refine (within_ag 1 16 r).bind (fun n r2 hx hp => ?_) (fun h => ?_)
    · rw [hp]
      exact map_pair (txs_ag n r2) _
    · dsimp only; rw [txs_bad _ _ h]
  · dsimp only; rw [within_bad _ _ _ h, txs_bad _ _ h]
theorem req_ag (l : List UInt8) : Ag (Wr.reqR' l) id (req l) := by
  unfold Wr.reqR' req
  refine (take_ag 32 l).bind (fun h r hx hp => ?_) (fun h => ?_)
  · rw [hp]
    dsimp only [id]
    refine (within_ag 1 16 r).bind (fun n r2 hx hp => ?_) (fun h => ?_)
    · rw [hp]
      exact map_pair (indexes_ag 16 n 0 r2) _
    · dsimp only; rw [indexes_bad _ _ _ _ h]
  · dsimp only; rw [within_bad _ _ _ h, indexes_bad _ _ _ _ h]
theorem readBlk_pos {l : List UInt8} {n : Nat} (h : Wr.readBlock l = .bad n) : n ≠ 0 := by
  have := fin_done (blk_ag 80 l)
  rw [show Wr.fin (Wr.blkR' 80 l) = .bad n from h] at this
  exact this.2
theorem readReq_pos {l : List UInt8} {n : Nat} (h : Wr.readRequest l = .bad n) : n ≠ 0 := by
  have := fin_done (req_ag l)
  rw [show Wr.fin (Wr.reqR' l) = .bad n from h] at this
  exact this.2
/-- what the reference's Block hands back -/
theorem blk_done (l : List UInt8) : match Wr.readBlock l with
    | .ok a _ => done (blk 80 l).2 = 0 ∧ (blk 80 l).1 = a
    | .bad e => done (blk 80 l).2 = e ∧ e ≠ 0 := by
  have h := fin_done (blk_ag 80 l)
  rw [show Wr.readBlock l = Wr.fin (Wr.blkR' 80 l) from rfl]
  cases hx : Wr.fin (Wr.blkR' 80 l) with
  | ok a r => rw [hx] at h; exact h
  | bad e => rw [hx] at h; exact h
theorem req_done (l : List UInt8) : match Wr.readRequest l with
    | .ok a _ => done (req l).2 = 0 ∧ (req l).1 = a
    | .bad e => done (req l).2 = e ∧ e ≠ 0 := by
  have h := fin_done (req_ag l)
  rw [show Wr.readRequest l = Wr.fin (Wr.reqR' l) from rfl]
  cases hx : Wr.fin (Wr.reqR' l) with
  | ok a r => rw [hx] at h; exact h
  | bad e => rw [hx] at h; exact h
end Rf
end Go.Proofs.YtlpcjiollnnmgaaDoor
