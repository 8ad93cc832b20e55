/-
  BLOCKS KNOWN WHOLE: 'Row w b l': block b holds the cells l, none frozen. Plain; nothing of the program.
-/
import Derived.Test.YtlpcjiollnnmgabGreatDoorRegion
import Derived.Test.YtlpcjiollnnmgabGreatDoorSha
namespace Go.Proofs.YtlpcjiollnnmgabGreatDoor
open Nums Go.RowKit
def Row (w : World) (b : Nat) (l : List Value) : Prop := ∃ T, w.heap[b]? = some (.cells l.toArray T)
namespace Row
variable {w : World} {b : Nat} {l : List Value}
theorem cell (h : Row w b l) (i : Nat) : w.cell? ⟨b, i, none⟩ = l[i]? := by
  obtain ⟨T, h⟩ := h; simp [World.cell?, h]
theorem free (h : Row w b l) (i : Nat) : w.frozen? ⟨b, i, none⟩ = false := by
  obtain ⟨T, h⟩ := h; simp [World.frozen?, h]
theorem set (h : Row w b l) (i : Nat) (v : Value) : Row (w.setCell ⟨b, i, none⟩ v) b (l.set i v) := by
  obtain ⟨T, h⟩ := h; exact ⟨T, by simp [World.setCell, Array.getElem?_modify, h]⟩
theorem other (h : Row w b l) {a : Addr} (ha : a.block ≠ b) (v : Value) : Row (w.setCell a v) b l := by
  obtain ⟨T, h⟩ := h; exact ⟨T, by rw [Below.heap_setCell _ _ _ _ (Ne.symm ha)]; exact h⟩
theorem drew (h : Row w b l) : Row w.drew b l := h
theorem drewN (h : Row w b l) (n : Nat) : Row (w.drewN n) b l := h
theorem lt (h : Row w b l) : b < w.heap.size := by
  obtain ⟨T, h⟩ := h; exact (Array.getElem?_eq_some_iff.1 h).1
theorem alloc (h : Row w b l) (o : Obj) : Row (w.alloc o) b l := by
  have hl := h.lt
  obtain ⟨T, h⟩ := h; exact ⟨T, by rw [Below.heap_alloc _ _ _ hl]; exact h⟩
theorem below {B : Nat} {w' : World} (h : Row w b l) (hb : Below B w w') (hB : b < B) : Row w' b l := by
  obtain ⟨T, h⟩ := h; exact ⟨T, by rw [hb.block b hB]; exact h⟩
theorem new (w : World) (l : List Value) (T : TypeId) : Row (w.alloc (.cells l.toArray T)) w.heap.size l :=
  ⟨T, by show (w.heap.push _)[w.heap.size]? = _; rw [Array.getElem?_push_size]⟩
end Row
/-- the words l -/
def w32 (l : List UInt32) : List Value := l.map fun x => .int .u32 (V x)
theorem w32_get (l : List UInt32) (i : Nat) (h : i < l.length) : (w32 l)[i]? = some (.int .u32 (V (Sha.nw l i))) := by
  unfold w32 Sha.nw; rw [List.getElem?_map, List.getD_eq_getElem?_getD, List.getElem?_eq_getElem h]; rfl
theorem w32_set (l : List UInt32) (i : Nat) (x : UInt32) : (w32 l).set i (.int .u32 (V x)) = w32 (l.set i x) := by
  unfold w32; rw [List.map_set]
theorem Row.word {w : World} {b : Nat} {l : List UInt32} (h : Row w b (w32 l)) (i : Nat) (hi : i < l.length) : w.cell? ⟨b, i, none⟩ = some (.int .u32 (V (Sha.nw l i))) := by
  rw [h.cell, w32_get l i hi]
/-- the bytes l -/
def w8 (l : List UInt8) : List Value := l.map fun x => .int .u8 (Y x)
theorem w8_get (l : List UInt8) (i : Nat) (h : i < l.length) : (w8 l)[i]? = some (.int .u8 (Y (nth l i))) := by
  unfold w8 nth; rw [List.getElem?_map, List.getD_eq_getElem?_getD, List.getElem?_eq_getElem h]; rfl
theorem w8_set (l : List UInt8) (i : Nat) (x : UInt8) : (w8 l).set i (.int .u8 (Y x)) = w8 (l.set i x) := by
  unfold w8; rw [List.map_set]
/-- a slice's bytes, somewhere in a block -/
def Bytes (w : World) (b o : Nat) (l : List UInt8) : Prop := ∀ j, j < l.length → w.cell? ⟨b, o + j, none⟩ = some (.int .u8 (Y (nth l j)))
/-- below B nothing has turned but block S -/
structure But (B S : Nat) (w w' : World) : Prop where
  os : w'.os = w.os
  tape : w'.tape = w.tape
  output : w'.output = w.output
  size : w.heap.size ≤ w'.heap.size
  block : ∀ k, k < B → k ≠ S → w'.heap[k]? = w.heap[k]?
namespace But
variable {B S : Nat} {w w' : World}
theorem refl (B S : Nat) (w : World) : But B S w w := ⟨rfl, rfl, rfl, Nat.le_refl _, fun _ _ _ => rfl⟩
theorem trans {w'' : World} (h : But B S w w') (k : But B S w' w'') : But B S w w'' :=
  ⟨k.os.trans h.os, k.tape.trans h.tape, k.output.trans h.output, Nat.le_trans h.size k.size, fun i hi hs => (k.block i hi hs).trans (h.block i hi hs)⟩
theorem of_below (h : Below B w w') : But B S w w' := ⟨h.os, h.tape, h.output, h.size, fun k hk _ => h.block k hk⟩
theorem alloc (h : But B S w w') (hB : B ≤ w'.heap.size) (o : Obj) : But B S w (w'.alloc o) := h.trans (of_below ((Below.refl _ _).alloc hB o))
theorem drew (h : But B S w w') : But B S w w'.drew := h.trans (of_below (Below.refl _ _).drew)
theorem drewN (h : But B S w w') (n : Nat) : But B S w (w'.drewN n) := h.trans (of_below (below_drewN (Below.refl _ _) n))
theorem setOwn (h : But B S w w') (i : Nat) (v : Value) : But B S w (w'.setCell ⟨S, i, none⟩ v) :=
  h.trans ⟨rfl, rfl, rfl, by simp [World.setCell], fun k _ hs => Below.heap_setCell _ _ _ _ hs⟩
theorem setNew (h : But B S w w') {a : Addr} (ha : B ≤ a.block) (v : Value) : But B S w (w'.setCell a v) := h.trans (of_below ((Below.refl _ _).setCell ha v))
theorem mono {B' : Nat} (h : But B S w w') (hB : B' ≤ B) : But B' S w w' := ⟨h.os, h.tape, h.output, h.size, fun k hk hs => h.block k (by omega) hs⟩
theorem row {b : Nat} {l : List Value} (h : But B S w w') (hr : Row w b l) (hb : b < B) (hs : b ≠ S) : Row w' b l := by
  obtain ⟨T, hr⟩ := hr; exact ⟨T, by rw [h.block b hb hs]; exact hr⟩
theorem bytes {b o : Nat} {l : List UInt8} (h : But B S w w') (hr : Bytes w b o l) (hb : b < B) (hs : b ≠ S) : Bytes w' b o l := fun j hj => by
  rw [← hr j hj]; exact World.cell?_of_block (w := w) (h.block b hb hs)
/-- a new block alone was written -/
theorem below (h : But B S w w') (hS : B ≤ S) : Below B w w' := ⟨h.os, h.tape, h.output, h.size, fun k hk => h.block k hk (by omega)⟩
end But
theorem Bytes.below {B b o : Nat} {l : List UInt8} {w w' : World} (hr : Bytes w b o l) (h : Below B w w') (hb : b < B) : Bytes w' b o l := fun j hj => by
  rw [← hr j hj]; exact World.cell?_of_block (w := w) (h.block b hb)
end Go.Proofs.YtlpcjiollnnmgabGreatDoor
