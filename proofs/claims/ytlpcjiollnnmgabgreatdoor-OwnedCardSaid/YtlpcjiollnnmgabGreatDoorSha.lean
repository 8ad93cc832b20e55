/-
  SHA-256 IN PLAIN LEAN, on UInt32. Nothing of the program.
-/
import Derived.Test.YtlpcjiollnnmgabGreatDoorNums
namespace Go.Proofs.YtlpcjiollnnmgabGreatDoor
open Nums
namespace Sha
structure H8 where
  (a b c d e f g h : UInt32)
def begin : H8 := ⟨1779033703, 3144134277, 1013904242, 2773480762, 1359893119, 2600822924, 528734635, 1541459225⟩
def rounds : List UInt32 := [1116352408, 1899447441, 3049323471, 3921009573, 961987163, 1508970993, 2453635748, 2870763221, 3624381080, 310598401, 607225278, 1426881987, 1925078388, 2162078206, 2614888103, 3248222580, 3835390401, 4022224774, 264347078, 604807628, 770255983, 1249150122, 1555081692, 1996064986, 2554220882, 2821834349, 2952996808, 3210313671, 3336571891, 3584528711, 113926993, 338241895, 666307205, 773529912, 1294757372, 1396182291, 1695183700, 1986661051, 2177026350, 2456956037, 2730485921, 2820302411, 3259730800, 3345764771, 3516065817, 3600352804, 4094571909, 275423344, 430227734, 506948616, 659060556, 883997877, 958139571, 1322822218, 1537002063, 1747873779, 1955562222, 2024104815, 2227730452, 2361852424, 2428436474, 2756734187, 3204031479, 3329325298]
def nw (l : List UInt32) (i : Nat) : UInt32 := l.getD i 0
def s0 (x : UInt32) : UInt32 := rotr32 x 7 ^^^ rotr32 x 18 ^^^ shr32 x 3
def s1 (x : UInt32) : UInt32 := rotr32 x 17 ^^^ rotr32 x 19 ^^^ shr32 x 10
def S0 (x : UInt32) : UInt32 := rotr32 x 2 ^^^ rotr32 x 13 ^^^ rotr32 x 22
def S1 (x : UInt32) : UInt32 := rotr32 x 6 ^^^ rotr32 x 11 ^^^ rotr32 x 25
def ch (e f g : UInt32) : UInt32 := e &&& f ^^^ ~~~e &&& g
def maj (a b c : UInt32) : UInt32 := a &&& b ^^^ a &&& c ^^^ b &&& c
/-- four bytes, the highest first -/
def word4 (b : List UInt8) (i : Nat) : UInt32 :=
  shl32 (nth b (4 * i)).toUInt32 24 ||| shl32 (nth b (4 * i + 1)).toUInt32 16 ||| shl32 (nth b (4 * i + 2)).toUInt32 8 ||| (nth b (4 * i + 3)).toUInt32
def first (b : List UInt8) : Nat → List UInt32
  | 0 => []
  | n + 1 => first b n ++ [word4 b n]
/-- one word more -/
def next (w : List UInt32) : UInt32 := nw w (w.length - 16) + s0 (nw w (w.length - 15)) + nw w (w.length - 7) + s1 (nw w (w.length - 2))
def sched (b : List UInt8) : Nat → List UInt32
  | 0 => first b 16
  | n + 1 => sched b n ++ [next (sched b n)]
theorem first_length (b : List UInt8) (n : Nat) : (first b n).length = n := by
  induction n with
  | zero => rfl
  | succ n ih => simp [first, ih]
theorem sched_length (b : List UInt8) (n : Nat) : (sched b n).length = 16 + n := by
  induction n with
  | zero => exact first_length b 16
  | succ n ih => simp [sched, ih]; omega
def rnd (s : H8) (k w : UInt32) : H8 :=
  let t := s.h + S1 s.e + ch s.e s.f s.g + k + w
  let u := S0 s.a + maj s.a s.b s.c
  ⟨t + u, s.a, s.b, s.c, s.d + t, s.e, s.f, s.g⟩
def rnds (ws : List UInt32) (s : H8) : Nat → H8
  | 0 => s
  | n + 1 => rnd (rnds ws s n) (nw rounds n) (nw ws n)
def plus (s t : H8) : H8 := ⟨s.a + t.a, s.b + t.b, s.c + t.c, s.d + t.d, s.e + t.e, s.f + t.f, s.g + t.g, s.h + t.h⟩
def block (s : H8) (b : List UInt8) : H8 := plus s (rnds (sched b 48) s 64)
/-- n blocks of 64 bytes -/
def blocks : Nat → H8 → List UInt8 → H8
  | 0, s, _ => s
  | n + 1, s, l => block (blocks n s l) ((l.drop (64 * n)).take 64)
def be4 (x : UInt32) : List UInt8 := [(shr32 x 24).toUInt8, (shr32 x 16).toUInt8, (shr32 x 8).toUInt8, x.toUInt8]
def out (s : H8) : List UInt8 := be4 s.a ++ be4 s.b ++ be4 s.c ++ be4 s.d ++ be4 s.e ++ be4 s.f ++ be4 s.g ++ be4 s.h
def be8 (x : UInt64) : List UInt8 := [(shr x 56).toUInt8, (shr x 48).toUInt8, (shr x 40).toUInt8, (shr x 32).toUInt8, (shr x 24).toUInt8, (shr x 16).toUInt8, (shr x 8).toUInt8, (shr x 0).toUInt8]
/-- how many zeros behind the mark -/
def zeros (n : Nat) : Nat := (119 - n % 64) % 64
def pad (l : List UInt8) : List UInt8 := l ++ [128] ++ List.replicate (zeros l.length) 0 ++ be8 (UInt64.ofNat (8 * l.length))
def sum (l : List UInt8) : List UInt8 := out (blocks ((pad l).length / 64) begin (pad l))
theorem out_length (s : H8) : (out s).length = 32 := rfl
theorem pad_length (l : List UInt8) : (pad l).length % 64 = 0 := by
  simp [pad, be8, zeros]; omega
theorem blocks_append (n : Nat) (s : H8) (l m : List UInt8) (h : 64 * n ≤ l.length) : blocks n s (l ++ m) = blocks n s l := by
  induction n with
  | zero => rfl
  | succ n ih =>
    rw [blocks, blocks, ih (by omega), List.drop_append_of_le_length (by omega), List.take_append_of_le_length (by rw [List.length_drop]; omega)]
theorem nw_append (l m : List UInt32) (j : Nat) (h : j < l.length) : nw (l ++ m) j = nw l j := by
  unfold nw; rw [List.getD_eq_getElem?_getD, List.getD_eq_getElem?_getD, List.getElem?_append_left h]
theorem nw_drop (l : List UInt32) (i : Nat) (h : i < l.length) : l.drop i = nw l i :: l.drop (i + 1) := by
  rw [List.drop_eq_getElem_cons h]; unfold nw; rw [List.getD_eq_getElem?_getD, List.getElem?_eq_getElem h]; rfl
theorem nw_take (l : List UInt32) (i : Nat) (h : i < l.length) : l.take (i + 1) = l.take i ++ [nw l i] := by
  rw [List.take_succ_eq_append_getElem h]; unfold nw; rw [List.getD_eq_getElem?_getD, List.getElem?_eq_getElem h]; rfl
theorem mix_get (p s : List UInt32) (i : Nat) (hp : i < p.length) : nw (p.take i ++ s.drop i) i = nw s i := by
  have e : (p.take i).length = i := by rw [List.length_take]; omega
  unfold nw
  rw [List.getD_eq_getElem?_getD, List.getElem?_append_right (by omega), e, Nat.sub_self, List.getElem?_drop, List.getD_eq_getElem?_getD]; rfl
theorem mix_set (p s : List UInt32) (i : Nat) (hp : i < p.length) (hs : i < s.length) : (p.take i ++ s.drop i).set i (nw p i) = p.take (i + 1) ++ s.drop (i + 1) := by
  have e : (p.take i).length = i := by rw [List.length_take]; omega
  rw [List.set_append_right _ _ (by omega), e, Nat.sub_self, nw_drop s i hs, List.set_cons_zero, nw_take p i hp, List.append_assoc]; rfl
theorem set_fill {l : List UInt32} {i n m : Nat} {x : UInt32} (h : l.length = i) (hn : n = m + 1) : (l ++ List.replicate n 0).set i x = (l ++ [x]) ++ List.replicate m 0 := by
  subst h hn
  rw [List.set_append_right _ _ (Nat.le_refl _), Nat.sub_self, List.replicate_succ, List.set_cons_zero, List.append_assoc]; rfl
theorem ch_or (e f g : UInt32) : e &&& f ||| ~~~e &&& g = ch e f g := by
  unfold ch
  apply UInt32.eq_of_toBitVec_eq
  simp only [UInt32.toBitVec_or, UInt32.toBitVec_and, UInt32.toBitVec_xor, UInt32.toBitVec_not]
  apply BitVec.eq_of_getLsbD_eq
  intro i hi
  simp only [BitVec.getLsbD_or, BitVec.getLsbD_and, BitVec.getLsbD_xor, BitVec.getLsbD_not, hi, decide_true, Bool.true_and]
  cases e.toBitVec.getLsbD i <;> cases f.toBitVec.getLsbD i <;> cases g.toBitVec.getLsbD i <;> rfl
theorem maj_or (a b c : UInt32) : a &&& b ||| a &&& c ||| b &&& c = maj a b c := by
  unfold maj
  apply UInt32.eq_of_toBitVec_eq
  simp only [UInt32.toBitVec_or, UInt32.toBitVec_and, UInt32.toBitVec_xor]
  apply BitVec.eq_of_getLsbD_eq
  intro i hi
  simp only [BitVec.getLsbD_or, BitVec.getLsbD_and, BitVec.getLsbD_xor]
  cases a.toBitVec.getLsbD i <;> cases b.toBitVec.getLsbD i <;> cases c.toBitVec.getLsbD i <;> rfl
end Sha
end Go.Proofs.YtlpcjiollnnmgabGreatDoor
