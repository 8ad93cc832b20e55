/-
  SHA-256: THE REFERENCE's SUMS OF WORDS AND THE PROGRAM's. Plain Lean; nothing of the program.
-/
import Derived.Test.YtlpcjiollnnmgabGreatDoorSha
namespace Go.Proofs.YtlpcjiollnnmgabGreatDoor
open Nums
namespace Sha
/-- the first i words of the schedule -/
def ws (b : List UInt8) (i : Nat) : List UInt32 := if i ≤ 16 then first b i else sched b (i - 16)
theorem ws_length (b : List UInt8) (i : Nat) : (ws b i).length = i := by
  unfold ws; split
  · exact first_length b i
  · rw [sched_length]; omega
theorem ws_first (b : List UInt8) (i : Nat) (h : i < 16) : ws b (i + 1) = ws b i ++ [word4 b i] := by
  unfold ws; rw [if_pos (by omega), if_pos (by omega)]; rfl
theorem ws_next (b : List UInt8) (i : Nat) (h : 16 ≤ i) : ws b (i + 1) = ws b i ++ [next (ws b i)] := by
  unfold ws
  rw [if_neg (by omega)]
  by_cases h2 : i = 16
  · subst h2; rfl
  · rw [if_neg (by omega), show i + 1 - 16 = (i - 16) + 1 by omega]; rfl
theorem ws_all (b : List UInt8) : ws b 64 = sched b 48 := rfl
theorem next_at (b : List UInt8) (i : Nat) : next (ws b i) = nw (ws b i) (i - 16) + s0 (nw (ws b i) (i - 15)) + nw (ws b i) (i - 7) + s1 (nw (ws b i) (i - 2)) := by
  unfold next; rw [ws_length]
theorem sum_next (a b c d : UInt32) : sum32 ([a, b] ++ [c] ++ [d]) = a + b + c + d := by
  simp [sum32, UInt32.add_assoc]
/-- the reference's round -/
def rv (s : H8) (k w : UInt32) : List UInt32 :=
  let x := [s.h, S1 s.e] ++ [ch s.e s.f s.g] ++ [k] ++ [w]
  [sum32 (x ++ [S0 s.a] ++ [maj s.a s.b s.c]), s.a, s.b, s.c, sum32 (s.d :: x), s.e, s.f, s.g]
def l8 (s : H8) : List UInt32 := [s.a, s.b, s.c, s.d, s.e, s.f, s.g, s.h]
theorem rv_eq (s : H8) (k w : UInt32) : rv s k w = l8 (rnd s k w) := by
  unfold rv rnd l8
  simp [sum32, UInt32.add_assoc]
/-- four bytes of the text, summed as the reference does -/
theorem shl_toNat (x : UInt8) (n : Nat) (h : n ≤ 24) : (shl32 x.toUInt32 n).toNat = x.toNat * 2 ^ n := by
  unfold shl32
  have h1 := x.toNat_lt
  have h2 : x.toNat * 2 ^ n < 4294967296 := by
    have h3 : (2 : Nat) ^ n ≤ 2 ^ 24 := Nat.pow_le_pow_right (by decide) h
    have := Nat.mul_le_mul (show x.toNat ≤ 255 by omega) h3
    omega
  rw [UInt32.toNat_ofNat', UInt8.toNat_toUInt32, Nat.mod_eq_of_lt h2]
theorem or_byte (x y : Nat) (h : y < 256) : x * 256 ||| y = x * 256 + y := by
  rw [Nat.mul_comm]; exact (Nat.two_pow_add_eq_or_of_lt (i := 8) h x).symm
theorem word4_sum (a b c d : UInt8) : (shl32 a.toUInt32 24 ||| shl32 b.toUInt32 16 ||| shl32 c.toUInt32 8 ||| d.toUInt32).toNat = a.toNat * 16777216 + b.toNat * 65536 + c.toNat * 256 + d.toNat := by
  have ha := a.toNat_lt
  have hb := b.toNat_lt
  have hc := c.toNat_lt
  have hd := d.toNat_lt
  rw [UInt32.toNat_or, UInt32.toNat_or, UInt32.toNat_or, shl_toNat _ _ (by decide), shl_toNat _ _ (by decide), shl_toNat _ _ (by decide), UInt8.toNat_toUInt32]
  have e1 : a.toNat * 2 ^ 24 ||| b.toNat * 2 ^ 16 = (a.toNat * 256 + b.toNat) * 2 ^ 16 := by
    rw [show a.toNat * 2 ^ 24 = (a.toNat * 256) * 2 ^ 16 by omega, ← Nat.shiftLeft_eq, ← Nat.shiftLeft_eq, ← Nat.shiftLeft_or_distrib, Nat.shiftLeft_eq]
    rw [or_byte _ _ hb]
  have e2 : (a.toNat * 256 + b.toNat) * 2 ^ 16 ||| c.toNat * 2 ^ 8 = ((a.toNat * 256 + b.toNat) * 256 + c.toNat) * 2 ^ 8 := by
    rw [show (a.toNat * 256 + b.toNat) * 2 ^ 16 = ((a.toNat * 256 + b.toNat) * 256) * 2 ^ 8 by omega, ← Nat.shiftLeft_eq, ← Nat.shiftLeft_eq, ← Nat.shiftLeft_or_distrib, Nat.shiftLeft_eq]
    rw [or_byte _ _ hc]
  rw [e1, e2]
  rw [show (2 : Nat) ^ 8 = 256 from by decide, or_byte _ _ hd]
  clear e1 e2
  generalize a.toNat = x at *
  generalize b.toNat = y at *
  generalize c.toNat = z at *
  omega
/-- a block of the text -/
theorem nth_block (l : List UInt8) (n j : Nat) (h : j < 64) : nth ((l.drop n).take 64) j = nth (l.drop n) j := by
  unfold nth; rw [List.getD_eq_getElem?_getD, List.getD_eq_getElem?_getD, List.getElem?_take_of_lt h]
end Sha
end Go.Proofs.YtlpcjiollnnmgabGreatDoor
