/-
  SIPHASH-2-4 IN PLAIN LEAN: on Lean's UInt64; and that the padded text's words are what the program reads. Nothing of the program.
-/
import Derived.Test.YtlpcjiollnnmgabGreatDoorNums
namespace Go.Proofs.YtlpcjiollnnmgabGreatDoor
open Nums
namespace Sip
def leN : List UInt8 → Nat
  | [] => 0
  | b :: t => leN t * 256 + b.toNat
def le (l : List UInt8) : UInt64 := UInt64.ofNat (leN l)

theorem leN_snoc (l : List UInt8) (b : UInt8) : leN (l ++ [b]) = 2 ^ (8 * l.length) * b.toNat + leN l := by
  induction l with
  | nil => simp [leN]
  | cons x l ih =>
    simp only [List.cons_append, leN, ih, List.length_cons]
    rw [show 8 * (l.length + 1) = 8 * l.length + 8 by omega, Nat.pow_add]
    generalize 2 ^ (8 * l.length) = p
    rw [Nat.add_mul, Nat.mul_assoc p b.toNat 256, Nat.mul_assoc p 256 b.toNat, Nat.mul_comm b.toNat 256]
    omega
theorem leN_lt (l : List UInt8) : leN l < 2 ^ (8 * l.length) := by
  induction l with
  | nil => simp [leN]
  | cons x l ih =>
    simp only [leN, List.length_cons]
    rw [show 8 * (l.length + 1) = 8 * l.length + 8 by omega, Nat.pow_add]
    have := x.toNat_lt
    generalize 2 ^ (8 * l.length) = p at *
    omega
theorem le_snoc (l : List UInt8) (b : UInt8) (h : l.length < 8) : le (l ++ [b]) = le l ||| shl b.toUInt64 (8 * l.length) := by
  have h1 := leN_lt l
  have h2 := leN_lt (l ++ [b])
  have h3 : 2 ^ (8 * l.length) ≤ 2 ^ 64 := Nat.pow_le_pow_right (by decide) (by omega)
  have h4 : 2 ^ (8 * (l ++ [b]).length) ≤ 2 ^ 64 := Nat.pow_le_pow_right (by decide) (by simp; omega)
  apply UInt64.toNat_inj.1
  unfold le shl
  rw [leN_snoc] at *
  rw [UInt64.toNat_or, UInt64.toNat_ofNat', UInt64.toNat_ofNat', UInt64.toNat_ofNat', UInt8.toNat_toUInt64]
  rw [Nat.mul_comm b.toNat]
  rw [Nat.mod_eq_of_lt (Nat.lt_of_lt_of_le h2 h4), Nat.mod_eq_of_lt (Nat.lt_of_lt_of_le h1 h3), Nat.mod_eq_of_lt (by omega), Nat.or_comm]
  exact Nat.two_pow_add_eq_or_of_lt h1 _
theorem le_cons (b : UInt8) (l : List UInt8) : le (b :: l) = le l * toU 256 + b.toUInt64 := by
  apply UInt64.toNat_inj.1
  rw [UInt64.toNat_add, UInt64.toNat_mul]
  have e : leN (b :: l) = leN l * 256 + b.toNat := rfl
  unfold le
  rw [e, UInt64.toNat_ofNat', UInt64.toNat_ofNat', UInt8.toNat_toUInt64, show (toU 256).toNat = 256 from rfl]
  generalize leN l = x
  generalize b.toNat = y
  omega
theorem take_snoc (l : List UInt8) (k : Nat) (h : k < l.length) : l.take (k + 1) = l.take k ++ [nth l k] := by
  rw [List.take_succ_eq_append_getElem h]; unfold nth; rw [List.getD_eq_getElem?_getD, List.getElem?_eq_getElem h]; rfl
theorem drop_cons (l : List UInt8) (k : Nat) (h : k < l.length) : l.drop k = nth l k :: l.drop (k + 1) := by
  rw [List.drop_eq_getElem_cons h]; unfold nth; rw [List.getD_eq_getElem?_getD, List.getElem?_eq_getElem h]; rfl
theorem le_take (l : List UInt8) (k : Nat) (h : k < l.length) (h8 : k < 8) : le (l.take (k + 1)) = le (l.take k) ||| shl (nth l k).toUInt64 (8 * k) := by
  have e : (l.take k).length = k := by rw [List.length_take]; omega
  rw [take_snoc l k h, le_snoc _ _ (by omega), e]
theorem le_drop (l : List UInt8) (k : Nat) (h : k < l.length) : le (l.drop k) = le (l.drop (k + 1)) * toU 256 + (nth l k).toUInt64 := by
  rw [drop_cons l k h, le_cons]

/-! ### the rounds -/
structure St where
  (a b c d : UInt64)
def round (s : St) : St :=
  let a := s.a + s.b
  let b := rotl s.b 13 ^^^ a
  let a := rotl a 32
  let c := s.c + s.d
  let d := rotl s.d 16 ^^^ c
  let a := a + d
  let d := rotl d 21 ^^^ a
  let c := c + b
  let b := rotl b 17 ^^^ c
  let c := rotl c 32
  ⟨a, b, c, d⟩
theorem round_eq {A B C D a1 c1 b1 d1 a2 c2 a3 b2 d2 : UInt64} (h1 : A + B = a1) (h2 : C + D = c1) (h3 : rotl B 13 ^^^ a1 = b1) (h4 : rotl D 16 ^^^ c1 = d1) (h5 : rotl a1 32 = a2)
    (h6 : c1 + b1 = c2) (h7 : a2 + d1 = a3) (h8 : rotl b1 17 ^^^ c2 = b2) (h9 : rotl d1 21 ^^^ a3 = d2) : round ⟨A, B, C, D⟩ = ⟨a3, b2, rotl c2 32, d2⟩ := by
  subst h1 h2 h3 h4 h5 h6 h7 h8 h9; rfl
def rounds : Nat → St → St
  | 0, s => s
  | n + 1, s => round (rounds n s)
/-- one word -/
def word (s : St) (m : UInt64) : St :=
  let t := rounds 2 ⟨s.a, s.b, s.c, s.d ^^^ m⟩
  ⟨t.a ^^^ m, t.b, t.c, t.d⟩
/-- n words of eight bytes -/
def words : Nat → St → List UInt8 → St
  | 0, s, _ => s
  | n + 1, s, l => word (words n s l) (le ((l.drop (8 * n)).take 8))
def start (k l : UInt64) : St := ⟨k ^^^ toU 8317987319222330741, l ^^^ toU 7237128888997146477, k ^^^ toU 7816392313619706465, l ^^^ toU 8387220255154660723⟩
def last (s : St) : UInt64 :=
  let t := rounds 4 ⟨s.a, s.b, s.c ^^^ toU 255, s.d⟩
  t.a ^^^ t.b ^^^ t.c ^^^ t.d
/-- the last word: what is left, and the length's lowest byte -/
def tail (n : Nat) (l : List UInt8) : UInt64 := shl (UInt64.ofNat n) 56 ||| le l
def sip (k l : UInt64) (s : List UInt8) : UInt64 := last (word (words (s.length / 8) (start k l) s) (tail s.length (s.drop (8 * (s.length / 8)))))

/-- the padded text -/
def pad (s : List UInt8) : List UInt8 := s ++ List.replicate (7 - s.length % 8) 0 ++ [UInt8.ofNat s.length]

theorem leN_append_zeros (l : List UInt8) (k : Nat) : leN (l ++ List.replicate k 0) = leN l := by
  induction l with
  | nil =>
    induction k with
    | zero => rfl
    | succ k ih =>
      have ih' : leN (List.replicate k 0) = 0 := by simpa [leN] using ih
      simp [List.replicate_succ, leN, ih']
  | cons x l ih => simp [leN, ih]
theorem le_tail (l : List UInt8) (n : Nat) (h : l.length < 8) : le (l ++ List.replicate (7 - l.length) 0 ++ [UInt8.ofNat n]) = tail n l := by
  have e : (l ++ List.replicate (7 - l.length) 0).length = 7 := by simp; omega
  rw [le_snoc _ _ (by rw [e]; decide), e]
  unfold tail
  rw [UInt64.or_comm]
  have e1 : le (l ++ List.replicate (7 - l.length) 0) = le l := by unfold le; rw [leN_append_zeros]
  have e2 : shl (UInt8.ofNat n).toUInt64 (8 * 7) = shl (UInt64.ofNat n) 56 := by
    apply UInt64.toNat_inj.1
    unfold shl
    rw [UInt64.toNat_ofNat', UInt64.toNat_ofNat', UInt8.toNat_toUInt64, UInt8.toNat_ofNat', UInt64.toNat_ofNat']
    have e3 : (8 * 7 : Nat) = 56 := rfl
    rw [e3]
    omega
  rw [e1, e2]
theorem words_append (n : Nat) (st : St) (l m : List UInt8) (h : 8 * n ≤ l.length) : words n st (l ++ m) = words n st l := by
  induction n with
  | zero => rfl
  | succ n ih =>
    rw [words, words, ih (by omega), List.drop_append_of_le_length (by omega), List.take_append_of_le_length (by rw [List.length_drop]; omega)]
/-- THE DEFINITION BY PADDING IS THE OTHER ONE -/
theorem sip_pad (k l : UInt64) (s : List UInt8) : last (words ((pad s).length / 8) (start k l) (pad s)) = sip k l s := by
  have hl : (pad s).length = 8 * (s.length / 8 + 1) := by simp [pad]; omega
  rw [hl, Nat.mul_div_cancel_left _ (by decide), words]
  unfold sip
  have h1 : words (s.length / 8) (start k l) (pad s) = words (s.length / 8) (start k l) s := by
    unfold pad; rw [List.append_assoc]; exact words_append _ _ _ _ (by omega)
  have h2 : ((pad s).drop (8 * (s.length / 8))).take 8 = s.drop (8 * (s.length / 8)) ++ List.replicate (7 - (s.drop (8 * (s.length / 8))).length) 0 ++ [UInt8.ofNat s.length] := by
    unfold pad
    rw [List.append_assoc, List.drop_append_of_le_length (by omega), List.take_of_length_le (by simp; omega), ← List.append_assoc]
    congr 3; simp; omega
  rw [h1, h2, le_tail _ _ (by simp; omega)]
end Sip
end Go.Proofs.YtlpcjiollnnmgabGreatDoor
