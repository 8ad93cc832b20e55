/-
  TWO LISTS' MERKLE ROOT; A LIST WHOSE LAST IS DOUBLED. Plain Lean; nothing of the program.
-/
import Derived.Test.YtlpcjiollnnmgaaDoorRoot
namespace Go.Proofs.YtlpcjiollnnmgaaDoor
open Nums
namespace Mk
theorem up_append : ∀ (n : Nat) (a b : List (List UInt8)), a.length = 2 * n → up (a ++ b) = up a ++ up b
  | 0, a, b, h => by
    have : a = [] := List.length_eq_zero_iff.1 (by omega)
    subst this; rfl
  | n + 1, x :: y :: t, b, h => by
    simp only [List.length_cons] at h
    rw [List.cons_append, List.cons_append, up, up, up_append n t b (by omega), List.cons_append]
  | n + 1, [], b, h => by simp at h
  | n + 1, [x], b, h => by simp at h; omega
theorem twin_append : ∀ (n : Nat) (a b : List (List UInt8)), a.length = 2 * n → twin (a ++ b) = (twin a || twin b)
  | 0, a, b, h => by
    have : a = [] := List.length_eq_zero_iff.1 (by omega)
    subst this; rfl
  | n + 1, x :: y :: t, b, h => by
    simp only [List.length_cons] at h
    rw [List.cons_append, List.cons_append, twin, twin, twin_append n t b (by omega), Bool.or_assoc]
  | n + 1, [], b, h => by simp at h
  | n + 1, [x], b, h => by simp at h; omega
theorem run_or : ∀ (n : Nat) (l : List (List UInt8)) (m : Bool), run n l m = ((run n l false).1, m || (run n l false).2)
  | 0, l, m => by simp [run]
  | n + 1, l, m => by
    rw [run, run]
    by_cases h : l.length ≤ 1
    · rw [if_pos h, if_pos h]; simp
    · rw [if_neg h, if_neg h, run_or n (up l) (m || twin l), run_or n (up l) (false || twin l)]
      simp [Bool.or_assoc]
theorem root_or (l : List (List UInt8)) (m : Bool) : root l m = ((root l false).1, m || (root l false).2) := run_or _ l m
/-- of two lists of 2 ^ k each, one behind the other -/
theorem root_two : ∀ (k : Nat) (a b : List (List UInt8)), a.length = 2 ^ k → b.length = 2 ^ k →
    root (a ++ b) false = (twice ((root a false).1 ++ (root b false).1), (root a false).2 || (root b false).2 || (root a false).1 == (root b false).1)
  | 0, a, b, ha, hb => by
    obtain ⟨x, rfl⟩ := List.length_eq_one_iff.1 (show a.length = 1 from ha)
    obtain ⟨y, rfl⟩ := List.length_eq_one_iff.1 (show b.length = 1 from hb)
    rw [root_one [x] false (by simp), root_one [y] false (by simp), root_up ([x] ++ [y]) false (by simp)]
    show root [twice (x ++ y)] _ = _
    rw [root_one _ _ (by simp)]
    simp [twin]
  | k + 1, a, b, ha, hb => by
    have e : 2 ^ (k + 1) = 2 * 2 ^ k := by rw [Nat.pow_succ, Nat.mul_comm]
    have hp : 0 < 2 ^ k := Nat.pow_pos (by decide)
    rw [root_up (a ++ b) false (by rw [List.length_append]; omega), up_append (2 ^ k) a b (by omega), twin_append (2 ^ k) a b (by omega),
      root_up a false (by omega), root_up b false (by omega), root_or (up a ++ up b), root_or (up a), root_or (up b),
      root_two k (up a) (up b) (by rw [up_length]; omega) (by rw [up_length]; omega)]
    simp only [Bool.false_or]
    congr 1
    cases twin a <;> cases twin b <;> cases (root (up a) false).2 <;> cases (root (up b) false).2 <;> simp
theorem twin_odd : ∀ (l : List (List UInt8)), l.length % 2 = 1 → twin (l ++ [l.getD (l.length - 1) []]) = true
  | [], h => by simp at h
  | [a], _ => by simp [twin]
  | a :: b :: t, h => by
    have ht : t.length % 2 = 1 := by simp at h; omega
    have h0 : t.length - 1 + 2 = t.length + 1 := by omega
    have e : (a :: b :: t).getD ((a :: b :: t).length - 1) [] = t.getD (t.length - 1) [] := by
      show (a :: b :: t).getD (t.length + 1) [] = _
      rw [← h0]; rfl
    rw [e]
    show (a == b || twin (t ++ [t.getD (t.length - 1) []])) = true
    rw [twin_odd t ht]; simp
/-- an odd list's is that of the list with its last doubled, which tells twins -/
theorem root_odd (l : List (List UInt8)) (h : l.length % 2 = 1) (h1 : 1 < l.length) :
    (root (l ++ [l.getD (l.length - 1) []]) false).1 = (root l false).1 ∧ (root (l ++ [l.getD (l.length - 1) []]) false).2 = true := by
  rw [root_up (l ++ [l.getD (l.length - 1) []]) false (by rw [List.length_append]; omega), root_up l false h1, up_odd l h, twin_odd l h, root_or _ (false || true), root_or _ (false || _)]
  simp
end Mk
end Go.Proofs.YtlpcjiollnnmgaaDoor
