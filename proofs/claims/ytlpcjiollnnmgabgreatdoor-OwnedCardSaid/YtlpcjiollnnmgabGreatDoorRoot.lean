/-
  THE MERKLE ROOT IN PLAIN LEAN. Nothing of the program.
-/
import Derived.Test.YtlpcjiollnnmgabGreatDoorShaTop
namespace Go.Proofs.YtlpcjiollnnmgabGreatDoor
open Nums
namespace Mk


theorem twice_length (l : List UInt8) : (twice l).length = 32 := Sha.sum32 _
def up : List (List UInt8) → List (List UInt8)
  | [] => []
  | [a] => [twice (a ++ a)]
  | a :: b :: t => twice (a ++ b) :: up t
def twin : List (List UInt8) → Bool
  | a :: b :: t => a == b || twin t
  | _ => false
theorem up_length : ∀ l : List (List UInt8), (up l).length = (l.length + 1) / 2
  | [] => rfl
  | [_] => by simp [up]
  | a :: b :: t => by simp [up, up_length t]; omega
def run : Nat → List (List UInt8) → Bool → List UInt8 × Bool
  | 0, l, m => (l.headD [], m)
  | n + 1, l, m => if l.length ≤ 1 then (l.headD [], m) else run n (up l) (m || twin l)
theorem run_fuel : ∀ (n k : Nat) (l : List (List UInt8)) (m : Bool), l.length ≤ n → l.length ≤ k → run n l m = run k l m := by
  intro n
  induction n with
  | zero =>
    intro k l m h _
    cases k with
    | zero => rfl
    | succ k => rw [run, run, if_pos (by omega)]
  | succ n ih =>
    intro k l m hn hk
    cases k with
    | zero => rw [run, run, if_pos (by omega)]
    | succ k =>
      rw [run, run]
      split
      · rfl
      · have := up_length l
        exact ih k _ _ (by omega) (by omega)
def root (l : List (List UInt8)) (m : Bool) : List UInt8 × Bool := run l.length l m
theorem root_one (l : List (List UInt8)) (m : Bool) (h : l.length ≤ 1) : root l m = (l.headD [], m) := by
  unfold root
  rw [run_fuel _ 1 _ _ (Nat.le_refl _) h, run, if_pos h]
theorem root_up (l : List (List UInt8)) (m : Bool) (h : 1 < l.length) : root l m = root (up l) (m || twin l) := by
  have hl := up_length l
  unfold root
  rw [run_fuel _ (l.length - 1 + 1) _ _ (Nat.le_refl _) (by omega), run, if_neg (by omega)]
  exact run_fuel _ _ _ _ (by omega) (Nat.le_refl _)
theorem dg_drop (l : List (List UInt8)) (i : Nat) (h : i < l.length) : l.drop i = l.getD i [] :: l.drop (i + 1) := by
  rw [List.drop_eq_getElem_cons h, List.getD_eq_getElem?_getD, List.getElem?_eq_getElem h]; rfl
/-- two of them at i -/
theorem up_pair (l : List (List UInt8)) (i : Nat) (h : i + 1 < l.length) : up (l.drop i) = twice (l.getD i [] ++ l.getD (i + 1) []) :: up (l.drop (i + 2)) := by
  rw [dg_drop l i (by omega), dg_drop l (i + 1) h]; rfl
theorem up_last (l : List (List UInt8)) (i : Nat) (h : i + 1 = l.length) : up (l.drop i) = twice (l.getD i [] ++ l.getD i []) :: up (l.drop (i + 2)) := by
  rw [dg_drop l i (by omega), List.drop_of_length_le (by omega), List.drop_of_length_le (by omega)]; rfl
theorem twin_pair (l : List (List UInt8)) (i : Nat) (h : i + 1 < l.length) : twin (l.drop i) = (l.getD i [] == l.getD (i + 1) [] || twin (l.drop (i + 2))) := by
  rw [dg_drop l i (by omega), dg_drop l (i + 1) h]; rfl
theorem twin_end (l : List (List UInt8)) (i : Nat) (h : l.length ≤ i + 1) : twin (l.drop i) = false := by
  by_cases hi : i < l.length
  · rw [dg_drop l i hi, List.drop_of_length_le (by omega)]; rfl
  · rw [List.drop_of_length_le (by omega)]; rfl
/-- an odd one doubled -/
theorem up_odd : ∀ (l : List (List UInt8)), l.length % 2 = 1 → up (l ++ [l.getD (l.length - 1) []]) = up l
  | [], h => by simp at h
  | [a], _ => rfl
  | a :: b :: t, h => by
    have ht : t.length % 2 = 1 := by simp at h; omega
    have h0 : t.length - 1 + 2 = t.length + 1 := by omega
    have e : (a :: b :: t).getD ((a :: b :: t).length - 1) [] = t.getD (t.length - 1) [] := by
      show (a :: b :: t).getD (t.length + 1) [] = _
      rw [← h0]; rfl
    rw [e]
    show twice (a ++ b) :: up (t ++ [t.getD (t.length - 1) []]) = twice (a ++ b) :: up t
    rw [up_odd t ht]
theorem up_sizes : ∀ (l : List (List UInt8)), ∀ x ∈ up l, x.length = 32
  | [], _, h => by simp [up] at h
  | [a], x, h => by simp [up] at h; rw [h]; exact twice_length _
  | a :: b :: t, x, h => by
    simp only [up, List.mem_cons] at h
    rcases h with rfl | h
    · exact twice_length _
    · exact up_sizes t x h
end Mk
end Go.Proofs.YtlpcjiollnnmgabGreatDoor
