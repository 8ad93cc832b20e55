/-
  A BLOCK TOLD SHORTLY, IN PLAIN LEAN: as the program lays it, as the reference does, and that these are one. Nothing of the program.
-/
import Derived.Test.YtlpcjiollnnmgaaDoorWireRef
import Derived.Test.YtlpcjiollnnmgaaDoorSha
namespace Go.Proofs.YtlpcjiollnnmgaaDoor
open Nums
namespace En
open Wr
def key0 (d : List UInt8) : UInt64 := Sip.le (d.take 8)
def key1 (d : List UInt8) : UInt64 := Sip.le ((d.drop 8).take 8)
def six (x : UInt64) : List UInt8 := low x.toNat 6
def short (h n t : List UInt8) : List UInt8 := six (Sip.sip (key0 (Sha.sum (h ++ n))) (key1 (Sha.sum (h ++ n))) (Sha.sum (Sha.sum t)))
/-- what is wrong with the indexes l (the next one that could be: lo), of n transactions -/
def chkFrom (n : Nat) : Int → List Int → Nat
  | _, [] => 0
  | lo, i :: l => if i < 0 ∨ (n : Int) ≤ i then 4 else if i < lo then 11 else chkFrom n (i + 1) l
def chk (n : Nat) (l : List Int) : Nat := if chkFrom n 0 l ≠ 0 then chkFrom n 0 l else if l.headD 1 = 0 then 0 else 11
/-- the transactions that are sent along; the others, told shortly: of the first i -/
def sent (al : List Int) (txs : List (List UInt8)) : Nat → List (List UInt8)
  | 0 => []
  | i + 1 => if (i : Int) ∈ al then sent al txs i ++ [txs.getD i []] else sent al txs i
def kept (f : List UInt8 → List UInt8) (al : List Int) (txs : List (List UInt8)) : Nat → List (List UInt8)
  | 0 => []
  | i + 1 => if (i : Int) ∈ al then kept f al txs i else kept f al txs i ++ [f (txs.getD i [])]
def gaps : Int → List Int → List (List UInt8)
  | _, [] => []
  | next, i :: l => sizeB (i - next).toNat :: gaps (i + 1) l
def told : List (List UInt8) → List (List UInt8) → List UInt8
  | g :: gs, t :: ts => g ++ t ++ told gs ts
  | _, _ => []
/-- the reference's: the bytes of those sent along; the next index -/
def refs (al : List Int) (txs : List (List UInt8)) : Nat → List UInt8 × Nat
  | 0 => (sizeB al.length, 0)
  | i + 1 => if (i : Int) ∈ al then ((refs al txs i).1 ++ (sizeB (i - (refs al txs i).2) ++ txs.getD i []), i + 1) else refs al txs i
def bytes (h n : List UInt8) (shorts : List (List UInt8)) (al : List Int) (ts : List (List UInt8)) : List UInt8 :=
  h ++ n ++ (sizeB shorts.length ++ shorts.flatten) ++ (sizeB al.length ++ told (gaps 0 al) ts)
/-- rising indexes from lo on, below n -/
def Rise (n : Nat) : Int → List Int → Prop
  | _, [] => True
  | lo, i :: l => lo ≤ i ∧ i < n ∧ Rise n (i + 1) l
theorem rise_of_chk (n : Nat) : ∀ (l : List Int) (lo : Int), chkFrom n lo l = 0 → Rise n lo l
  | [], _, _ => trivial
  | i :: l, lo, h => by
    rw [chkFrom] at h
    by_cases h1 : i < 0 ∨ (n : Int) ≤ i
    · rw [if_pos h1] at h; cases h
    · rw [if_neg h1] at h
      by_cases h2 : i < lo
      · rw [if_pos h2] at h; cases h
      · rw [if_neg h2] at h
        exact ⟨by omega, by omega, rise_of_chk n l (i + 1) h⟩
/-- those below i -/
def low' (i : Nat) (al : List Int) : List Int := al.filter fun j => decide (j < (i : Int))
theorem rise_ge (n : Nat) : ∀ (al : List Int) (lo : Int), Rise n lo al → ∀ j ∈ al, lo ≤ j
  | [], _, _, j, h => by cases h
  | i :: l, lo, h, j, hj => by
    obtain ⟨h1, h2, h3⟩ := h
    rcases List.mem_cons.1 hj with rfl | hj
    · exact h1
    · have := rise_ge n l _ h3 j hj; omega
theorem low_succ (n : Nat) (i : Nat) : ∀ (al : List Int) (lo : Int), Rise n lo al → low' (i + 1) al = low' i al ++ (if (i : Int) ∈ al then [(i : Int)] else [])
  | [], _, _ => by simp [low']
  | j :: l, lo, h => by
    obtain ⟨h1, h2, h3⟩ := h
    have ih := low_succ n i l _ h3
    have hge := rise_ge n l _ h3
    unfold low' at ih ⊢
    rw [List.filter_cons, List.filter_cons]
    by_cases hji : j < (i : Int)
    · have e1 : decide (j < ((i + 1 : Nat) : Int)) = true := by simp; omega
      have e2 : decide (j < (i : Int)) = true := by simpa using hji
      rw [if_pos e1, if_pos e2, ih, List.cons_append]
      have e3 : (i : Int) ∈ j :: l → (i : Int) ∈ l := fun hh => by
        rcases List.mem_cons.1 hh with hh | hh
        · omega
        · exact hh
      by_cases h4 : (i : Int) ∈ l
      · rw [if_pos h4, if_pos (List.mem_cons_of_mem _ h4)]
      · rw [if_neg h4, if_neg (fun hh => h4 (e3 hh))]
    · have e2 : ¬ (decide (j < (i : Int)) = true) := by simpa using hji
      rw [if_neg e2]
      have hl : ∀ k : Nat, k ≤ i + 1 → l.filter (fun x => decide (x < (k : Int))) = [] := fun k hk => by
        rw [List.filter_eq_nil_iff]; intro x hx; have := hge x hx; simp; omega
      rw [hl i (by omega), hl (i + 1) (by omega)]
      by_cases h5 : j = (i : Int)
      · subst h5; simp; omega
      · have e1 : ¬ (decide (j < ((i + 1 : Nat) : Int)) = true) := by simp; omega
        rw [if_neg e1, if_neg]
        · rfl
        · intro hh
          rcases List.mem_cons.1 hh with hh | hh
          · omega
          · have := hge _ hh; omega
def last1 (next : Int) : List Int → Int
  | [] => next
  | i :: l => last1 (i + 1) l
theorem gaps_snoc (i : Int) : ∀ (l : List Int) (next : Int), gaps next (l ++ [i]) = gaps next l ++ [sizeB (i - last1 next l).toNat]
  | [], _ => rfl
  | j :: l, next => by rw [List.cons_append, gaps, gaps_snoc i l, gaps]; rfl
theorem last1_snoc (i : Int) : ∀ (l : List Int) (next : Int), last1 next (l ++ [i]) = i + 1
  | [], _ => rfl
  | j :: l, next => by rw [List.cons_append, last1, last1_snoc i l]
theorem told_snoc (g t : List UInt8) : ∀ (gs ts : List (List UInt8)), gs.length = ts.length → told (gs ++ [g]) (ts ++ [t]) = told gs ts ++ (g ++ t)
  | [], [], _ => by simp [told]
  | [], _ :: _, h => by simp at h
  | _ :: _, [], h => by simp at h
  | a :: gs, b :: ts, h => by
    rw [List.cons_append, List.cons_append, told, told_snoc g t gs ts (by simpa using h), told]; simp only [List.append_assoc]
theorem gaps_length : ∀ (l : List Int) (next : Int), (gaps next l).length = l.length
  | [], _ => rfl
  | i :: l, next => by simp [gaps, gaps_length l]
theorem sent_length (n : Nat) (al : List Int) (txs : List (List UInt8)) (h : Rise n 0 al) : ∀ i, (sent al txs i).length = (low' i al).length
  | 0 => by
    have : low' 0 al = [] := by
      unfold low'; rw [List.filter_eq_nil_iff]; intro x hx; have := rise_ge n al 0 h x hx; simp; omega
    rw [this]; rfl
  | i + 1 => by
    rw [low_succ n i al 0 h, sent, List.length_append]
    have ih := sent_length n al txs h i
    split
    · rw [List.length_append, ih]; rfl
    · rw [ih]; rfl
theorem refs_eq (n : Nat) (al : List Int) (txs : List (List UInt8)) (h : Rise n 0 al) : ∀ i, refs al txs i = (sizeB al.length ++ told (gaps 0 (low' i al)) (sent al txs i), (last1 0 (low' i al)).toNat) ∧ 0 ≤ last1 0 (low' i al)
  | 0 => by
    have : low' 0 al = [] := by
      unfold low'; rw [List.filter_eq_nil_iff]; intro x hx; have := rise_ge n al 0 h x hx; simp; omega
    rw [this]; simp [refs, gaps, told, sent, last1]
  | i + 1 => by
    obtain ⟨ih, ih2⟩ := refs_eq n al txs h i
    have hl := sent_length n al txs h i
    have hs := low_succ n i al 0 h
    rw [refs, sent]
    by_cases hi : (i : Int) ∈ al
    · rw [if_pos hi] at hs
      rw [if_pos hi, if_pos hi, hs, gaps_snoc, last1_snoc, told_snoc _ _ _ _ (by rw [gaps_length, hl]), ih]
      dsimp only
      refine ⟨?_, by omega⟩
      have e : ((i : Int) - last1 0 (low' i al)).toNat = i - (last1 0 (low' i al)).toNat := by omega
      have e2 : ((i : Int) + 1).toNat = i + 1 := by omega
      rw [e, e2, List.append_assoc]
    · rw [if_neg hi] at hs
      rw [if_neg hi, if_neg hi, hs, List.append_nil]
      exact ⟨ih, ih2⟩
theorem rise_lt (n : Nat) : ∀ (al : List Int) (lo : Int), Rise n lo al → ∀ j ∈ al, j < (n : Int)
  | [], _, _, j, h => by cases h
  | i :: l, lo, h, j, hj => by
    obtain ⟨h1, h2, h3⟩ := h
    rcases List.mem_cons.1 hj with rfl | hj
    · exact h2
    · exact rise_lt n l _ h3 j hj
/-- all of them -/
theorem refs_all (al : List Int) (txs : List (List UInt8)) (h : Rise txs.length 0 al) : (refs al txs txs.length).1 = sizeB al.length ++ told (gaps 0 al) (sent al txs txs.length) := by
  have e : low' txs.length al = al := by
    unfold low'; rw [List.filter_eq_self]; intro x hx; have := rise_lt _ al 0 h x hx; simpa using this
  rw [(refs_eq _ al txs h txs.length).1, e]
theorem chk_rise (n : Nat) (al : List Int) (h : chk n al = 0) : Rise n 0 al := by
  unfold chk at h
  split at h
  · rename_i h1; exact absurd h h1
  · rename_i h1; exact rise_of_chk n al 0 (by omega)
/-- a rising list has no more than n -/
theorem rise_len (n : Nat) : ∀ (al : List Int) (lo : Int), 0 ≤ lo → Rise n lo al → lo + al.length ≤ n ∨ al = []
  | [], _, _, _ => .inr rfl
  | i :: l, lo, h0, h => by
    obtain ⟨h1, h2, h3⟩ := h
    rcases rise_len n l (i + 1) (by omega) h3 with h4 | rfl
    · left; rw [List.length_cons]; omega
    · left; simp; omega
/-- the program's answer -/
def encode (block : List UInt8) (nonce : UInt64) (al : List Int) : List UInt8 × Nat :=
  match readBlock block with
  | .bad e => ([], e)
  | .ok (h, txs) _ =>
    if chk txs.length al ≠ 0 then ([], chk txs.length al) else
    (bytes h (low nonce.toNat 8) (kept (short h (low nonce.toNat 8)) al txs txs.length) al (sent al txs txs.length), 0)
/-- the reference's -/
def encodeR (block : List UInt8) (nonce : UInt64) (al : List Int) : List UInt8 × Nat :=
  match readBlock block with
  | .bad e => ([], e)
  | .ok (h, txs) _ =>
    if chk txs.length al ≠ 0 then ([], chk txs.length al) else
    (h ++ low nonce.toNat 8 ++ (sizeB (kept (short h (low nonce.toNat 8)) al txs txs.length).length ++ (kept (short h (low nonce.toNat 8)) al txs txs.length).flatten) ++ (refs al txs txs.length).1, 0)
theorem encode_eq (block : List UInt8) (nonce : UInt64) (al : List Int) : encodeR block nonce al = encode block nonce al := by
  unfold encodeR encode
  cases readBlock block with
  | bad e => rfl
  | ok a r =>
    obtain ⟨h, txs⟩ := a
    dsimp only
    by_cases hc : chk txs.length al = 0
    · rw [if_neg (by omega), if_neg (by omega), refs_all al txs (chk_rise _ _ hc)]; rfl
    · rw [if_pos hc, if_pos hc]
/-! ### serve -/
def pick (txs : List (List UInt8)) : List Nat → Option (List (List UInt8))
  | [] => some []
  | i :: l => if txs.length ≤ i then none else (pick txs l).map fun ts => txs.getD i [] :: ts
def serve (block request : List UInt8) : List UInt8 × Nat :=
  match readBlock block with
  | .bad e => ([], e)
  | .ok (h, txs) _ => match readRequest request with
    | .bad e => ([], e)
    | .ok (n, l) _ => if n ≠ Sha.sum (Sha.sum h) then ([], 6) else match pick txs l with
      | none => ([], 4)
      | some ts => (n ++ (sizeB ts.length ++ ts.flatten), 0)
end En
end Go.Proofs.YtlpcjiollnnmgaaDoor
