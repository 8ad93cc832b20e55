/-
  A transaction made of a number is one. Plain.
-/
import Derived.Test.YtlpcjiollnnmgabDoorTxGen
import Derived.Test.YtlpcjiollnnmgabDoorTxW
namespace Go.Proofs.YtlpcjiollnnmgabDoor
open Nums
open Go.RowKit
namespace Keeps
open Wr
theorem take_app (a r : List UInt8) (n : Nat) (h : a.length = n) : take n (a ++ r) = .ok a r := by
  unfold take
  rw [if_neg (by simp; omega)]
  subst h
  simp
theorem size_small (n : Nat) (r : List UInt8) (h : n < 253) : size (UInt8.ofNat n :: r) = .ok n r := by
  have h1 : take 1 (UInt8.ofNat n :: r) = .ok [UInt8.ofNat n] r := take_app [UInt8.ofNat n] r 1 rfl
  have h2 : (UInt8.ofNat n).toNat = n := by rw [UInt8.toNat_ofNat']; omega
  have h3 : UInt8.ofNat n < 253 := by rw [UInt8.lt_iff_toNat_lt, h2]; exact h
  unfold size
  rw [h1]
  show (if nth [UInt8.ofNat n] 0 < 253 then _ else _) = _
  rw [show nth [UInt8.ofNat n] 0 = UInt8.ofNat n from rfl, if_pos h3, h2]
theorem upTo_small (lo hi n : Nat) (r : List UInt8) (h1 : lo ≤ n) (h2 : n ≤ hi) (h : n < 253) : upTo lo hi (UInt8.ofNat n :: r) = .ok n r := by
  unfold upTo
  rw [size_small n r h]
  show (if n < lo ∨ hi < n then _ else _) = _
  rw [if_neg (by omega)]
theorem script_app (n : Nat) (b r : List UInt8) (hb : b.length = n) (h : n ≤ 40) : script (UInt8.ofNat n :: (b ++ r)) = .ok () r := by
  unfold script
  rw [upTo_small 0 40 n _ (by omega) h (by omega)]
  show ((take n (b ++ r)).void) = _
  rw [take_app b r n hb]; rfl
theorem in_app (seed : Int) (k : Nat) (r : List UInt8) : inp (txIn seed k ++ r) = .ok () r := by
  have hn := (txN_lt seed 11 k).1
  have e : txIn seed k ++ r = bytes 36 (wrap64 (seed + k)) ++ (UInt8.ofNat (txN seed 11 k) :: (bytes (txN seed 11 k) (wrap64 (seed - k)) ++ (bytes 4 k ++ r))) := by simp [txIn]
  rw [e]
  unfold inp
  rw [take_app _ _ 36 (bytes_length _ _)]
  show (script _).bind _ = _
  rw [script_app _ _ _ (bytes_length _ _) (by omega)]
  rw [R.bind_ok, take_app _ _ 4 (bytes_length _ _)]; rfl
theorem out_app (seed : Int) (k : Nat) (r : List UInt8) : outp (txOut seed k ++ r) = .ok () r := by
  have hn := (txN_lt seed 29 k).1
  have e : txOut seed k ++ r = bytes 8 (wrap64 (seed + 3 * k)) ++ (UInt8.ofNat (txN seed 29 k) :: (bytes (txN seed 29 k) (wrap64 (seed + k)) ++ r)) := by simp [txOut]
  rw [e]
  unfold outp
  rw [take_app _ _ 8 (bytes_length _ _)]
  show script _ = _
  rw [script_app _ _ _ (bytes_length _ _) (by omega)]
theorem rep_succ (p : List UInt8 → R Unit) : ∀ (n : Nat) (l : List UInt8), rep p (n + 1) l = (rep p n l).bind fun _ r => p r
  | 0, l => by
    show (p l).bind (fun _ r => .ok () r) = p l
    cases p l <;> rfl
  | n + 1, l => by
    show (p l).bind (fun _ r => rep p (n + 1) r) = ((p l).bind fun _ r => rep p n r).bind fun _ r => p r
    rw [R.bind_bind]
    congr 1
    funext _ r
    exact rep_succ p n r
theorem rep_many (p : List UInt8 → R Unit) (f : Nat → List UInt8) (h : ∀ k r, p (f k ++ r) = .ok () r) : ∀ (n : Nat) (r : List UInt8), rep p n (many f n ++ r) = .ok () r
  | 0, r => rfl
  | n + 1, r => by
    rw [rep_succ, many, List.append_assoc, rep_many p f h n]
    exact h n r
theorem body_tx (seed : Int) (r : List UInt8) : body (tx seed ++ r) = .ok () r := by
  have c1 := cnt_le seed
  have c2 := cnt_le (seed.tdiv 4)
  have e : tx seed ++ r = bytes 4 seed ++ (UInt8.ofNat (cnt seed) :: (many (txIn seed) (cnt seed) ++ (UInt8.ofNat (cnt (seed.tdiv 4)) :: (many (txOut seed) (cnt (seed.tdiv 4)) ++ (bytes 4 seed ++ r))))) := by simp [tx, txHead]
  rw [e]
  unfold body
  rw [take_app _ _ 4 (bytes_length _ _)]
  show (upTo 1 4 _).bind _ = _
  rw [upTo_small 1 4 _ _ c1.1 c1.2 (by omega)]
  show (rep inp _ _).bind _ = _
  rw [rep_many inp (txIn seed) (in_app seed)]
  show (upTo 1 4 _).bind _ = _
  rw [upTo_small 1 4 _ _ c2.1 c2.2 (by omega)]
  show (rep outp _ _).bind _ = _
  rw [rep_many outp (txOut seed) (out_app seed)]
  rw [R.bind_ok, take_app _ _ 4 (bytes_length _ _)]; rfl
theorem tx_app (seed : Int) (r : List UInt8) : Wr.tx (tx seed ++ r) = .ok (tx seed) r := by
  unfold Wr.tx
  rw [body_tx]
  show R.ok _ r = _
  congr 1
  simp
theorem readTx_tx (seed : Int) : Wr.readTx (tx seed) = .ok (tx seed) [] := by
  have := tx_app seed []
  rw [List.append_nil] at this
  unfold readTx
  rw [this]; rfl
end Keeps
end Go.Proofs.YtlpcjiollnnmgabDoor
