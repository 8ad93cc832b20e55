/-
  THE FORMS OF BYTES IN PLAIN LEAN: readers that end with what is left or with what is wrong; numbers as bytes. Nothing of the program.
-/
import Derived.Test.YtlpcjiollnnmgabGreatDoorSip
namespace Go.Proofs.YtlpcjiollnnmgabGreatDoor
open Nums
namespace Wr
/-- what a reader ends with: a value and what is left; or what is wrong -/
inductive R (α : Type) where
  | ok (a : α) (r : List UInt8)
  | bad (e : Nat)
namespace R
variable {α β γ : Type}
def bind (x : R α) (f : α → List UInt8 → R β) : R β := match x with
  | .ok a r => f a r
  | .bad e => .bad e
def map (f : α → β) (x : R α) : R β := match x with
  | .ok a r => .ok (f a) r
  | .bad e => .bad e
def void (x : R α) : R Unit := match x with
  | .ok _ r => .ok () r
  | .bad e => .bad e
def getD (x : R α) (d : α) : α := match x with
  | .ok a _ => a
  | .bad _ => d
def then' (x : R Unit) (f : List UInt8 → R β) : R β := match x with
  | .ok _ r => f r
  | .bad e => .bad e
theorem bind_bind (x : R α) (f : α → List UInt8 → R β) (g : β → List UInt8 → R γ) : (x.bind f).bind g = x.bind fun a r => (f a r).bind g := by cases x <;> rfl
theorem bind_ok (a : α) (r : List UInt8) (f : α → List UInt8 → R β) : (R.ok a r).bind f = f a r := rfl
theorem bind_bad (e : Nat) (f : α → List UInt8 → R β) : (R.bad (α := α) e).bind f = .bad e := rfl
theorem map_bind (x : R α) (f : α → β) : x.map f = x.bind fun a r => .ok (f a) r := by cases x <;> rfl
end R
def take (n : Nat) (l : List UInt8) : R (List UInt8) := if l.length < n then .bad 1 else .ok (l.take n) (l.drop n)
def more (b : UInt8) : Nat := if b = 253 then 2 else if b = 254 then 4 else 8
def least (b : UInt8) : Nat := if b = 253 then 253 else if b = 254 then 65536 else 4294967296
def rest (b : UInt8) (r : List UInt8) : R Nat :=
  (take (more b) r).bind fun u r' => if Sip.leN u < least b then .bad 2 else .ok (Sip.leN u) r'
def size (l : List UInt8) : R Nat :=
  (take 1 l).bind fun t r => if nth t 0 < 253 then .ok (nth t 0).toNat r else rest (nth t 0) r
def upTo (lo hi : Nat) (l : List UInt8) : R Nat := (size l).bind fun x r => if x < lo ∨ hi < x then .bad 3 else .ok x r
def script (l : List UInt8) : R Unit := (upTo 0 40 l).bind fun n r => (take n r).void
def inp (l : List UInt8) : R Unit := (take 36 l).bind fun _ r => (script r).bind fun _ r => (take 4 r).void
def outp (l : List UInt8) : R Unit := (take 8 l).bind fun _ r => script r
def rep (p : List UInt8 → R Unit) : Nat → List UInt8 → R Unit
  | 0, l => .ok () l
  | n + 1, l => (p l).bind fun _ r => rep p n r
def body (l : List UInt8) : R Unit :=
  (take 4 l).bind fun _ r => (upTo 1 4 r).bind fun n r => (rep inp n r).bind fun _ r => (upTo 1 4 r).bind fun n r => (rep outp n r).bind fun _ r => (take 4 r).void
def tx (l : List UInt8) : R (List UInt8) := (body l).bind fun _ r => .ok (l.take (l.length - r.length)) r
def txs : Nat → List UInt8 → R (List (List UInt8))
  | 0, l => .ok [] l
  | n + 1, l => (tx l).bind fun t r => (txs n r).map fun ts => t :: ts
def fin {α : Type} (x : R α) : R α := x.bind fun a r => if r = [] then .ok a r else .bad 5
def readTx (l : List UInt8) : R (List UInt8) := fin (tx l)
/-- header, transactions -/
def readBlock (l : List UInt8) : R (List UInt8 × List (List UInt8)) :=
  fin ((take 80 l).bind fun h r => (upTo 1 16 r).bind fun n r => (txs n r).map fun ts => (h, ts))
def readReply (l : List UInt8) : R (List UInt8 × List (List UInt8)) :=
  fin ((take 32 l).bind fun h r => (upTo 1 16 r).bind fun n r => (txs n r).map fun ts => (h, ts))
def index (next bound : Nat) (l : List UInt8) : R Nat := (size l).bind fun d r => if bound ≤ d ∨ bound ≤ next + d then .bad 4 else .ok (next + d) r
def indexes (bound : Nat) : Nat → Nat → List UInt8 → R (List Nat)
  | 0, _, l => .ok [] l
  | n + 1, next, l => (index next bound l).bind fun i r => (indexes bound n (i + 1) r).map fun is => i :: is
def readRequest (l : List UInt8) : R (List UInt8 × List Nat) :=
  fin ((take 32 l).bind fun h r => (upTo 1 16 r).bind fun n r => (indexes 16 n 0 r).map fun is => (h, is))
/-- indexes, a transaction behind each -/
def pairs (bound : Nat) : Nat → Nat → List UInt8 → R (List (Nat × List UInt8))
  | 0, _, l => .ok [] l
  | n + 1, next, l => (index next bound l).bind fun i r => (tx r).bind fun t r => (pairs bound n (i + 1) r).map fun ps => (i, t) :: ps
def takes (k : Nat) : Nat → List UInt8 → R (List (List UInt8))
  | 0, l => .ok [] l
  | n + 1, l => (take k l).bind fun t r => (takes k n r).map fun ts => t :: ts
structure Cb where
  header : List UInt8
  nonce : List UInt8
  shorts : List (List UInt8)
  sent : List (Nat × List UInt8)
def readCompact (l : List UInt8) : R Cb :=
  fin ((take 80 l).bind fun h r => (take 8 r).bind fun nc r => (upTo 0 16 r).bind fun n r => (takes 6 n r).bind fun ss r =>
    (upTo 0 (16 - ss.length) r).bind fun m r => if m + ss.length = 0 then .bad 3 else (pairs (m + ss.length) m 0 r).map fun ps => ⟨h, nc, ss, ps⟩)

/-! ### what is left is a tail -/
def Tail {α : Type} (l : List UInt8) (x : R α) : Prop := ∀ a r, x = .ok a r → ∃ k, k ≤ l.length ∧ r = l.drop k
theorem Tail.le {α : Type} {l : List UInt8} {x : R α} (h : Tail l x) {a : α} {r : List UInt8} (e : x = .ok a r) : r.length ≤ l.length := by
  obtain ⟨k, _, rfl⟩ := h a r e; simp
theorem Tail.ok {α : Type} (l : List UInt8) (a : α) : Tail l (.ok a l) := fun _ _ h => by cases h; exact ⟨0, Nat.zero_le _, rfl⟩
theorem Tail.bad {α : Type} (l : List UInt8) (e : Nat) : Tail (α := α) l (.bad e) := fun _ _ h => by cases h
theorem Tail.bind {α β : Type} {l : List UInt8} {x : R α} {f : α → List UInt8 → R β} (h : Tail l x) (k : ∀ a r, x = .ok a r → Tail r (f a r)) : Tail l (x.bind f) := by
  cases x with
  | bad e => exact Tail.bad _ _
  | ok a r =>
    obtain ⟨i, hi, rfl⟩ := h a r rfl
    intro b s hs
    obtain ⟨j, hj, rfl⟩ := k a _ rfl b s hs
    rw [List.length_drop] at hj
    exact ⟨i + j, by omega, by rw [List.drop_drop]⟩
theorem Tail.map {α β : Type} {l : List UInt8} {x : R α} (f : α → β) (h : Tail l x) : Tail l (x.map f) := by
  rw [R.map_bind]; exact h.bind fun a r _ => Tail.ok _ _
theorem Tail.void {α : Type} {l : List UInt8} {x : R α} (h : Tail l x) : Tail l x.void := by
  cases x with
  | bad e => exact Tail.bad _ _
  | ok a r => intro b s hs; cases hs; exact h a r rfl
theorem take_tail (n : Nat) (l : List UInt8) : Tail l (take n l) := by
  unfold take; split
  · exact Tail.bad _ _
  · intro a r h; cases h; exact ⟨n, by omega, rfl⟩
theorem rest_tail (b : UInt8) (l : List UInt8) : Tail l (rest b l) :=
  (take_tail _ l).bind fun u r _ => by split; exact Tail.bad _ _; exact Tail.ok _ _
theorem size_tail (l : List UInt8) : Tail l (size l) :=
  (take_tail 1 l).bind fun t r _ => by split; exact Tail.ok _ _; exact rest_tail _ _
theorem upTo_tail (lo hi : Nat) (l : List UInt8) : Tail l (upTo lo hi l) :=
  (size_tail l).bind fun x r _ => by split; exact Tail.bad _ _; exact Tail.ok _ _
theorem script_tail (l : List UInt8) : Tail l (script l) := (upTo_tail _ _ l).bind fun n r _ => (take_tail n r).void
theorem inp_tail (l : List UInt8) : Tail l (inp l) := (take_tail _ l).bind fun _ r _ => (script_tail r).bind fun _ r _ => (take_tail 4 r).void
theorem outp_tail (l : List UInt8) : Tail l (outp l) := (take_tail _ l).bind fun _ r _ => script_tail r
theorem rep_tail {p : List UInt8 → R Unit} (hp : ∀ l, Tail l (p l)) : ∀ (n : Nat) (l : List UInt8), Tail l (rep p n l)
  | 0, _ => Tail.ok _ _
  | n + 1, l => (hp l).bind fun _ r _ => rep_tail hp n r
theorem body_tail (l : List UInt8) : Tail l (body l) :=
  (take_tail _ l).bind fun _ r _ => (upTo_tail _ _ r).bind fun n r _ => (rep_tail inp_tail n r).bind fun _ r _ => (upTo_tail _ _ r).bind fun n r _ => (rep_tail outp_tail n r).bind fun _ r _ => (take_tail 4 r).void
theorem tx_tail (l : List UInt8) : Tail l (tx l) := by
  unfold tx
  cases h : body l with
  | bad e => exact Tail.bad _ _
  | ok a r => intro b s hs; cases hs; exact body_tail l a _ h
theorem txs_tail : ∀ (n : Nat) (l : List UInt8), Tail l (txs n l)
  | 0, _ => Tail.ok _ _
  | n + 1, l => (tx_tail l).bind fun _ r _ => (txs_tail n r).map _
theorem index_tail (next bound : Nat) (l : List UInt8) : Tail l (index next bound l) :=
  (size_tail l).bind fun x r _ => by split; exact Tail.bad _ _; exact Tail.ok _ _
theorem indexes_tail (bound : Nat) : ∀ (n next : Nat) (l : List UInt8), Tail l (indexes bound n next l)
  | 0, _, _ => Tail.ok _ _
  | n + 1, _, l => (index_tail _ _ l).bind fun i r _ => (indexes_tail bound n (i + 1) r).map _
theorem takes_tail (k : Nat) : ∀ (n : Nat) (l : List UInt8), Tail l (takes k n l)
  | 0, _ => Tail.ok _ _
  | n + 1, l => (take_tail _ l).bind fun _ r _ => (takes_tail k n r).map _
theorem pairs_tail (bound : Nat) : ∀ (n next : Nat) (l : List UInt8), Tail l (pairs bound n next l)
  | 0, _, _ => Tail.ok _ _
  | n + 1, _, l => (index_tail _ _ l).bind fun i r _ => (tx_tail r).bind fun _ r _ => (pairs_tail bound n (i + 1) r).map _

/-! ### numbers as bytes -/
def low (n : Nat) : Nat → List UInt8
  | 0 => []
  | k + 1 => UInt8.ofNat (n % 256) :: low (n / 256) k
theorem low_length (n k : Nat) : (low n k).length = k := by
  induction k generalizing n with
  | zero => rfl
  | succ k ih => simp [low, ih]
theorem low_leN (l : List UInt8) : low (Sip.leN l) l.length = l := by
  induction l with
  | nil => rfl
  | cons b l ih =>
    have hb := b.toNat_lt
    simp only [Sip.leN, List.length_cons, low]
    rw [show (Sip.leN l * 256 + b.toNat) % 256 = b.toNat by omega, show (Sip.leN l * 256 + b.toNat) / 256 = Sip.leN l by omega, ih]
    simp
theorem leN_low (n k : Nat) : Sip.leN (low n k) = n % 2 ^ (8 * k) := by
  induction k generalizing n with
  | zero => simp [low, Sip.leN]; omega
  | succ k ih =>
    simp only [low, Sip.leN, ih]
    rw [show 8 * (k + 1) = 8 + 8 * k by omega, Nat.pow_add, UInt8.toNat_ofNat', show (2 : Nat) ^ 8 = 256 from rfl, Nat.mod_mul]
    omega
theorem low_get (n k i : Nat) (h : i < k) : nth (low n k) i = UInt8.ofNat (n / 256 ^ i % 256) := by
  induction k generalizing n i with
  | zero => omega
  | succ k ih =>
    cases i with
    | zero => simp [low, nth]
    | succ i =>
      have := ih (n / 256) i (by omega)
      simp only [nth, low, List.getD_cons_succ] at this ⊢
      rw [this, Nat.div_div_eq_div_mul, Nat.pow_succ, Nat.mul_comm 256]
/-- a number as bytes -/
def sizeB (n : Nat) : List UInt8 :=
  if n < 253 then [UInt8.ofNat n] else if n < 65536 then 253 :: low n 2 else if n < 4294967296 then 254 :: low n 4 else 255 :: low n 8
theorem leN_two (u : List UInt8) (h : u.length = 2) : Sip.leN u < 65536 := by have := Sip.leN_lt u; rw [h] at this; exact this
theorem leN_four (u : List UInt8) (h : u.length = 4) : Sip.leN u < 4294967296 := by have := Sip.leN_lt u; rw [h] at this; exact this
theorem leN_eight (u : List UInt8) (h : u.length = 8) : Sip.leN u < 18446744073709551616 := by have := Sip.leN_lt u; rw [h] at this; exact this
/-- the reference's test on a size is the program's -/
theorem sizeB_eq (b : UInt8) (u : List UInt8) (hb : ¬ b < 253) (hu : u.length = more b) : sizeB (Sip.leN u) = b :: u ↔ least b ≤ Sip.leN u := by
  have hlow := low_leN u
  have hbn : b = 253 ∨ b = 254 ∨ b = 255 := by
    have h1 : ¬ b.toNat < 253 := fun h => hb (UInt8.lt_iff_toNat_lt.2 h)
    have h2 := b.toNat_lt
    have h3 : b.toNat = 253 ∨ b.toNat = 254 ∨ b.toNat = 255 := by omega
    rcases h3 with h | h | h
    · exact .inl (UInt8.toNat_inj.1 h)
    · exact .inr (.inl (UInt8.toNat_inj.1 h))
    · exact .inr (.inr (UInt8.toNat_inj.1 h))
  unfold sizeB
  rcases hbn with rfl | rfl | rfl
  · have hu' : u.length = 2 := hu
    have hl := leN_two u hu'
    rw [hu'] at hlow
    show _ ↔ 253 ≤ _
    by_cases h : Sip.leN u < 253
    · rw [if_pos h]; exact ⟨fun e => by have := congrArg List.length e; simp [hu'] at this, fun e => by omega⟩
    · rw [if_neg h, if_pos hl, hlow]; exact ⟨fun _ => by omega, fun _ => rfl⟩
  · have hu' : u.length = 4 := hu
    have hl := leN_four u hu'
    rw [hu'] at hlow
    show _ ↔ 65536 ≤ _
    by_cases h : Sip.leN u < 253
    · rw [if_pos h]; exact ⟨fun e => by have := congrArg List.length e; simp [hu'] at this, fun e => by omega⟩
    · rw [if_neg h]
      by_cases h2 : Sip.leN u < 65536
      · rw [if_pos h2]; exact ⟨fun e => by have := congrArg List.length e; simp [hu', low_length] at this, fun e => by omega⟩
      · rw [if_neg h2, if_pos hl, hlow]; exact ⟨fun _ => by omega, fun _ => rfl⟩
  · have hu' : u.length = 8 := hu
    have hl := leN_eight u hu'
    rw [hu'] at hlow
    show _ ↔ 4294967296 ≤ _
    by_cases h : Sip.leN u < 253
    · rw [if_pos h]; exact ⟨fun e => by have := congrArg List.length e; simp [hu'] at this, fun e => by omega⟩
    · rw [if_neg h]
      by_cases h2 : Sip.leN u < 65536
      · rw [if_pos h2]; exact ⟨fun e => by have := congrArg List.length e; simp [hu', low_length] at this, fun e => by omega⟩
      · rw [if_neg h2]
        by_cases h3 : Sip.leN u < 4294967296
        · rw [if_pos h3]; exact ⟨fun e => by have := congrArg List.length e; simp [hu', low_length] at this, fun e => by omega⟩
        · rw [if_neg h3, hlow]; exact ⟨fun _ => by omega, fun _ => rfl⟩
end Wr
end Go.Proofs.YtlpcjiollnnmgabGreatDoor
