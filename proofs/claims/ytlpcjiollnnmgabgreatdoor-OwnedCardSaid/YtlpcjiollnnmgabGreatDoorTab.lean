/-
  THE TABLES OF SHA-256 OUT OF ROOTS OF PRIMES, in plain Lean, number by number as the reference works them out; what they come to. Nothing of the program.
-/
namespace Go.Proofs.YtlpcjiollnnmgabGreatDoor
namespace Tab
def dg (l : List Nat) (i : Nat) : Nat := l.getD i 0
/-- one number of a (at i) with all of b: what is out by then, the carry -/
def inner (x : Nat) (i : Nat) : List Nat → Nat → List Nat → Nat → List Nat × Nat
  | [], _, out, c => (out, c)
  | y :: b, j, out, c => inner x i b (j + 1) (out.set (i + j) ((dg out (i + j) + x * y + c) % 65536)) ((dg out (i + j) + x * y + c) / 65536)
def outer (b : List Nat) : List Nat → Nat → List Nat → List Nat
  | [], _, out => out
  | x :: a, i, out => outer b a (i + 1) ((inner x i b 0 out 0).1.set (i + b.length) (dg (inner x i b 0 out 0).1 (i + b.length) + (inner x i b 0 out 0).2))
def times (a b : List Nat) : List Nat := outer b a 0 (List.replicate (a.length + b.length) 0)
def aboveN (a b : List Nat) : Nat → Bool
  | 0 => false
  | k + 1 => if dg a k = dg b k then aboveN a b k else decide (dg b k < dg a k)
def above (a b : List Nat) : Bool := aboveN a b (max a.length b.length)
def dig (x : Nat) : List Nat := [x % 65536, x / 65536 % 65536, x / 65536 / 65536]
def pow (d : List Nat) : Nat → List Nat
  | 0 => d
  | k + 1 => times (pow d k) d
def goal (p power : Nat) : List Nat := List.replicate (2 * power) 0 ++ [p]
/-- bits from 2^(n-1) down -/
def bits (g : List Nat) (power : Nat) : Nat → Nat → Nat
  | 0, r => r
  | n + 1, r => bits g power n (if above (pow (dig (r + 2 ^ n)) (power - 1)) g then r else r + 2 ^ n)
def root (p power : Nat) : Nat := bits (goal p power) power 37 0 % 4294967296
def primes : List Nat := [2,3,5,7,11,13,17,19,23,29,31,37,41,43,47,53,59,61,67,71,73,79,83,89,97,101,103,107,109,113,127,131,137,139,149,151,157,163,167,173,179,181,191,193,197,199,211,223,227,229,233,239,241,251,257,263,269,271,277,281,283,293,307,311]
def K : List Nat := [1116352408, 1899447441, 3049323471, 3921009573, 961987163, 1508970993, 2453635748, 2870763221, 3624381080, 310598401, 607225278, 1426881987, 1925078388, 2162078206, 2614888103, 3248222580, 3835390401, 4022224774, 264347078, 604807628, 770255983, 1249150122, 1555081692, 1996064986, 2554220882, 2821834349, 2952996808, 3210313671, 3336571891, 3584528711, 113926993, 338241895, 666307205, 773529912, 1294757372, 1396182291, 1695183700, 1986661051, 2177026350, 2456956037, 2730485921, 2820302411, 3259730800, 3345764771, 3516065817, 3600352804, 4094571909, 275423344, 430227734, 506948616, 659060556, 883997877, 958139571, 1322822218, 1537002063, 1747873779, 1955562222, 2024104815, 2227730452, 2361852424, 2428436474, 2756734187, 3204031479, 3329325298]
def H : List Nat := [1779033703, 3144134277, 1013904242, 2773480762, 1359893119, 2600822924, 528734635, 1541459225]
/-! ### what the digits say -/
def val : List Nat → Nat
  | [] => 0
  | x :: l => x + 65536 * val l
theorem dg_cons (x : Nat) (l : List Nat) (k : Nat) : dg (x :: l) (k + 1) = dg l k := by simp [dg]
theorem val_set (l : List Nat) (k v : Nat) (h : k < l.length) : val (l.set k v) + dg l k * 65536 ^ k = val l + v * 65536 ^ k := by
  induction l generalizing k with
  | nil => simp at h
  | cons x l ih =>
    cases k with
    | zero => simp [val, dg]; omega
    | succ k =>
      have := ih k (by simpa using h)
      rw [List.set_cons_succ, val, val, dg_cons, Nat.pow_succ]
      generalize 65536 ^ k = P at *
      rw [← Nat.mul_assoc, ← Nat.mul_assoc]
      generalize dg l k * P = A at *
      generalize v * P = C at *
      omega
theorem inner_length (x i : Nat) (b : List Nat) : ∀ (j : Nat) (out : List Nat) (c : Nat), (inner x i b j out c).1.length = out.length := by
  induction b with
  | nil => intro j out c; rfl
  | cons y b ih => intro j out c; rw [inner, ih, List.length_set]
theorem inner_val (x i : Nat) (b : List Nat) : ∀ (j : Nat) (out : List Nat) (c : Nat), i + j + b.length ≤ out.length →
    val (inner x i b j out c).1 + (inner x i b j out c).2 * 65536 ^ (i + j + b.length) = val out + x * val b * 65536 ^ (i + j) + c * 65536 ^ (i + j) := by
  induction b with
  | nil => intro j out c _; simp [inner, val]
  | cons y b ih =>
    intro j out c h
    rw [List.length_cons] at h ⊢
    have h1 := ih (j + 1) (out.set (i + j) ((dg out (i + j) + x * y + c) % 65536)) ((dg out (i + j) + x * y + c) / 65536) (by rw [List.length_set]; omega)
    have h2 := val_set out (i + j) ((dg out (i + j) + x * y + c) % 65536) (by omega)
    rw [inner]
    rw [show i + j + (b.length + 1) = i + (j + 1) + b.length by omega, h1]
    rw [show i + (j + 1) = (i + j) + 1 by omega, Nat.pow_succ]
    have h3 := Nat.div_add_mod (dg out (i + j) + x * y + c) 65536
    generalize (dg out (i + j) + x * y + c) % 65536 = m at *
    generalize (dg out (i + j) + x * y + c) / 65536 = q at *
    generalize 65536 ^ (i + j) = P at *
    rw [val]
    have h4 : (65536 * q + m) * P = (dg out (i + j) + x * y + c) * P := by rw [h3]
    have e1 : x * val b * (P * 65536) = 65536 * (x * val b * P) := by rw [← Nat.mul_assoc, Nat.mul_comm]
    have e2 : q * (P * 65536) = 65536 * (q * P) := by rw [← Nat.mul_assoc, Nat.mul_comm]
    have e3 : x * (y + 65536 * val b) * P = x * y * P + 65536 * (x * val b * P) := by
      rw [Nat.mul_add, Nat.add_mul, Nat.mul_left_comm x 65536, Nat.mul_assoc 65536]
    have e4 : (65536 * q + m) * P = 65536 * (q * P) + m * P := by rw [Nat.add_mul, Nat.mul_assoc]
    have e5 : (dg out (i + j) + x * y + c) * P = dg out (i + j) * P + x * y * P + c * P := by rw [Nat.add_mul, Nat.add_mul]
    rw [e1, e2, e3]
    rw [e4, e5] at h4
    omega
theorem outer_val (b : List Nat) : ∀ (a : List Nat) (i : Nat) (out : List Nat), i + a.length + b.length ≤ out.length → val (outer b a i out) = val out + val a * val b * 65536 ^ i := by
  intro a
  induction a with
  | nil => intro i out _; simp [outer, val]
  | cons x a ih =>
    intro i out h
    rw [List.length_cons] at h
    have hl := inner_length x i b 0 out 0
    have hv := inner_val x i b 0 out 0 (by omega)
    rw [outer, ih (i + 1) _ (by rw [List.length_set, hl]; omega)]
    have hs := val_set (inner x i b 0 out 0).1 (i + b.length) (dg (inner x i b 0 out 0).1 (i + b.length) + (inner x i b 0 out 0).2) (by omega)
    generalize inner x i b 0 out 0 = r at *
    rw [Nat.add_zero] at hv
    rw [Nat.add_mul] at hs
    rw [val, Nat.pow_succ]
    have e1 : val a * val b * (65536 ^ i * 65536) = 65536 * (val a * val b * 65536 ^ i) := by rw [← Nat.mul_assoc, Nat.mul_comm]
    have e2 : (x + 65536 * val a) * val b * 65536 ^ i = x * val b * 65536 ^ i + 65536 * (val a * val b * 65536 ^ i) := by
      rw [Nat.add_mul, Nat.add_mul, Nat.mul_assoc 65536, Nat.mul_assoc 65536]
    rw [e1, e2]
    omega
theorem val_zeros (n : Nat) : val (List.replicate n 0) = 0 := by
  induction n with
  | zero => rfl
  | succ n ih => simp [List.replicate_succ, val, ih]
theorem times_val (a b : List Nat) : val (times a b) = val a * val b := by
  unfold times
  rw [outer_val b a 0 _ (by simp), val_zeros]; simp
/-! ### the digits' bounds -/
theorem dg_set (l : List Nat) (i n k : Nat) : dg (l.set i n) k = if i = k ∧ k < l.length then n else dg l k := by
  unfold dg
  rw [List.getD_eq_getElem?_getD, List.getD_eq_getElem?_getD, List.getElem?_set]
  by_cases h : i = k
  · subst h
    by_cases h2 : i < l.length
    · simp [h2]
    · simp [h2]
  · simp [h]
theorem dg_big (l : List Nat) (i : Nat) (h : l.length ≤ i) : dg l i = 0 := by
  unfold dg; rw [List.getD_eq_getElem?_getD, List.getElem?_eq_none h]; rfl
theorem dg_drop (l : List Nat) (i : Nat) (h : i < l.length) : l.drop i = dg l i :: l.drop (i + 1) := by
  rw [List.drop_eq_getElem_cons h]; unfold dg; rw [List.getD_eq_getElem?_getD, List.getElem?_eq_getElem h]; rfl
/-- what holds of what is out: its length; below 65536; nothing from n on -/
structure Outs (l : List Nat) (len n : Nat) : Prop where
  len : l.length = len
  lt : ∀ k, dg l k < 65536
  zero : ∀ k, n ≤ k → dg l k = 0
theorem Outs.set {l : List Nat} {len n i v : Nat} (h : Outs l len n) (hi : i < n) (hv : v < 65536) : Outs (l.set i v) len n :=
  ⟨by rw [List.length_set]; exact h.len, fun k => by rw [dg_set]; split; exact hv; exact h.lt k, fun k hk => by rw [dg_set, if_neg (by omega)]; exact h.zero k hk⟩
theorem Outs.mono {l : List Nat} {len n m : Nat} (h : Outs l len n) (hm : n ≤ m) : Outs l len m := ⟨h.len, h.lt, fun k hk => h.zero k (by omega)⟩
theorem mul_lt {x y : Nat} (hx : x < 65536) (hy : y < 65536) : x * y ≤ 4294836225 :=
  Nat.le_trans (Nat.mul_le_mul (show x ≤ 65535 by omega) (show y ≤ 65535 by omega)) (by decide)
theorem inner_outs (x i : Nat) (hx : x < 65536) (len n : Nat) (b : List Nat) : ∀ (j : Nat) (out : List Nat) (c : Nat), (∀ k, dg b k < 65536) → c < 65536 → i + j + b.length ≤ n → Outs out len n →
    Outs (inner x i b j out c).1 len n ∧ (inner x i b j out c).2 < 65536 := by
  induction b with
  | nil => intro j out c _ hc _ ho; exact ⟨ho, hc⟩
  | cons y b ih =>
    intro j out c hb hc hn ho
    rw [List.length_cons] at hn
    have hy : y < 65536 := hb 0
    have := ho.lt (i + j)
    have := mul_lt hx hy
    rw [inner]
    exact ih _ _ _ (fun k => by have := hb (k + 1); rwa [dg_cons] at this) (by omega) (by omega) (ho.set (by omega) (by omega))
theorem outer_outs (b : List Nat) (hb : ∀ k, dg b k < 65536) (len : Nat) : ∀ (a : List Nat) (i : Nat) (out : List Nat), (∀ k, dg a k < 65536) → Outs out len (i + b.length) → Outs (outer b a i out) len (i + a.length + b.length) := by
  intro a
  induction a with
  | nil => intro i out _ ho; exact ho.mono (by simp)
  | cons x a ih =>
    intro i out ha ho
    have hx : x < 65536 := ha 0
    obtain ⟨h1, h2⟩ := inner_outs x i hx len (i + b.length) b 0 out 0 hb (by omega) (by omega) ho
    have hz := h1.zero (i + b.length) (Nat.le_refl _)
    rw [outer]
    have := ih (i + 1) _ (fun k => by have := ha (k + 1); rwa [dg_cons] at this) ((h1.mono (show i + b.length ≤ i + 1 + b.length by omega)).set (i := i + b.length) (v := dg (inner x i b 0 out 0).1 (i + b.length) + (inner x i b 0 out 0).2) (by omega) (by omega))
    rw [List.length_cons]
    rw [show i + (a.length + 1) + b.length = i + 1 + a.length + b.length by omega]
    exact this
theorem zeros_outs (n m : Nat) : Outs (List.replicate n 0) n m :=
  ⟨by simp, fun k => by unfold dg; rw [List.getD_eq_getElem?_getD, List.getElem?_replicate]; split <;> decide, fun k _ => by unfold dg; rw [List.getD_eq_getElem?_getD, List.getElem?_replicate]; split <;> rfl⟩
theorem times_outs (a b : List Nat) (ha : ∀ k, dg a k < 65536) (hb : ∀ k, dg b k < 65536) : Outs (times a b) (a.length + b.length) (a.length + b.length) := by
  have := outer_outs b hb (a.length + b.length) a 0 _ ha (zeros_outs _ _)
  rw [Nat.zero_add] at this
  exact this
/-! ### above -/
def low (l : List Nat) : Nat → Nat
  | 0 => 0
  | k + 1 => low l k + dg l k * 65536 ^ k
theorem low_lt (l : List Nat) (h : ∀ k, dg l k < 65536) : ∀ k, low l k < 65536 ^ k
  | 0 => by simp [low]
  | k + 1 => by
    have h1 := low_lt l h k
    have h2 : (dg l k + 1) * 65536 ^ k ≤ 65536 * 65536 ^ k := Nat.mul_le_mul_right _ (h k)
    rw [low, Nat.pow_succ, Nat.mul_comm _ 65536]
    rw [Nat.add_mul] at h2
    omega
theorem low_cons (x : Nat) (l : List Nat) : ∀ k, low (x :: l) (k + 1) = x + 65536 * low l k
  | 0 => by simp [low, dg]
  | k + 1 => by
    rw [low, low_cons x l k, dg_cons, low, Nat.pow_succ, Nat.mul_add, ← Nat.mul_assoc, Nat.mul_comm _ 65536]
    omega
theorem low_val : ∀ (l : List Nat) (k : Nat), l.length ≤ k → low l k = val l
  | [], k, _ => by
    induction k with
    | zero => rfl
    | succ k ih => rw [low, ih (by simp)]; simp [dg, val]
  | x :: l, k, h => by
    obtain ⟨k, rfl⟩ : ∃ j, k = j + 1 := ⟨k - 1, by simp at h; omega⟩
    rw [low_cons, low_val l k (by simpa using h), val]
theorem aboveN_low (a b : List Nat) (ha : ∀ k, dg a k < 65536) (hb : ∀ k, dg b k < 65536) : ∀ k, aboveN a b k = decide (low b k < low a k)
  | 0 => rfl
  | k + 1 => by
    have h1 := low_lt a ha k
    have h2 := low_lt b hb k
    rw [aboveN, low, low]
    by_cases h : dg a k = dg b k
    · rw [if_pos h, aboveN_low a b ha hb k, h]
      rw [decide_eq_decide]; omega
    · rw [if_neg h, decide_eq_decide]
      generalize 65536 ^ k = P at *
      constructor
      · intro h3
        have h4 : (dg b k + 1) * P ≤ dg a k * P := Nat.mul_le_mul_right _ h3
        rw [Nat.add_mul] at h4
        omega
      · intro h3
        apply Classical.byContradiction
        intro h4
        have h5 : (dg a k + 1) * P ≤ dg b k * P := Nat.mul_le_mul_right _ (by omega)
        rw [Nat.add_mul] at h5
        omega
theorem above_val (a b : List Nat) (ha : ∀ k, dg a k < 65536) (hb : ∀ k, dg b k < 65536) : above a b = decide (val b < val a) := by
  unfold above
  rw [aboveN_low a b ha hb, low_val a _ (Nat.le_max_left _ _), low_val b _ (Nat.le_max_right _ _)]
/-! ### the root -/
theorem dig_lt (x : Nat) (h : x < 281474976710656) : ∀ k, dg (dig x) k < 65536
  | 0 => Nat.mod_lt _ (by decide)
  | 1 => Nat.mod_lt _ (by decide)
  | 2 => by show x / 65536 / 65536 < 65536; omega
  | k + 3 => by rw [dg_big _ _ (by simp [dig])]; decide
theorem dig_val (x : Nat) : val (dig x) = x := by simp [dig, val]; omega
theorem pow_outs (d : List Nat) (hd : ∀ k, dg d k < 65536) : ∀ n, ∀ k, dg (pow d n) k < 65536
  | 0 => hd
  | n + 1 => (times_outs _ _ (pow_outs d hd n) hd).lt
theorem pow_val (d : List Nat) : ∀ n, val (pow d n) = val d ^ (n + 1)
  | 0 => by simp [pow]
  | n + 1 => by rw [pow, times_val, pow_val d n, ← Nat.pow_succ]
theorem pow_length (d : List Nat) : ∀ n, (pow d n).length = (n + 1) * d.length
  | 0 => by simp [pow]
  | n + 1 => by
    have : ∀ a b : List Nat, (times a b).length = a.length + b.length := fun a b => by
      unfold times
      have : ∀ (a : List Nat) (i : Nat) (out : List Nat), (outer b a i out).length = out.length := by
        intro a
        induction a with
        | nil => intro i out; rfl
        | cons x a ih => intro i out; rw [outer, ih, List.length_set, inner_length]
      rw [this]; simp
    rw [pow, this, pow_length d n, Nat.add_mul (n + 1) 1]; omega
theorem val_append (l m : List Nat) : val (l ++ m) = val l + 65536 ^ l.length * val m := by
  induction l with
  | nil => simp [val]
  | cons x l ih => rw [List.cons_append, val, ih, val, List.length_cons, Nat.pow_succ, Nat.mul_add, Nat.mul_comm _ 65536, Nat.mul_assoc]; omega
theorem goal_lt (p power : Nat) (hp : p < 65536) : ∀ k, dg (goal p power) k < 65536 := by
  intro k
  unfold goal dg
  rw [List.getD_eq_getElem?_getD, List.getElem?_append]
  split
  · rw [List.getElem?_replicate]; split <;> decide
  · rename_i h
    cases hk : k - (List.replicate (2 * power) 0).length with
    | zero => simpa using hp
    | succ n => simp
theorem goal_val (p power : Nat) : val (goal p power) = 65536 ^ (2 * power) * p := by
  unfold goal
  rw [val_append, val_zeros, List.length_replicate]; simp [val]
def bitsN (g power : Nat) : Nat → Nat → Nat
  | 0, r => r
  | n + 1, r => bitsN g power n (if g < (r + 2 ^ n) ^ power then r else r + 2 ^ n)
theorem bits_val (g : List Nat) (hg : ∀ k, dg g k < 65536) (power : Nat) (hp : 0 < power) : ∀ (n r : Nat), r + 2 ^ n ≤ 281474976710656 → bits g power n r = bitsN (val g) power n r
  | 0, r, _ => rfl
  | n + 1, r, h => by
    rw [Nat.pow_succ] at h
    have h0 : 0 < 2 ^ n := Nat.pow_pos (by decide)
    have hd := dig_lt (r + 2 ^ n) (by omega)
    rw [bits, bitsN, above_val _ _ (pow_outs _ hd _) hg, pow_val, dig_val, Nat.sub_add_cancel hp]
    simp only [decide_eq_true_eq]
    split
    · exact bits_val g hg power hp n r (by omega)
    · exact bits_val g hg power hp n _ (by omega)
theorem root_val (p power : Nat) (hp : p < 65536) (h0 : 0 < power) : root p power = bitsN (65536 ^ (2 * power) * p) power 37 0 % 4294967296 := by
  unfold root
  rw [bits_val _ (goal_lt p power hp) power h0 37 0 (by decide), goal_val]
theorem primes_lt : ∀ p ∈ primes, p < 65536 := by decide +kernel
theorem Hall : (primes.take 8).map (fun p => root p 2) = H := by
  have : (primes.take 8).map (fun p => root p 2) = (primes.take 8).map (fun p => bitsN (65536 ^ (2 * 2) * p) 2 37 0 % 4294967296) :=
    List.map_congr_left fun p hp => root_val p 2 (primes_lt p (List.mem_of_mem_take hp)) (by decide)
  rw [this]; decide +kernel
theorem Kall : primes.map (fun p => root p 3) = K := by
  have : primes.map (fun p => root p 3) = primes.map (fun p => bitsN (65536 ^ (2 * 3) * p) 3 37 0 % 4294967296) :=
    List.map_congr_left fun p hp => root_val p 3 (primes_lt p hp) (by decide)
  rw [this]; decide +kernel
/-- the primes below p, found one by one: is p one? -/
def fresh (l : List Nat) (p : Nat) : Bool := l.all fun q => p % q != 0
def found (l : List Nat) (p : Nat) : List Nat := if fresh l p then l ++ [p] else l
/-- p from 2 on, n of them -/
def sieve : Nat → List Nat
  | 0 => []
  | n + 1 => found (sieve n) (n + 2)
theorem sieve_all : sieve 310 = primes := by decide +kernel
theorem sieve_len : ∀ n, n < 310 → (sieve n).length < 64 := by decide +kernel
end Tab
end Go.Proofs.YtlpcjiollnnmgabGreatDoor
