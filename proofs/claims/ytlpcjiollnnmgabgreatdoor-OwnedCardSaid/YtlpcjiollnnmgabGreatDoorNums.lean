/-
  NUMBERS IN A WALK, WITHOUT LINEAR ARITHMETIC: a uint64, a uint32, a byte stands in a slot as 'U x', 'V x', 'Y x' (x of Lean's own UInt64, UInt32, UInt8); the walk's set gets a rule for each operation on them. Plain Lean; nothing of the program.
-/
import Derived.WalkKit
import Derived.Lib.Hide
import Derived.WalkSpells
import Derived.WalkLawsBesides
import Derived.Deep.DeepCutAuto
import Derived.Deep.RegionLaw
import Derived.Deep.RegionHeld3
import Derived.Deep.QuietTactic
import Derived.BigQuiet
import Derived.StillTailTactics
namespace Go.Proofs.YtlpcjiollnnmgabGreatDoor

/-- a byte, a uint32, a uint64, as the number in a slot -/
def Y (x : UInt8) : Int := (x.toNat : Int)
def V (x : UInt32) : Int := (x.toNat : Int)
def U (x : UInt64) : Int := (x.toNat : Int)

namespace Nums
def shl (x : UInt64) (n : Nat) : UInt64 := UInt64.ofNat (x.toNat * 2 ^ n)
def shr (x : UInt64) (n : Nat) : UInt64 := UInt64.ofNat (x.toNat / 2 ^ n)
def rotl (x : UInt64) (n : Nat) : UInt64 := shl x n ||| shr x (64 - n)
def shl32 (x : UInt32) (n : Nat) : UInt32 := UInt32.ofNat (x.toNat * 2 ^ n)
def shr32 (x : UInt32) (n : Nat) : UInt32 := UInt32.ofNat (x.toNat / 2 ^ n)
def rotr32 (x : UInt32) (n : Nat) : UInt32 := shr32 x n ||| shl32 x (32 - n)

theorem U_lt (x : UInt64) : 0 ≤ U x ∧ U x < 18446744073709551616 := by
  have := x.toNat_lt; unfold U; omega
theorem V_lt (x : UInt32) : 0 ≤ V x ∧ V x < 4294967296 := by
  have := x.toNat_lt; unfold V; omega
theorem Y_lt (x : UInt8) : 0 ≤ Y x ∧ Y x < 256 := by
  have := x.toNat_lt; unfold Y; omega

theorem U_inj {x y : UInt64} (h : U x = U y) : x = y := by
  unfold U at h; exact UInt64.toNat_inj.1 (by omega)
theorem V_inj {x y : UInt32} (h : V x = V y) : x = y := by
  unfold V at h; exact UInt32.toNat_inj.1 (by omega)
theorem Y_inj {x y : UInt8} (h : Y x = Y y) : x = y := by
  unfold Y at h; exact UInt8.toNat_inj.1 (by omega)

@[go_sem] theorem U_beq (x y : UInt64) : (U x == U y) = (x == y) := by
  rw [Bool.eq_iff_iff]; simp only [beq_iff_eq]; exact ⟨U_inj, fun h => by rw [h]⟩
@[go_sem] theorem Y_beq (x y : UInt8) : (Y x == Y y) = (x == y) := by
  rw [Bool.eq_iff_iff]; simp only [beq_iff_eq]; exact ⟨Y_inj, fun h => by rw [h]⟩
@[go_sem] theorem V_beq (x y : UInt32) : (V x == V y) = (x == y) := by
  rw [Bool.eq_iff_iff]; simp only [beq_iff_eq]; exact ⟨V_inj, fun h => by rw [h]⟩

@[go_sem] theorem Y_intro (x : UInt8) : ((x.toNat : Nat) : Int) = Y x := rfl

/-! ### uint64 -/
theorem U_nat (n : Nat) : U (UInt64.ofNat n) = ((n % 18446744073709551616 : Nat) : Int) := by unfold U; rw [UInt64.toNat_ofNat']
theorem u64_wrap (n : Nat) : IntKind.u64.wrap (n : Int) = U (UInt64.ofNat n) := by
  rw [IntKind.wrap_u64, U_nat]; omega
@[go_sem] theorem u64_add (x y : UInt64) : IntKind.u64.wrap (U x + U y) = U (x + y) := by
  rw [IntKind.wrap_u64]; unfold U; rw [UInt64.toNat_add]; omega
theorem u64_mul (x y : UInt64) : IntKind.u64.wrap (U x * U y) = U (x * y) := by
  rw [IntKind.wrap_u64]; unfold U; rw [UInt64.toNat_mul]; omega
@[go_sem] theorem u64_sub (x y : UInt64) : IntKind.u64.wrap (U x - U y) = U (x - y) := by
  rw [IntKind.wrap_u64]; unfold U; rw [UInt64.toNat_sub]; have := x.toNat_lt; have := y.toNat_lt; omega
@[go_sem] theorem u64_xor' (x y : UInt64) : bits .xor .u64 (U x) (U y) = U (x ^^^ y) := by
  unfold U; rw [u64_xor_nat _ _ x.toNat_lt y.toNat_lt, UInt64.toNat_xor]
@[go_sem] theorem u64_or' (x y : UInt64) : bits .or .u64 (U x) (U y) = U (x ||| y) := by
  unfold U; rw [u64_or_nat _ _ x.toNat_lt y.toNat_lt, UInt64.toNat_or]
@[go_sem] theorem u64_and' (x y : UInt64) : bits .and .u64 (U x) (U y) = U (x &&& y) := by
  unfold U; rw [u64_and_nat _ _ x.toNat_lt y.toNat_lt, UInt64.toNat_and]
@[go_sem] theorem u64_shl (x : UInt64) (n : Nat) : IntKind.u64.wrap (U x * 2 ^ n) = U (shl x n) := by
  rw [IntKind.wrap_u64]; unfold shl; rw [U_nat, Int.natCast_emod, Int.natCast_mul, Int.natCast_pow]; rfl
theorem u64_shr (x : UInt64) (n : Nat) : (U x).fdiv (2 ^ n) = U (shr x n) := by
  unfold shr; rw [U_nat]; unfold U
  have h : x.toNat / 2 ^ n < 18446744073709551616 := Nat.lt_of_le_of_lt (Nat.div_le_self _ _) x.toNat_lt
  rw [Nat.mod_eq_of_lt h, Int.fdiv_eq_ediv_of_nonneg _ (Int.pow_nonneg (by decide)), Int.natCast_ediv, Int.natCast_pow]; rfl
@[go_sem] theorem u64_shr' (x : UInt64) (n : Nat) : U x / 2 ^ n = U (shr x n) := by
  rw [← u64_shr, Int.fdiv_eq_ediv_of_nonneg _ (Int.pow_nonneg (by decide))]
theorem shl_big (x : UInt64) (n : Nat) (h : 64 ≤ n) : shl x n = 0 := by
  unfold shl
  have : x.toNat * 2 ^ n = 18446744073709551616 * (x.toNat * 2 ^ (n - 64)) := by
    have e : n = 64 + (n - 64) := by omega
    rw [e, Nat.pow_add]; simp only [Nat.add_sub_cancel_left]
    show x.toNat * (18446744073709551616 * 2 ^ (n - 64)) = _
    rw [Nat.mul_left_comm]
  apply UInt64.toNat_inj.1
  rw [UInt64.toNat_ofNat', this]; exact Nat.mul_mod_right _ _
theorem shr_big (x : UInt64) (n : Nat) (h : 64 ≤ n) : shr x n = 0 := by
  unfold shr
  have : x.toNat / 2 ^ n = 0 := by
    apply Nat.div_eq_of_lt
    exact Nat.lt_of_lt_of_le x.toNat_lt (Nat.pow_le_pow_right (by decide) h)
  rw [this]; rfl

/-- any integer as a uint64 -/
def toU (y : Int) : UInt64 := UInt64.ofNat (y % 18446744073709551616).toNat
theorem U_toU (y : Int) : U (toU y) = y % 18446744073709551616 := by
  unfold toU; rw [U_nat]; omega
@[go_sem] theorem toU_U (x : UInt64) : toU (U x) = x := by
  apply U_inj; rw [U_toU]; have := U_lt x; omega
@[go_sem] theorem toU_nat (n : Nat) : toU (n : Int) = UInt64.ofNat n := by
  apply U_inj; rw [U_toU, U_nat]; omega
theorem ofInt_toU (y : Int) : BitVec.ofInt 64 (U (toU y)) = BitVec.ofInt 64 y := by
  apply BitVec.eq_of_toNat_eq; rw [BitVec.toNat_ofInt, BitVec.toNat_ofInt, U_toU]
  have e : ((2 ^ 64 : Nat) : Int) = 18446744073709551616 := rfl
  rw [e, Int.emod_emod]
theorem bits_toU (op : BinOp) (x y : Int) : bits op .u64 x (U (toU y)) = bits op .u64 x y := by
  have e' : BitVec.ofInt IntKind.u64.bits (U (toU y)) = BitVec.ofInt IntKind.u64.bits y := ofInt_toU y
  unfold bits; rw [e']
section
variable (t : TypeId) (x : UInt64) (y : Int)
@[go_sem high] theorem op_u64_xor : binOp .xor t (.int .u64 (U x)) (.int .u64 y) = pure (.int .u64 (U (x ^^^ toU y))) := by
  rw [← u64_xor', bits_toU]; rfl
@[go_sem high] theorem op_u64_or : binOp .or t (.int .u64 (U x)) (.int .u64 y) = pure (.int .u64 (U (x ||| toU y))) := by
  rw [← u64_or', bits_toU]; rfl
@[go_sem high] theorem op_u64_and : binOp .and t (.int .u64 (U x)) (.int .u64 y) = pure (.int .u64 (U (x &&& toU y))) := by
  rw [← u64_and', bits_toU]; rfl
@[go_sem high] theorem op_u64_add : binOp .add t (.int .u64 (U x)) (.int .u64 y) = pure (.int .u64 (U (x + toU y))) := by
  have e : IntKind.u64.wrap (U x + y) = U (x + toU y) := by
    rw [← u64_add, IntKind.wrap_u64, IntKind.wrap_u64, U_toU]; omega
  simp only [binOp, Op.intArith, e]; rfl
@[go_sem high] theorem op_u64_sub : binOp .sub t (.int .u64 y) (.int .u64 (U x)) = pure (.int .u64 (U (toU y - x))) := by
  have e : IntKind.u64.wrap (y - U x) = U (toU y - x) := by
    rw [← u64_sub, IntKind.wrap_u64, IntKind.wrap_u64, U_toU]; omega
  simp only [binOp, Op.intArith, e]; rfl
@[go_sem high] theorem op_u64_mul : binOp .mul t (.int .u64 (U x)) (.int .u64 y) = pure (.int .u64 (U (x * toU y))) := by
  have e : IntKind.u64.wrap (U x * y) = U (x * toU y) := by
    rw [← u64_mul, IntKind.wrap_u64, IntKind.wrap_u64, U_toU, Int.mul_emod, Int.mul_emod (U x) (y % _), Int.emod_emod]
  simp only [binOp, Op.intArith, e]; rfl
@[go_sem high] theorem op_u64_shl (yk : IntKind) (h : 0 ≤ y) : binOp .shl t (.int .u64 (U x)) (.int yk y) = pure (.int .u64 (U (shl x y.toNat))) := by
  simp only [binOp, Op.shift, if_neg (show ¬ y < 0 by omega), u64_shl]
  by_cases c : y.toNat ≤ 64
  · rw [show min y.toNat IntKind.u64.bits = y.toNat from Nat.min_eq_left c]
  · rw [show min y.toNat IntKind.u64.bits = 64 from Nat.min_eq_right (Nat.le_of_lt (Nat.lt_of_not_le c)), shl_big x 64 (by omega), shl_big x y.toNat (by omega)]
@[go_sem high] theorem op_u64_shr (yk : IntKind) (h : 0 ≤ y) : binOp .shr t (.int .u64 (U x)) (.int yk y) = pure (.int .u64 (U (shr x y.toNat))) := by
  simp only [binOp, Op.shift, if_neg (show ¬ y < 0 by omega), u64_shr]
  by_cases c : y.toNat ≤ 64
  · rw [show min y.toNat IntKind.u64.bits = y.toNat from Nat.min_eq_left c]
  · rw [show min y.toNat IntKind.u64.bits = 64 from Nat.min_eq_right (Nat.le_of_lt (Nat.lt_of_not_le c)), shr_big x 64 (by omega), shr_big x y.toNat (by omega)]
end
@[go_sem] theorem U_nonneg (x : UInt64) : 0 ≤ U x := (U_lt x).1
@[go_sem] theorem V_nonneg (x : UInt32) : 0 ≤ V x := (V_lt x).1
@[go_sem] theorem Y_nonneg (x : UInt8) : 0 ≤ Y x := (Y_lt x).1
/-- a byte, a length made a uint64 -/
@[go_sem] theorem u64_of_byte (b : UInt8) : IntKind.u64.wrap (Y b) = U b.toUInt64 := by
  unfold Y; rw [u64_wrap]; congr 1; apply UInt64.toNat_inj.1; simp
@[go_sem] theorem u64_of_nat (n : Nat) : IntKind.u64.wrap (n : Int) = U (UInt64.ofNat n) := u64_wrap n
/-- whatever else: by its remainder -/
@[go_sem low] theorem u64_of_int (y : Int) : IntKind.u64.wrap y = U (toU y) := by rw [IntKind.wrap_u64, U_toU]
@[go_sem] theorem u64_of_u64 (x : UInt64) : IntKind.u64.wrap (U x) = U x := by
  have := U_lt x; rw [IntKind.wrap_u64]; omega
@[go_sem] theorem u8_of_nat (n : Nat) : IntKind.u8.wrap (n : Int) = Y (UInt8.ofNat n) := by
  rw [IntKind.wrap_u8']; unfold Y; rw [UInt8.toNat_ofNat']; omega
@[go_sem] theorem u8_of_u64 (x : UInt64) : IntKind.u8.wrap (U x) = Y x.toUInt8 := by
  rw [IntKind.wrap_u8']; unfold Y U; rw [UInt64.toNat_toUInt8]; omega
@[go_sem] theorem u8_of_u8 (x : UInt8) : IntKind.u8.wrap (Y x) = Y x := by
  have := Y_lt x; rw [IntKind.wrap_u8']; omega
@[go_sem] theorem i64_of_u8 (x : UInt8) : IntKind.i64.wrap (Y x) = Y x := by
  have := Y_lt x; exact IntWalk.i64_in _ (by omega)

/-! ### uint32; words of 32 bits in an int -/
theorem V_nat (n : Nat) : V (UInt32.ofNat n) = ((n % 4294967296 : Nat) : Int) := by unfold V; rw [UInt32.toNat_ofNat']
def toV (y : Int) : UInt32 := UInt32.ofNat (y % 4294967296).toNat
theorem V_toV (y : Int) : V (toV y) = y % 4294967296 := by
  unfold toV; rw [V_nat]; omega
@[go_sem] theorem toV_V (x : UInt32) : toV (V x) = x := by
  apply V_inj; rw [V_toV]; have := V_lt x; omega
theorem ofInt32_toV (y : Int) : BitVec.ofInt 32 (V (toV y)) = BitVec.ofInt 32 y := by
  apply BitVec.eq_of_toNat_eq; rw [BitVec.toNat_ofInt, BitVec.toNat_ofInt, V_toV]
  have e : ((2 ^ 32 : Nat) : Int) = 4294967296 := rfl
  rw [e, Int.emod_emod]
theorem bits_toV (op : BinOp) (x y : Int) : bits op .u32 x (V (toV y)) = bits op .u32 x y := by
  have e' : BitVec.ofInt IntKind.u32.bits (V (toV y)) = BitVec.ofInt IntKind.u32.bits y := ofInt32_toV y
  unfold bits; rw [e']
@[go_sem] theorem u32_xor' (x y : UInt32) : bits .xor .u32 (V x) (V y) = V (x ^^^ y) := by
  unfold V; rw [u32_xor_nat _ _ x.toNat_lt y.toNat_lt, UInt32.toNat_xor]
@[go_sem] theorem u32_or' (x y : UInt32) : bits .or .u32 (V x) (V y) = V (x ||| y) := by
  unfold V; rw [u32_or_nat _ _ x.toNat_lt y.toNat_lt, UInt32.toNat_or]
@[go_sem] theorem u32_and' (x y : UInt32) : bits .and .u32 (V x) (V y) = V (x &&& y) := by
  unfold V; rw [u32_and_nat _ _ x.toNat_lt y.toNat_lt, UInt32.toNat_and]
theorem u32_shl (x : UInt32) (n : Nat) : IntKind.u32.wrap (V x * 2 ^ n) = V (shl32 x n) := by
  rw [IntKind.wrap_u32']; unfold shl32; rw [V_nat, Int.natCast_emod, Int.natCast_mul, Int.natCast_pow]; rfl
theorem u32_shr (x : UInt32) (n : Nat) : (V x).fdiv (2 ^ n) = V (shr32 x n) := by
  unfold shr32; rw [V_nat]; unfold V
  have h : x.toNat / 2 ^ n < 4294967296 := Nat.lt_of_le_of_lt (Nat.div_le_self _ _) x.toNat_lt
  rw [Nat.mod_eq_of_lt h, Int.fdiv_eq_ediv_of_nonneg _ (Int.pow_nonneg (by decide)), Int.natCast_ediv, Int.natCast_pow]; rfl
theorem u32_shr' (x : UInt32) (n : Nat) : V x / 2 ^ n = V (shr32 x n) := by
  rw [← u32_shr, Int.fdiv_eq_ediv_of_nonneg _ (Int.pow_nonneg (by decide))]
/-- a word turned left, not yet cut (in an int); a sum of words, not yet cut -/
def SH (x : UInt32) (n : Nat) : Int := V x * 2 ^ n
def SM : List UInt32 → Int
  | [] => 0
  | x :: l => V x + SM l
def sum32 : List UInt32 → UInt32
  | [] => 0
  | x :: l => x + sum32 l
theorem SM_lt : ∀ l : List UInt32, 0 ≤ SM l ∧ SM l ≤ 4294967296 * (l.length : Int)
  | [] => by simp [SM]
  | x :: l => by have := SM_lt l; have := V_lt x; simp only [SM, List.length_cons]; omega
theorem SM_append (l m : List UInt32) : SM (l ++ m) = SM l + SM m := by
  induction l with
  | nil => simp [SM]
  | cons x l ih => simp only [List.cons_append, SM, ih]; omega
theorem SM_mod : ∀ l : List UInt32, SM l % 4294967296 = V (sum32 l)
  | [] => rfl
  | x :: l => by
    have ih := SM_mod l
    have h : V (x + sum32 l) = (V x + V (sum32 l)) % 4294967296 := by unfold V; rw [UInt32.toNat_add]; omega
    simp only [SM, sum32]
    rw [h, ← ih]; omega
section
variable (t : TypeId) (x : UInt32) (y : Int)
@[go_sem high] theorem op_u32_xor : binOp .xor t (.int .u32 (V x)) (.int .u32 y) = pure (.int .u32 (V (x ^^^ toV y))) := by
  rw [← u32_xor', bits_toV]; rfl
@[go_sem high] theorem op_u32_or : binOp .or t (.int .u32 (V x)) (.int .u32 y) = pure (.int .u32 (V (x ||| toV y))) := by
  rw [← u32_or', bits_toV]; rfl
@[go_sem high] theorem op_u32_and : binOp .and t (.int .u32 (V x)) (.int .u32 y) = pure (.int .u32 (V (x &&& toV y))) := by
  rw [← u32_and', bits_toV]; rfl
@[go_sem high] theorem op_u32_add : binOp .add t (.int .u32 (V x)) (.int .u32 y) = pure (.int .u32 (V (x + toV y))) := by
  have e : IntKind.u32.wrap (V x + y) = V (x + toV y) := by
    have h : V (x + toV y) = (V x + V (toV y)) % 4294967296 := by unfold V; rw [UInt32.toNat_add]; omega
    rw [h, IntKind.wrap_u32', V_toV]; omega
  simp only [binOp, Op.intArith, e]; rfl
@[go_sem high] theorem op_u32_shl (yk : IntKind) (h : 0 ≤ y) (h' : y ≤ 32) : binOp .shl t (.int .u32 (V x)) (.int yk y) = pure (.int .u32 (V (shl32 x y.toNat))) := by
  simp only [binOp, Op.shift, if_neg (show ¬ y < 0 by omega), u32_shl]
  rw [show min y.toNat IntKind.u32.bits = y.toNat from Nat.min_eq_left (show y.toNat ≤ 32 by omega)]
@[go_sem high] theorem op_u32_shr (yk : IntKind) (h : 0 ≤ y) (h' : y ≤ 32) : binOp .shr t (.int .u32 (V x)) (.int yk y) = pure (.int .u32 (V (shr32 x y.toNat))) := by
  simp only [binOp, Op.shift, if_neg (show ¬ y < 0 by omega), u32_shr]
  rw [show min y.toNat IntKind.u32.bits = y.toNat from Nat.min_eq_left (show y.toNat ≤ 32 by omega)]
theorem ofInt64_V (x : UInt32) : (BitVec.ofInt 64 (V x)).toNat = x.toNat := by
  unfold V; rw [BitVec.ofInt_natCast, BitVec.toNat_ofNat]; exact Nat.mod_eq_of_lt (by have := x.toNat_lt; omega)
theorem wrap64_V (x : UInt32) : IntKind.i64.wrap (x.toNat : Int) = V x := by
  have := x.toNat_lt; exact IntWalk.i64_in _ (by omega)
@[go_sem] theorem i64_xor' (x y : UInt32) : bits .xor .i64 (V x) (V y) = V (x ^^^ y) := by
  show IntKind.i64.wrap ((BitVec.ofInt 64 (V x) ^^^ BitVec.ofInt 64 (V y)).toNat : Int) = _
  rw [BitVec.toNat_xor, ofInt64_V, ofInt64_V, ← UInt32.toNat_xor, wrap64_V]
@[go_sem] theorem i64_or' (x y : UInt32) : bits .or .i64 (V x) (V y) = V (x ||| y) := by
  show IntKind.i64.wrap ((BitVec.ofInt 64 (V x) ||| BitVec.ofInt 64 (V y)).toNat : Int) = _
  rw [BitVec.toNat_or, ofInt64_V, ofInt64_V, ← UInt32.toNat_or, wrap64_V]
@[go_sem] theorem i64_and' (x y : UInt32) : bits .and .i64 (V x) (V y) = V (x &&& y) := by
  show IntKind.i64.wrap ((BitVec.ofInt 64 (V x) &&& BitVec.ofInt 64 (V y)).toNat : Int) = _
  rw [BitVec.toNat_and, ofInt64_V, ofInt64_V, ← UInt32.toNat_and, wrap64_V]
@[go_sem] theorem i64_mask (x : UInt32) : bits .and .i64 (V x) 4294967295 = V x := by
  have h := i64_and' x 4294967295
  have e : V 4294967295 = 4294967295 := rfl
  rw [e] at h
  rw [h]; congr 1
  apply UInt32.toNat_inj.1
  rw [UInt32.toNat_and]
  have := x.toNat_lt
  exact Nat.and_two_pow_sub_one_of_lt_two_pow (n := 32) this
@[go_sem high] theorem op_i64_shr (yk : IntKind) (h : 0 ≤ y) (h' : y ≤ 32) : binOp .shr t (.int .i64 (V x)) (.int yk y) = pure (.int .i64 (V (shr32 x y.toNat))) := by
  simp only [binOp, Op.shift, if_neg (show ¬ y < 0 by omega), u32_shr]
  rw [show min y.toNat IntKind.i64.bits = y.toNat from Nat.min_eq_left (show y.toNat ≤ 64 by omega)]
@[go_sem high] theorem op_i64_shl (yk : IntKind) (h : 0 ≤ y) (h' : y ≤ 30) : binOp .shl t (.int .i64 (V x)) (.int yk y) = pure (.int .i64 (SH x y.toNat)) := by
  simp only [binOp, Op.shift, if_neg (show ¬ y < 0 by omega)]
  rw [show min y.toNat IntKind.i64.bits = y.toNat from Nat.min_eq_left (show y.toNat ≤ 64 by omega)]
  have hb : V x * 2 ^ y.toNat ≤ 4294967296 * 1073741824 := by
    have h1 := V_lt x
    have h2 : (2 : Int) ^ y.toNat ≤ 1073741824 := by
      have : (2 : Nat) ^ y.toNat ≤ 2 ^ 30 := Nat.pow_le_pow_right (by decide) (by omega)
      have h3 : ((2 ^ y.toNat : Nat) : Int) ≤ ((2 ^ 30 : Nat) : Int) := Int.ofNat_le.2 this
      rw [Int.natCast_pow] at h3
      exact h3
    exact Int.mul_le_mul (by omega) h2 (Int.pow_nonneg (by decide)) (by decide)
  have h0 : 0 ≤ V x * 2 ^ y.toNat := Int.mul_nonneg (V_lt x).1 (Int.pow_nonneg (by decide))
  rw [IntWalk.i64_in _ (by omega)]; rfl
@[go_sem high] theorem op_i64_shrem (n : Nat) : binOp .rem t (.int .i64 (SH x n)) (.int .i64 4294967296) = pure (.int .i64 (V (shl32 x n))) := by
  have h0 : 0 ≤ SH x n := Int.mul_nonneg (V_lt x).1 (Int.pow_nonneg (by decide))
  have e : (SH x n).tmod 4294967296 = V (shl32 x n) := by
    rw [Int.tmod_eq_emod_of_nonneg h0, ← u32_shl, IntKind.wrap_u32']; rfl
  simp only [binOp, Op.intDiv, e]; rfl
@[go_sem high] theorem op_i64_add2 (x y : UInt32) : binOp .add t (.int .i64 (V x)) (.int .i64 (V y)) = pure (.int .i64 (SM [x, y])) := by
  have e : IntKind.i64.wrap (V x + V y) = SM [x, y] := by
    have := V_lt x; have := V_lt y
    simp only [SM]; rw [IntWalk.i64_in _ (by omega)]; omega
  simp only [binOp, Op.intArith, e]; rfl
@[go_sem high] theorem op_i64_addl (l : List UInt32) (y : UInt32) (h : l.length ≤ 1000) : binOp .add t (.int .i64 (SM l)) (.int .i64 (V y)) = pure (.int .i64 (SM (l ++ [y]))) := by
  have e : IntKind.i64.wrap (SM l + V y) = SM (l ++ [y]) := by
    have := SM_lt l; have := V_lt y
    rw [SM_append]; simp only [SM]; rw [IntWalk.i64_in _ (by omega)]; omega
  simp only [binOp, Op.intArith, e]; rfl
@[go_sem high] theorem op_i64_addr (l : List UInt32) (y : UInt32) (h : l.length ≤ 1000) : binOp .add t (.int .i64 (V y)) (.int .i64 (SM l)) = pure (.int .i64 (SM (y :: l))) := by
  have e : IntKind.i64.wrap (V y + SM l) = SM (y :: l) := by
    have := SM_lt l; have := V_lt y
    simp only [SM]; rw [IntWalk.i64_in _ (by omega)]
  simp only [binOp, Op.intArith, e]; rfl
@[go_sem high] theorem op_i64_smrem (l : List UInt32) : binOp .rem t (.int .i64 (SM l)) (.int .i64 4294967296) = pure (.int .i64 (V (sum32 l))) := by
  have e : (SM l).tmod 4294967296 = V (sum32 l) := by rw [Int.tmod_eq_emod_of_nonneg (SM_lt l).1, SM_mod]
  simp only [binOp, Op.intDiv, e]; rfl
@[go_sem high] theorem op_i64_not : binOp .sub t (.int .i64 4294967295) (.int .i64 (V x)) = pure (.int .i64 (V (~~~x))) := by
  have e : IntKind.i64.wrap (4294967295 - V x) = V (~~~x) := by
    have := V_lt x
    rw [IntWalk.i64_in _ (by omega)]
    unfold V; rw [UInt32.toNat_not]
    have := x.toNat_lt
    have hs : UInt32.size = 4294967296 := rfl
    omega
  simp only [binOp, Op.intArith, e]; rfl
theorem ones_xor (x : UInt32) : (4294967295 : UInt32) ^^^ x = ~~~x := by
  rw [show (4294967295 : UInt32) = -1 from rfl, UInt32.neg_one_xor]
@[go_sem high] theorem u32_not : Op.unary .xor (.int .u32 (V x)) = pure (.int .u32 (V (~~~x))) := by
  rw [← ones_xor, ← u32_xor']; rfl
end
@[go_sem] theorem u32_of_byte (b : UInt8) : IntKind.u32.wrap (Y b) = V b.toUInt32 := by
  have := b.toNat_lt; rw [IntKind.wrap_u32']; unfold Y V; rw [UInt8.toNat_toUInt32]; omega
@[go_sem] theorem u32_of_u32 (x : UInt32) : IntKind.u32.wrap (V x) = V x := by
  have := V_lt x; rw [IntKind.wrap_u32']; omega
@[go_sem] theorem u8_of_u32 (x : UInt32) : IntKind.u8.wrap (V x) = Y x.toUInt8 := by
  rw [IntKind.wrap_u8']; unfold Y V; rw [UInt32.toNat_toUInt8]; omega

/-- a region that draws its order: n operations that only read (callees that leave the world), then a tail in one order -/
theorem region_tail {P : Program} {id : Nat} {Q : Exit → Act → World → Prop} {a : Act} {w : World} {l : List Oper} (n : Nat) (hm : P.follows .mixedOrders = true) (hB : Region.lexTailB .any l.toArray n = true)
    (h : wpStill P l.toArray w.drew (fun a' => wpList P l.toArray Q (l.drop n) a' w.drew) (l.take n) a) : (Code.region id l.toArray true).wp P Q a w :=
  wp_region_still_tail n hm hB h

theorem put_same (a : Act) (n : Nat) (v : Value) (h : n < a.tmps.size) : (a.put (some n) v).eval (.tmp n) = v := by
  simp [Act.put, Act.eval, h]
theorem put_ne (a : Act) (n m : Nat) (v : Value) (h : n ≠ m) : (a.put (some n) v).eval (.tmp m) = a.eval (.tmp m) := by
  simp [Act.put, Act.eval, h]
theorem put_size (a : Act) (n : Nat) (v : Value) : (a.put (some n) v).tmps.size = a.tmps.size := by simp [Act.put]
section
variable {P : Program} {ops : Array Oper} {w : World} {Q : Act → Prop} {a : Act} {o : Oper} {rest : List Oper}
theorem still_val (hg : o.guard = none) {v : Value} (hr : (execOp a.eval o).run P w = .ok (.value v) w) (h : wpStill P ops w Q rest (a.put o.dst v)) : wpStill P ops w Q (o :: rest) a := by
  unfold wpStill; rw [if_pos (by simp [Region.wanted, hg])]; unfold Oper.still; rw [hr]; exact ⟨rfl, h⟩
theorem still_enter (hg : o.guard = none) {v : Value} {f : FuncId} {args : Array Value} (hr : (execOp a.eval o).run P w = .ok (.enter f args) w)
    (hc : Calls P f args w fun e w'' => e = .returned v ∧ w'' = w) (h : wpStill P ops w Q rest (a.put o.dst v)) : wpStill P ops w Q (o :: rest) a := by
  unfold wpStill; rw [if_pos (by simp [Region.wanted, hg])]; unfold Oper.still; rw [hr]; exact ⟨rfl, v, hc, h⟩
theorem list_val {ops : Array Oper} {Q : Exit → Act → World → Prop} {w' : World} (hg : o.guard = none) {v : Value} (hr : (execOp a.eval o).run P w = .ok (.value v) w') (h : wpList P ops Q rest (a.put o.dst v) w') : wpList P ops Q (o :: rest) a w := by
  refine wpList_plain hg fun K hK => ?_
  unfold Oper.wp; rw [hr]; exact hK _ _ h
theorem list_skip {ops : Array Oper} {Q : Exit → Act → World → Prop} {w' : World} (hg : o.guard = none) (hr : (execOp a.eval o).run P w = .ok .skip w') (h : wpList P ops Q rest (a.put o.dst undef) w') : wpList P ops Q (o :: rest) a w := by
  refine wpList_plain hg fun K hK => ?_
  unfold Oper.wp; rw [hr]; exact hK _ _ h
end

/-! ### strings of bytes: 'str l' -/
def str (l : List UInt8) : ByteArray := ⟨l.toArray⟩
def nth (l : List UInt8) (i : Nat) : UInt8 := l.getD i 0
@[go_sem] theorem str_intro (l : List UInt8) : ByteArray.mk l.toArray = str l := rfl
theorem str_of (s : ByteArray) : str s.toList = s := by
  apply ByteArray.ext; simp [str, ByteArray.toList_eq]
@[go_sem] theorem str_toList (l : List UInt8) : (str l).toList = l := ByteArray.toList_mk l
@[go_sem] theorem str_size (l : List UInt8) : (str l).size = l.length := by simp [str, ByteArray.size]
theorem str_inj {a b : List UInt8} (h : str a = str b) : a = b := by
  have := congrArg ByteArray.toList h; rwa [str_toList, str_toList] at this
theorem str_get (l : List UInt8) (i : Nat) (h : i < (str l).size) : (str l)[i] = nth l i := by
  have h' : i < l.length := by rw [str_size] at h; exact h
  unfold nth; rw [List.getD_eq_getElem?_getD, List.getElem?_eq_getElem h']; rfl
theorem str_append (a b : List UInt8) : str a ++ str b = str (a ++ b) := ByteArray.mk_append_mk a b
theorem str_extract (l : List UInt8) (a b : Nat) : (str l).extract a b = str ((l.drop a).take (b - a)) := ByteArray.extract_mk l a b
section
variable {P : Program} (w : World)
@[go_sem high] theorem op_str_index (t : TypeId) (l : List UInt8) (k : IntKind) (i : Int) (h : P.underlying t = some .string) :
    (Instr.index t (.string (str l)) (.int k i)).run P w =
      if 0 ≤ i ∧ i < (l.length : Int) then .ok (.int .u8 (Y (nth l i.toNat))) w else (boundsPanic k i l.length .index).run P w := by
  rw [run_index_string w t _ k i h]
  simp only [str_size]
  split
  · rename_i hi; rw [str_get]; rfl
  · rfl
@[go_sem high] theorem op_str_from (t : TypeId) (l : List UInt8) (k : IntKind) (i : Int) (h : P.underlying t = some .string) :
    (Instr.slice t (.string (str l)) (some (.int k i)) none none).run P w =
      if 0 ≤ i ∧ i ≤ (l.length : Int) then .ok (.string (str (l.drop i.toNat))) w else ((boundsPanic k i l.length .sliceB : Sem Nat).run P w).andThen fun a w' => .ok (.string (str (l.drop a))) w' := by
  rw [run_slice_string_from_if w t _ k i h]
  simp only [str_size, str_extract]
  have e : ∀ a, (l.drop a).take (l.length - a) = l.drop a := fun a => List.take_of_length_le (by simp)
  simp only [e]
@[go_sem high] theorem op_str_to (t : TypeId) (l : List UInt8) (k : IntKind) (j : Int) (h : P.underlying t = some .string) :
    (Instr.slice t (.string (str l)) none (some (.int k j)) none).run P w =
      if 0 ≤ j ∧ j ≤ (l.length : Int) then .ok (.string (str (l.take j.toNat))) w else ((boundsPanic k j l.length .sliceAlen : Sem Nat).run P w).andThen fun a w' => .ok (.string (str (l.take a))) w' := by
  rw [run_slice_string_to_if w t _ k j h]
  simp only [str_size, str_extract, List.drop_zero, Nat.sub_zero]
@[go_sem high] theorem op_str_mid (t : TypeId) (l : List UInt8) (k k' : IntKind) (i j : Int) (h : P.underlying t = some .string) :
    (Instr.slice t (.string (str l)) (some (.int k i)) (some (.int k' j)) none).run P w =
      if 0 ≤ j ∧ j ≤ (l.length : Int) then
        (if 0 ≤ i ∧ i ≤ j then .ok (.string (str ((l.drop i.toNat).take (j.toNat - i.toNat)))) w
         else ((boundsPanic k i j.toNat .sliceB : Sem Nat).run P w).andThen fun a w' => .ok (.string (str ((l.drop a).take (j.toNat - a)))) w')
      else ((boundsPanic k' j l.length .sliceAlen : Sem Nat).run P w).andThen fun b w' =>
        ((Instr.sliceBound (.int k i) b .sliceB).run P w').andThen fun a w'' => .ok (.string (str ((l.drop a).take (b - a)))) w'' := by
  rw [run_slice_string_if w t _ k k' i j h]
  simp only [str_size, str_extract]
@[go_sem high] theorem op_str_add (a b : List UInt8) : (Op.stringOp .add (str a) (str b)).run P w =
    if a.length + b.length > 9223372036854775807 then .halt (.unsupported (.resourceLimit "string concatenation: a sum of the lengths that is no int")) w else .ok (.string (str (a ++ b))) w := by
  rw [run_string_add_if]; simp only [str_size, str_append]
end
/-- 'string(b)', b's cells known -/
theorem conv_bytes {P : Program} (w : World) (src dst e : TypeId) (b o cap : Nat) (l : List UInt8) (hs : P.underlying src = some (.slice e)) (he : P.underlying e = some (.int .u8)) (hd : P.underlying dst = some .string)
    (hc : ∀ j, j < l.length → w.cell? ⟨b, o + j, none⟩ = some (.int .u8 (Y (nth l j)))) :
    (convert src dst (.slice (some ⟨b, o, none⟩) l.length cap)).run P w = .ok (.string (str l)) w := by
  refine run_convert_bytes_back w src dst e _ cap l hs he hd fun j hj => ?_
  rw [Addr.add_lit, hc j hj]
  unfold nth; rw [List.getD_eq_getElem?_getD, List.getElem?_eq_getElem hj]; rfl
/-- 'string([]byte{x})' -/
@[go_sem high] theorem conv_one {P : Program} (w : World) (src dst e : TypeId) (x : UInt8) (hs : P.underlying src = some (.slice e)) (he : P.underlying e = some (.int .u8)) (hd : P.underlying dst = some .string) :
    (convert src dst (.slice (some ⟨w.heap.size, 0, none⟩) 1 1)).run P (w.alloc (.cells #[.int .u8 (Y x)] e)) = .ok (.string (str [x])) (w.alloc (.cells #[.int .u8 (Y x)] e)) :=
  conv_bytes _ src dst e _ 0 1 [x] hs he hd fun j hj => by
    obtain rfl : j = 0 := by simp at hj; omega
    rw [World.cell?_alloc_new]; rfl
end Nums
end Go.Proofs.YtlpcjiollnnmgabGreatDoor
