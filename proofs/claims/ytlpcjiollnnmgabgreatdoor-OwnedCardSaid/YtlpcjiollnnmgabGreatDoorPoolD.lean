/-
  The pool's map as it reads: the list that rises by digests.
-/
import Derived.Test.YtlpcjiollnnmgabGreatDoorTxid
import Derived.Test.YtlpcjiollnnmgabGreatDoorTexts
import Derived.Test.YtlpcjiollnnmgabGreatDoorPool
import Derived.Test.YtlpcjiollnnmgabGreatDoorDg
import Derived.Maps.OwnSet
import Derived.Maps.RangeWalk
import Derived.Maps.Ext
import Derived.DeepKeys4
set_option maxRecDepth 100000
namespace Go.Proofs.YtlpcjiollnnmgabGreatDoor
open Nums
open Go.RowKit
namespace Mp
abbrev B := List UInt8
/-! ### the cells of a transaction, told apart -/
def eqB : List Value → List UInt8 → Bool
  | [], [] => true
  | .int .u8 x :: l, y :: m => decide (x = Y y) && eqB l m
  | _, _ => false
theorem eqB_self : ∀ m : List UInt8, eqB (w8 m) m = true
  | [] => rfl
  | y :: m => by
    show (decide (Y y = Y y) && eqB (w8 m) m) = true
    rw [eqB_self m]; simp
theorem eqB_eq : ∀ (l : List Value) (m : List UInt8), eqB l m = true → l = w8 m
  | [], [], _ => rfl
  | [], _ :: _, h => by simp [eqB] at h
  | v :: l, [], h => by cases v <;> simp [eqB] at h
  | v :: l, y :: m, h => by
    cases v <;> try (simp [eqB] at h; done)
    rename_i k x
    cases k <;> try (simp [eqB] at h; done)
    simp only [eqB, Bool.and_eq_true, decide_eq_true_eq] at h
    obtain ⟨rfl, h2⟩ := h
    rw [eqB_eq l m h2]; rfl
/-- how an element of the pool reads: a transaction's bytes; nothing for none -/
def txR (v : Value) : Option (DataW Unit × List MemPlace) := match v with
  | .agg a => match a.toList with
    | .string s :: l => if eqB l (Mk.twice s.data.toList) then some (.lit (.string s.data.toList), []) else if s.data.toList.isEmpty && eqB l (List.replicate 32 0) then some (.nil, []) else none
    | _ => none
  | _ => none
theorem str_list (t : B) : (str t).data.toList = t := by unfold str; simp
theorem txR_tx (t : B) : txR (txV t) = some (.lit (.string t), []) := by
  unfold txR txV txCells
  simp only [str_list, eqB_self, if_true]
theorem twice_ne_zero (h : Mk.twice [] = List.replicate 32 0) : False := by revert h; decide +kernel
theorem txR_zero : txR (.agg tx0.toArray) = some (.nil, []) := by kernel_rfl
theorem str_of_list (s : ByteArray) : str s.data.toList = s := by unfold str; simp
theorem txR_inv {v : Value} {z : DataW Unit × List MemPlace} (h : txR v = some z) : (∃ t, v = txV t ∧ z = (.lit (.string t), [])) ∨ (v = .agg tx0.toArray ∧ z = (.nil, [])) := by
  unfold txR at h
  cases v with
  | agg a =>
    dsimp only at h
    split at h
    · rename_i s l hl
      split at h
      · rename_i he
        left
        refine ⟨s.data.toList, ?_, (Option.some.inj h).symm⟩
        unfold txV txCells
        rw [str_of_list, ← eqB_eq _ _ he, ← hl]
      · split at h
        · rename_i he
          simp only [Bool.and_eq_true, List.isEmpty_iff] at he
          right
          refine ⟨?_, (Option.some.inj h).symm⟩
          have h1 : s = str [] := by rw [← str_of_list s, he.1]
          have h2 : a.toList = tx0 := by rw [hl, eqB_eq _ _ he.2, h1]; rfl
          rw [← h2]
        · cases h
    · cases h
  | _ => cases h
/-! ### the key -/
theorem keyBytes_lits (d : B) : keyBytes (lits d) = d := by
  unfold keyBytes lits
  induction d with
  | nil => rfl
  | cons x l ih =>
    rw [List.map_cons, List.flatMap_cons, ih]
    have : Lit.keyBytes (.int .u8 (Y x)) = [x] := by
      have e : (Y x % 2 ^ IntKind.u8.bits).toNat = x.toNat := by
        have : x.toNat < 256 := x.toNat_lt
        unfold Y; simp [IntKind.bits]; omega
      show bytesBE (IntKind.u8.bits / 8) (Y x % 2 ^ IntKind.u8.bits).toNat = [x]
      rw [e]
      simp [bytesBE, bytesLE, IntKind.bits]
    rw [this]; rfl
theorem key_dg (d : B) (h : d.length = 32) : keyOf Tryz.prog 76 (.agg (w8 d).toArray) = some (.string d) := by
  obtain ⟨n, hn⟩ : ∃ n, Tryz.prog.types.size + 1 = n + 2 := ⟨Tryz.prog.types.size - 1, by kernel_rfl⟩
  unfold keyOf
  simp only [Tryz.underlying76, formed_dg d h, show Tryz.prog.keyType 76 = true by kernel_rfl, Bool.and_self, if_true]
  rw [hn, show (Value.agg (w8 d).toArray).cells.toList = w8 d by simp [Value.cells], keyLits_dg n d h]
  simp only [Option.map_some, keyBytes_lits]
/-! ### the list -/
def ents (P : List B) : List (Lit × DataW Unit) := P.map fun t => (Lit.string (Mk.twice t), DataW.lit (.string t))
def D (P : List B) : DataW Unit := .map (ents P)
theorem before_iff : ∀ (a b : B), bytesBefore a b = decide (a < b)
  | [], [] => by simp [bytesBefore]
  | [], _ :: _ => by simp [bytesBefore]
  | _ :: _, [] => by simp [bytesBefore]
  | a :: r, b :: s => by
    rw [bytesBefore, before_iff r s, Bool.eq_iff_iff]
    simp [List.cons_lt_cons_iff]
theorem same_iff (a b : B) : (Lit.string a).sameKey (.string b) = (a == b) := by
  simp [Lit.sameKey]
theorem has_ents (P : List B) (id : B) (h : Pl.Up Mk.twice P) : Maps.has (D P) (.string id) = (Pl.at' Mk.twice id P).2 := by
  rw [Bool.eq_iff_iff, Pl.at_mem Mk.twice id P h]
  show (ents P).any _ = true ↔ _
  simp [ents, same_iff]
theorem size_ents (P : List B) : Maps.size (D P) = P.length := by
  show (ents P).length = _
  simp [ents]
theorem ins_ents (t : B) : ∀ (P : List B), (∀ y ∈ P, Mk.twice y ≠ Mk.twice t) → DataW.insert (Lit.string (Mk.twice t), DataW.lit (.string t)) (ents P) = ents (Pl.ins Mk.twice t P)
  | [], _ => rfl
  | y :: l, h => by
    have ih := ins_ents t l fun z hz => h z (List.mem_cons_of_mem _ hz)
    have hy := h y List.mem_cons_self
    rw [Pl.ins_cons]
    show (if (Lit.string (Mk.twice t)).before (.string (Mk.twice y)) then _ else _ :: DataW.insert _ (ents l)) = _
    rw [ih]
    have hb : (Lit.string (Mk.twice t)).before (.string (Mk.twice y)) = decide (Mk.twice t < Mk.twice y) := before_iff _ _
    rw [hb]
    rcases Pl.lt_tri (Mk.twice y) (Mk.twice t) with h1 | h1 | h1
    · have h2 : ¬ Mk.twice t < Mk.twice y := fun h3 => Pl.lt_irr _ (Pl.lt_tr h1 h3)
      rw [if_pos h1, if_neg (by simpa using h2)]; rfl
    · exact absurd h1 hy
    · have h2 : ¬ Mk.twice y < Mk.twice t := fun h3 => Pl.lt_irr _ (Pl.lt_tr h1 h3)
      rw [if_neg h2, if_pos (by simpa using h1)]; rfl
theorem put_ents (t : B) (P : List B) (h : Pl.Up Mk.twice P) (hn : (Pl.at' Mk.twice (Mk.twice t) P).2 = false) : (D P).put (.string (Mk.twice t)) (.lit (.string t)) = D (Pl.ins Mk.twice t P) := by
  have hne : ∀ y ∈ P, Mk.twice y ≠ Mk.twice t := fun y hy e => by
    rw [(Pl.at_mem Mk.twice (Mk.twice t) P h).2 ⟨y, hy, e⟩] at hn; cases hn
  show DataW.map (DataW.insert _ ((ents P).filter _)) = _
  rw [List.filter_eq_self.2 fun p hp => ?_, ins_ents t P hne]; · rfl
  obtain ⟨y, hy, rfl⟩ := List.mem_map.1 hp
  simp [same_iff, hne y hy]
theorem filter_del (id : B) : ∀ (P : List B), Pl.Up Mk.twice P → P.filter (fun y => !(Mk.twice y == id)) = Pl.del Mk.twice id P
  | [], _ => rfl
  | y :: l, h => by
    obtain ⟨h1, h2⟩ := List.pairwise_cons.1 h
    rw [Pl.del_cons]
    by_cases hy : Mk.twice y < id
    · have hne : Mk.twice y ≠ id := fun e => by rw [e] at hy; exact Pl.lt_irr _ hy
      rw [if_pos hy, List.filter_cons_of_pos (by simpa using hne), filter_del id l h2]
    · rw [if_neg hy]
      by_cases he : Mk.twice y = id
      · rw [if_pos he, List.filter_cons_of_neg (by simpa using he), List.filter_eq_self.2]
        intro z hz
        have := h1 z hz
        have hne : Mk.twice z ≠ id := fun e => by rw [he, e] at this; exact Pl.lt_irr _ this
        simpa using hne
      · rw [if_neg he, List.filter_eq_self.2]
        intro z hz
        have hne : Mk.twice z ≠ id := fun e => by
          rcases List.mem_cons.1 hz with rfl | hz
          · exact he e
          · have := h1 z hz; rw [e] at this; exact hy this
        simpa using hne
theorem del_ents (id : B) (P : List B) (h : Pl.Up Mk.twice P) : (D P).del (.string id) = D (Pl.del Mk.twice id P) := by
  rw [← filter_del id P h]
  show DataW.map ((ents P).filter _) = DataW.map (ents _)
  congr 1
  unfold ents
  rw [List.filter_map]
  congr 1
theorem laidP : laidOutB Tryz.prog = true := by kernel_rfl
theorem law : Maps.Keyed Tryz.prog 76 := .of_law (deep_law_laid laidP (m := 2) (by omega) (of_decide_eq_true (by kernel_rfl)) (by kernel_rfl) (by kernel_rfl))
/-! ### the pool in memory -/
/-- the block m is the pool's map, of the transactions P (they rise by their digests) -/
structure Map (w : World) (m : Nat) (P : List B) : Prop where
  own : w.ownsMap Tryz.prog 76 txR m 20 (D P)
  up : Pl.Up Mk.twice P
  le : P.length ≤ 20
  short : ∀ t ∈ P, t.length ≤ 610
end Mp
end Go.Proofs.YtlpcjiollnnmgabGreatDoor
