/-
  THE WALKS OF hash.Sum, hash.Twice, relay.Sum.
-/
import Derived.Test.YtlpcjiollnnmgabGreatDoorShaSum
import Derived.Laws.IdiomStrings
import Derived.Laws.CopyOwn
import Derived.Outline
namespace Go.Proofs.YtlpcjiollnnmgabGreatDoor
open Go.RowKit Nums
theorem Buf.nil_of {w : World} {O : Nat → Prop} {rv : Value} {l : List UInt8} (h : rv = .slice none 0 0) (hl : l = []) : Buf w O rv l := .inl ⟨h, hl⟩
/-- 'string(b)' -/
theorem conv_arm {P : Program} {ops : Array Oper} {rest : List Oper} {o : Oper} {a : Act} {w : World} {Q : Exit → Act → World → Prop} (hgd : o.guard = none) (src dst e : TypeId) (x : Operand) (ho : o.op = .convert src dst x)
    (g off n cap : Nat) (l : List UInt8) (hl : l.length = n) (hx : a.eval x = .slice (some ⟨g, off, none⟩) n cap) (hs : P.underlying src = some (.slice e)) (he : P.underlying e = some (.int .u8)) (hd : P.underlying dst = some .string)
    (hb : Bytes w g off l) (h : wpList P ops Q rest (a.put o.dst (.string (str l))) w) : wpList P ops Q (o :: rest) a w := by
  subst hl
  refine list_val hgd ?_ h
  unfold execOp
  simp only [ho, hx]
  rw [Sem.run_bind, conv_bytes w src dst e g off cap l hs he hd hb]
  rfl
theorem Row.bytes {w : World} {b : Nat} {l : List UInt8} (h : Row w b (w8 l)) : Bytes w b 0 l := fun j hj => by rw [Nat.zero_add, h.cell, w8_get l j hj]
theorem Sha.sum32 (l : List UInt8) : (Sha.sum l).length = 32 := Sha.out_length _
/-- '[]byte(s)' -/
theorem conv_str {P : Program} (w : World) (src dst e : TypeId) (l : List UInt8) (hs : P.underlying src = some .string) (hd : P.underlying dst = some (.slice e)) (he : P.underlying e = some (.int .u8)) :
    ∃ cap w', (convert src dst (.string (str l))).run P w = .ok (.slice (some ⟨w.heap.size, 0, none⟩) l.length cap) w' ∧ Below w.heap.size w w' ∧ Bytes w' w.heap.size 0 l ∧ w'.heap.size = w.heap.size + 1 := by
  refine ⟨_, _, (by have := run_bytes_of_string w src dst e (str l) hs hd he; rw [str_size] at this; exact this), ((Below.refl _ _).drew).alloc (Nat.le_refl _) _, fun j hj => ?_, by simp⟩
  have e1 : ∀ (C : Array Value) (fr : Nat × Nat), (w.drew.alloc (.cells C e fr)).heap[w.heap.size]? = some (.cells C e fr) := fun C fr => by
    show (w.heap.push _)[w.heap.size]? = _
    rw [Array.getElem?_push_size]
  simp only [World.cell?, e1, Nat.zero_add, bytesRow]
  rw [Array.getElem?_append_left (by simp [str]; exact hj)]
  simp [str, nth, hj, Y]
/-- a slice's texts, somewhere in a block -/
def Parts (w : World) (b o : Nat) (ps : List (List UInt8)) : Prop := ∀ j, j < ps.length → w.cell? ⟨b, o + j, none⟩ = some (.string (str (ps.getD j [])))
theorem Parts.below {B b o : Nat} {ps : List (List UInt8)} {w w' : World} (hr : Parts w b o ps) (h : Below B w w') (hb : b < B) : Parts w' b o ps := fun j hj => by
  rw [← hr j hj]; exact World.cell?_of_block (w := w) (h.block b hb)
def join (ps : List (List UInt8)) : List UInt8 := ps.flatten
theorem join_take (ps : List (List UInt8)) (i : Nat) (h : i < ps.length) : join (ps.take (i + 1)) = join (ps.take i) ++ ps.getD i [] := by
  unfold join
  rw [List.take_succ_eq_append_getElem h, List.flatten_append, List.getD_eq_getElem?_getD, List.getElem?_eq_getElem h]
  simp
theorem join_le (ps : List (List UInt8)) (i : Nat) : (join (ps.take i)).length ≤ (join ps).length := by
  have : join ps = join (ps.take i) ++ join (ps.drop i) := by unfold join; rw [← List.flatten_append, List.take_append_drop]
  rw [this, List.length_append]; omega
/-- the two tables of the program -/
def Tabs (w : World) : Prop := Row w 0 (w32 (H8l Sha.begin)) ∧ Row w 1 (w32 Sha.rounds)
theorem Tabs.below {B : Nat} {w w' : World} (h : Tabs w) (hb : Below B w w') (hB : 1 < B) : Tabs w' := ⟨h.1.below hb (by omega), h.2.below hb hB⟩
theorem Tabs.lt {w : World} (h : Tabs w) : 1 < w.heap.size := h.2.lt
theorem Keep.below {O : Nat → Prop} {w w' : World} (h : Keep O w w') (B : Nat) (hB : B ≤ w.heap.size) (ho : ∀ k, k < B → ¬ O k) : Below B w w' :=
  ⟨h.os, h.tape, h.output, h.size, fun k hk => h.block k (by omega) (ho k hk)⟩
theorem Keep.parts {O : Nat → Prop} {b o : Nat} {ps : List (List UInt8)} {w w' : World} (h : Keep O w w') (hr : Parts w b o ps) (hb : b < w.heap.size) (ho : ¬ O b) : Parts w' b o ps := fun j hj => by
  rw [← hr j hj]; exact World.cell?_of_block (w := w) (h.block b hb ho)

set_option maxRecDepth 100000 in
set_option maxHeartbeats 2000000 in
theorem hsum_calls (b o c : Nat) (ps : List (List UInt8)) (w : World) (hT : Tabs w) (hb : b < w.heap.size) (hp : Parts w b o ps) (hm : (join ps).length ≤ 35184372088832) (hn : ps.length ≤ 9223372036854775807) :
    Calls Tryz.prog 66 #[.slice (some ⟨b, o, none⟩) ps.length c] w fun e w' =>
      e = .returned (.agg (w8 (Sha.sum (join ps))).toArray) ∧ Below w.heap.size w w' := by
  have h1 := hT.lt
  have hrc : ∀ j, j < 8 → (w.alloc (.cells (w8 (List.replicate 32 0)).toArray 76)).cell? ⟨0, j, none⟩ = some (.int .u32 (V (Sha.nw (H8l Sha.begin) j))) := fun j hj => by
    rw [(hT.1.alloc _).cell, w32_get _ _ (by simp [H8l]; omega)]
  have e32 : (w8 (List.replicate 32 0)).toArray = #[.int .u8 0, .int .u8 0, .int .u8 0, .int .u8 0, .int .u8 0, .int .u8 0, .int .u8 0, .int .u8 0, .int .u8 0, .int .u8 0, .int .u8 0, .int .u8 0, .int .u8 0, .int .u8 0, .int .u8 0, .int .u8 0, .int .u8 0, .int .u8 0, .int .u8 0, .int .u8 0, .int .u8 0, .int .u8 0, .int .u8 0, .int .u8 0, .int .u8 0, .int .u8 0, .int .u8 0, .int .u8 0, .int .u8 0, .int .u8 0, .int .u8 0, .int .u8 0] := by kernel_rfl
  rw [e32] at hrc
  have c0 := hrc 0 (by omega)
  have c1 := hrc 1 (by omega)
  have c2 := hrc 2 (by omega)
  have c3 := hrc 3 (by omega)
  have c4 := hrc 4 (by omega)
  have c5 := hrc 5 (by omega)
  have c6 := hrc 6 (by omega)
  have c7 := hrc 7 (by omega)
  have HT := Lib.hid hT
  have HP := Lib.hid hp
  clear hT hp hrc e32
  go_enter Tryz.func66, Tryz.ntmps66
  go_wp2_with fail
  have hW : ∀ (o1 : Obj) (T : TypeId), Row ((w.alloc o1).alloc (.cells (w32 (H8l Sha.begin) ++ [Value.slice none 0 0, Value.int .u64 (U (UInt64.ofNat 0))]).toArray T)) (w.heap.size + 1) (w32 (H8l Sha.begin) ++ [Value.slice none 0 0, Value.int .u64 (U (UInt64.ofNat 0))]) := fun o1 T => by
    have := Row.new (w.alloc o1) (w32 (H8l Sha.begin) ++ [Value.slice none 0 0, Value.int .u64 (U (UInt64.ofNat 0))]) T
    rwa [World.size_alloc] at this
  have hS := hW (.cells (w8 (List.replicate 32 0)).toArray 76) 171
  have hR : Row ((w.alloc (.cells (w8 (List.replicate 32 0)).toArray 76)).alloc (.cells (w32 (H8l Sha.begin) ++ [Value.slice none 0 0, Value.int .u64 (U (UInt64.ofNat 0))]).toArray 171)) w.heap.size (w8 (List.replicate 32 0)) := (Row.new w _ _).alloc _
  have hB : Below w.heap.size w ((w.alloc (.cells (w8 (List.replicate 32 0)).toArray 76)).alloc (.cells (w32 (H8l Sha.begin) ++ [Value.slice none 0 0, Value.int .u64 (U (UInt64.ofNat 0))]).toArray 171)) := ((Below.refl _ _).alloc (Nat.le_refl _) _).alloc (by simp) _
  have hZ : ((w.alloc (.cells (w8 (List.replicate 32 0)).toArray 76)).alloc (.cells (w32 (H8l Sha.begin) ++ [Value.slice none 0 0, Value.int .u64 (U (UInt64.ofNat 0))]).toArray 171)).heap.size = w.heap.size + 2 := by simp
  have ea : (.cells (w8 (List.replicate 32 0)).toArray 76 : Obj) = .cells #[.int .u8 0, .int .u8 0, .int .u8 0, .int .u8 0, .int .u8 0, .int .u8 0, .int .u8 0, .int .u8 0, .int .u8 0, .int .u8 0, .int .u8 0, .int .u8 0, .int .u8 0, .int .u8 0, .int .u8 0, .int .u8 0, .int .u8 0, .int .u8 0, .int .u8 0, .int .u8 0, .int .u8 0, .int .u8 0, .int .u8 0, .int .u8 0, .int .u8 0, .int .u8 0, .int .u8 0, .int .u8 0, .int .u8 0, .int .u8 0, .int .u8 0, .int .u8 0] 76 := by kernel_rfl
  have eb : (.cells (w32 (H8l Sha.begin) ++ [Value.slice none 0 0, Value.int .u64 (U (UInt64.ofNat 0))]).toArray 171 : Obj) = .cells #[.int .u32 (V (Sha.nw (H8l Sha.begin) 0)), .int .u32 (V (Sha.nw (H8l Sha.begin) 1)), .int .u32 (V (Sha.nw (H8l Sha.begin) 2)), .int .u32 (V (Sha.nw (H8l Sha.begin) 3)), .int .u32 (V (Sha.nw (H8l Sha.begin) 4)), .int .u32 (V (Sha.nw (H8l Sha.begin) 5)), .int .u32 (V (Sha.nw (H8l Sha.begin) 6)), .int .u32 (V (Sha.nw (H8l Sha.begin) 7)), .slice none 0 0, .int .u64 0] 171 := rfl
  rw [ea, eb] at hS hR hB hZ
  clear hW ea eb c0 c1 c2 c3 c4 c5 c6 c7
  generalize (w.alloc _).alloc _ = w1 at hS hR hB hZ ⊢
  have hst : St w1 (w.heap.size + 1) (fun k => w.heap.size ≤ k ∧ k ≠ w.heap.size ∧ k ≠ w.heap.size + 1) [] := ⟨_, hS, Buf.nil w1 _⟩
  have A1 := Lib.hid hst
  have A2 := Lib.hid hR
  have A3 := Lib.hid hB
  have hZ' : w.heap.size + 2 ≤ w1.heap.size := by omega
  clear hst hS hR hB hZ
  go_loopw [11] (fun v wr => ∃ i : Nat, i ≤ ps.length ∧ v = .int .i64 i ∧ St wr (w.heap.size + 1) (fun k => w.heap.size ≤ k ∧ k ≠ w.heap.size ∧ k ≠ w.heap.size + 1) (join (ps.take i)) ∧ Row wr w.heap.size (w8 (List.replicate 32 0)) ∧ Below w.heap.size w wr ∧ w.heap.size + 2 ≤ wr.heap.size) (fun v _ => ps.length - (intOf v).toNat)
  case atStart => exact ⟨0, by omega, rfl, A1.out, A2.out, A3.out, hZ'⟩
  case round =>
    obtain ⟨i, hi, rfl, hst, hR, hB, hz⟩ := hrel
    by_cases hlt : i < ps.length
    · have cp := (HP.out.below hB hb) i hlt
      have hjl := join_take ps i hlt
      obtain ⟨p, hp⟩ : ∃ p, p = ps.getD i [] := ⟨_, rfl⟩
      rw [← hp] at cp hjl
      clear hp
      obtain ⟨cap, wc, hconv, hbel, hby, hsz⟩ := conv_str (P := Tryz.prog) wr 9 35 5 p Tryz.underlying9 Tryz.underlying35 Tryz.underlying5
      have B1 := Lib.hid hst
      have B2 := Lib.hid hR
      have B3 := Lib.hid hB
      have B4 := Lib.hid hbel
      have B5 := Lib.hid hby
      have hsz' : wr.heap.size < wc.heap.size := by omega
      have hjm := join_le ps (i + 1)
      rw [hjl, List.length_append] at hjm
      have B6 := Lib.hid hjl
      clear hst hR hB hbel hby hsz hjl
      go_wp2_with fail
      refine (write_calls (w.heap.size + 1) (fun k => w.heap.size ≤ k ∧ k ≠ w.heap.size ∧ k ≠ w.heap.size + 1) (join (ps.take i)) p wr.heap.size 0 cap wc (B1.out.keep (Keep.of_below B4.out) (fun h => h) (fun _ _ h => h)) (fun h => h.2.2 rfl) (by omega) (fun h => by have := h.1; omega) (fun k hk => ⟨by omega, by omega, by omega⟩) (by omega) B5.out (by omega) ((HT.out.below B3.out (by omega)).2.below B4.out (by omega))).mono ?_
      rintro e w2 ⟨rfl, hst2, hk2⟩
      have hB2 : Below w.heap.size w w2 := (B3.out.trans (B4.out.mono (by omega))).trans (hk2.below _ (by omega) (fun k hk h => h.elim (fun h => by omega) (fun h => by omega)))
      have hR2 := hk2.row (B2.out.below B4.out (by omega)) (fun h => h.elim (fun h => by omega) (fun h => h.2.1 rfl))
      have hs2 : w.heap.size + 2 ≤ w2.heap.size := by have := hk2.size; omega
      rw [← B6.out] at hst2
      go_wp2_with fail
      go_roundw
      case rel => exact ⟨i + 1, by omega, by go_num, hst2, hR2, hB2, hs2⟩
      case measure => simp [intOf]; omega
    · obtain rfl : i = ps.length := by omega
      rw [List.take_of_length_le (Nat.le_refl _)] at hst
      have B1 := Lib.hid hst
      have B2 := Lib.hid hR
      have B3 := Lib.hid hB
      have hz' := hz
      clear hst hR hB
      go_wp2_with fail
      refine (sum_calls (w.heap.size + 1) (fun k => w.heap.size ≤ k ∧ k ≠ w.heap.size ∧ k ≠ w.heap.size + 1) (join ps) wr B1.out (fun h => h.2.2 rfl) (by omega) (fun h => by have := h.1; omega) (fun k hk => ⟨by omega, by omega, by omega⟩) hm (HT.out.below B3.out (by omega)).2).mono ?_
      rintro e w2 ⟨rfl, hk2⟩
      have hB2 : Below w.heap.size w w2 := B3.out.trans (hk2.below _ (by omega) (fun k hk h => h.elim (fun h => by omega) (fun h => by omega)))
      have hR2 := hk2.row B2.out (fun h => h.elim (fun h => by omega) (fun h => h.2.1 rfl))
      have C1 := Lib.hid hB2
      clear hk2 hB2
      go_wp2_with (with_reducible refine store_dg (o := ⟨none, _, _, _, _, _⟩) rfl _ _ rfl w.heap.size (List.replicate 32 0) (Sha.sum (join ps)) rfl (Sha.sum32 _) rfl rfl hR2 ?_)
      obtain ⟨T2, hT2⟩ := hR2.setRow (w8 (Sha.sum (join ps)))
      have hfin : Below w.heap.size w (w2.setRow w.heap.size (w8 (Sha.sum (join ps))).toArray) :=
        C1.out.trans (((Keep.refl (fun k => k = w.heap.size) w2).setRow w.heap.size _ rfl).below _ (by have := C1.out.size; omega) (fun k hk he => by have he' : k = w.heap.size := he; omega))
      exact bodyPost_ret (v := .agg (w8 (Sha.sum (join ps))).toArray) (results_cell_row (fn := Tryz.f66) rfl _ _ w.heap.size T2 _ (0, 0) _ rfl hT2 Tryz.underlying76 rfl (by rw [Tryz.infoDg, List.size_toArray, w8_length]; exact congrArg some (Sha.sum32 _).symm)) rfl ⟨rfl, hfin⟩
theorem join_one (l : List UInt8) : join [l] = l := by simp [join]
theorem join_two (l m : List UInt8) : join [l, m] = l ++ m := by simp [join]
/-- of one text -/
theorem hsum_one (b c : Nat) (l : List UInt8) (w : World) (hT : Tabs w) (hc : w.cell? ⟨b, 0, none⟩ = some (.string (str l))) (hm : l.length ≤ 35184372088832) :
    Calls Tryz.prog 66 #[.slice (some ⟨b, 0, none⟩) 1 c] w fun e w' => e = .returned (.agg (w8 (Sha.sum l)).toArray) ∧ Below w.heap.size w w' := by
  have := hsum_calls b 0 c [l] w hT (block_lt_of_cell hc) (fun j hj => by
    have hj' : j = 0 := by simp at hj; omega
    subst hj'
    exact hc) (by rw [join_one]; exact hm) (by simp)
  rw [join_one] at this
  exact this
/-- of two texts -/
theorem hsum_two (b c : Nat) (l m : List UInt8) (w : World) (hT : Tabs w) (hc : w.cell? ⟨b, 0, none⟩ = some (.string (str l))) (hd : w.cell? ⟨b, 1, none⟩ = some (.string (str m))) (hm : l.length + m.length ≤ 35184372088832) :
    Calls Tryz.prog 66 #[.slice (some ⟨b, 0, none⟩) 2 c] w fun e w' => e = .returned (.agg (w8 (Sha.sum (l ++ m))).toArray) ∧ Below w.heap.size w w' := by
  have := hsum_calls b 0 c [l, m] w hT (block_lt_of_cell hc) (fun j hj => by
    have hj' : j = 0 ∨ j = 1 := by simp at hj; omega
    rcases hj' with rfl | rfl
    · exact hc
    · exact hd) (by rw [join_two, List.length_append]; exact hm) (by simp)
  rw [join_two] at this
  exact this
theorem Tryz.zeroDg : (w8 (List.replicate 32 0)).toArray = #[Value.int .u8 0, .int .u8 0, .int .u8 0, .int .u8 0, .int .u8 0, .int .u8 0, .int .u8 0, .int .u8 0, .int .u8 0, .int .u8 0, .int .u8 0, .int .u8 0, .int .u8 0, .int .u8 0, .int .u8 0, .int .u8 0, .int .u8 0, .int .u8 0, .int .u8 0, .int .u8 0, .int .u8 0, .int .u8 0, .int .u8 0, .int .u8 0, .int .u8 0, .int .u8 0, .int .u8 0, .int .u8 0, .int .u8 0, .int .u8 0, .int .u8 0, .int .u8 0] := by kernel_rfl
def Mk.twice (l : List UInt8) : List UInt8 := Sha.sum (Sha.sum l)
set_option maxRecDepth 100000 in
set_option maxHeartbeats 2000000 in
theorem htwice_calls (b o c : Nat) (ps : List (List UInt8)) (w : World) (hT : Tabs w) (hb : b < w.heap.size) (hp : Parts w b o ps) (hm : (join ps).length ≤ 35184372088832) (hn : ps.length ≤ 9223372036854775807) :
    Calls Tryz.prog 90 #[.slice (some ⟨b, o, none⟩) ps.length c] w fun e w' =>
      e = .returned (.agg (w8 (Mk.twice (join ps))).toArray) ∧ Below w.heap.size w w' := by
  have h1 := hT.lt
  have HT := Lib.hid hT
  have HP := Lib.hid hp
  clear hT hp
  go_enter Tryz.func90, Tryz.ntmps90
  go_wp2_with fail
  have hR : Row (w.alloc (.cells (w8 (List.replicate 32 0)).toArray 76)) w.heap.size (w8 (List.replicate 32 0)) := Row.new w _ _
  have hB : Below w.heap.size w (w.alloc (.cells (w8 (List.replicate 32 0)).toArray 76)) := (Below.refl _ _).alloc (Nat.le_refl _) _
  have hZ : (w.alloc (.cells (w8 (List.replicate 32 0)).toArray 76)).heap.size = w.heap.size + 1 := by simp
  rw [Tryz.zeroDg] at hR hB hZ
  generalize w.alloc _ = w1 at hR hB hZ ⊢
  have B1 := Lib.hid hR
  have B2 := Lib.hid hB
  have hZ' : w.heap.size + 1 ≤ w1.heap.size := by omega
  clear hR hB hZ
  refine (hsum_calls b o c ps w1 (HT.out.below B2.out (by omega)) (by omega) (HP.out.below B2.out (by omega)) hm hn).mono ?_
  rintro e w2 ⟨rfl, hB2⟩
  have hz2 := hB2.size
  have hR3 : Row (w2.alloc (.cells (w8 (List.replicate 32 0)).toArray 76)) w2.heap.size (w8 (List.replicate 32 0)) := Row.new w2 _ _
  have hB3 : Below w2.heap.size w2 ((w2.alloc (.cells (w8 (List.replicate 32 0)).toArray 76)).setRow w2.heap.size (w8 (Sha.sum (join ps))).toArray) := below_setRow ((Below.refl _ _).alloc (Nat.le_refl _) _) (Nat.le_refl _) _
  have hz3 : ((w2.alloc (.cells (w8 (List.replicate 32 0)).toArray 76)).setRow w2.heap.size (w8 (Sha.sum (join ps))).toArray).heap.size = w2.heap.size + 1 := by simp
  have hR4 := hR3.setRow (w8 (Sha.sum (join ps)))
  rw [Tryz.zeroDg] at hR3 hB3 hz3 hR4
  go_wp2_with (first | (with_reducible refine store_dg (o := ⟨none, _, _, _, _, _⟩) rfl _ _ rfl w2.heap.size (List.replicate 32 0) (Sha.sum (join ps)) rfl (Sha.sum32 _) rfl rfl hR3 ?_) | (with_reducible refine conv_arm (o := ⟨some 7, _, _, _, _, _⟩) rfl _ _ _ _ rfl w2.heap.size 0 32 32 (Sha.sum (join ps)) (Sha.sum32 _) rfl Tryz.underlying35 Tryz.underlying5 Tryz.underlying9 hR4.bytes ?_))
  clear hR3 hR4
  generalize World.setRow _ _ _ = w3 at hB3 hz3 ⊢
  have hc4 := Row.new w3 [.string (str (Sha.sum (join ps)))] 9
  rw [hz3] at hc4
  have hB4 : Below w.heap.size w w3 := (B2.out.trans (hB2.mono (by omega))).trans (hB3.mono (by omega))
  refine (hsum_one (w2.heap.size + 1) 1 (Sha.sum (join ps)) _ (HT.out.below (hB4.alloc (by omega) _) (by omega)) (hc4.cell 0) (by rw [Sha.sum32]; decide)).mono ?_
  rintro e w5 ⟨rfl, hB5⟩
  have hz5 := hB5.size
  rw [World.size_alloc] at hz5
  have hBB : Below w.heap.size w w5 := (hB4.alloc (by omega) _).trans (hB5.mono (by rw [World.size_alloc]; omega))
  have hRR : Row w5 w.heap.size (w8 (List.replicate 32 0)) := ((((B1.out.below hB2 (by omega)).below hB3 (by omega)).alloc _).below hB5 (by rw [World.size_alloc]; omega))
  clear hc4 hB4 hB5 hB3 hB2
  have C1 := Lib.hid hBB
  clear hBB
  go_wp2_with (with_reducible refine store_dg (o := ⟨none, _, _, _, _, _⟩) rfl _ _ rfl w.heap.size (List.replicate 32 0) (Sha.sum (Sha.sum (join ps))) rfl (Sha.sum32 _) rfl rfl hRR ?_)
  obtain ⟨T2, hT2⟩ := hRR.setRow (w8 (Sha.sum (Sha.sum (join ps))))
  have hfin : Below w.heap.size w (w5.setRow w.heap.size (w8 (Sha.sum (Sha.sum (join ps)))).toArray) := below_setRow C1.out (Nat.le_refl _) _
  exact bodyPost_ret (v := .agg (w8 (Sha.sum (Sha.sum (join ps)))).toArray) (results_cell_row (fn := Tryz.f90) rfl _ _ w.heap.size T2 _ (0, 0) _ rfl hT2 Tryz.underlying76 rfl (by rw [Tryz.infoDg, List.size_toArray, w8_length]; exact congrArg some (Sha.sum32 _).symm)) rfl ⟨rfl, hfin⟩
theorem htwice_one (b c : Nat) (l : List UInt8) (w : World) (hT : Tabs w) (hc : w.cell? ⟨b, 0, none⟩ = some (.string (str l))) (hm : l.length ≤ 35184372088832) :
    Calls Tryz.prog 90 #[.slice (some ⟨b, 0, none⟩) 1 c] w fun e w' => e = .returned (.agg (w8 (Mk.twice l)).toArray) ∧ Below w.heap.size w w' := by
  have := htwice_calls b 0 c [l] w hT (block_lt_of_cell hc) (fun j hj => by
    have hj' : j = 0 := by simp at hj; omega
    subst hj'
    exact hc) (by rw [join_one]; exact hm) (by simp)
  rw [join_one] at this
  exact this
theorem htwice_two (b c : Nat) (l m : List UInt8) (w : World) (hT : Tabs w) (hc : w.cell? ⟨b, 0, none⟩ = some (.string (str l))) (hd : w.cell? ⟨b, 1, none⟩ = some (.string (str m))) (hm : l.length + m.length ≤ 35184372088832) :
    Calls Tryz.prog 90 #[.slice (some ⟨b, 0, none⟩) 2 c] w fun e w' => e = .returned (.agg (w8 (Mk.twice (l ++ m))).toArray) ∧ Below w.heap.size w w' := by
  have := htwice_calls b 0 c [l, m] w hT (block_lt_of_cell hc) (fun j hj => by
    have hj' : j = 0 ∨ j = 1 := by simp at hj; omega
    rcases hj' with rfl | rfl
    · exact hc
    · exact hd) (by rw [join_two, List.length_append]; exact hm) (by simp)
  rw [join_two] at this
  exact this
/-- a new block with a digest in it -/
theorem fresh_dg (w : World) (m : List UInt8) (T : TypeId) : Below w.heap.size w ((w.alloc (.cells (w8 (List.replicate 32 0)).toArray T)).setRow w.heap.size (w8 m).toArray) ∧
    ((w.alloc (.cells (w8 (List.replicate 32 0)).toArray T)).setRow w.heap.size (w8 m).toArray).heap.size = w.heap.size + 1 ∧ Row ((w.alloc (.cells (w8 (List.replicate 32 0)).toArray T)).setRow w.heap.size (w8 m).toArray) w.heap.size (w8 m) ∧
    Row (w.alloc (.cells (w8 (List.replicate 32 0)).toArray T)) w.heap.size (w8 (List.replicate 32 0)) :=
  ⟨below_setRow ((Below.refl _ _).alloc (Nat.le_refl _) _) (Nat.le_refl _) _, by simp, (Row.new w _ _).setRow _, Row.new w _ _⟩
end Go.Proofs.YtlpcjiollnnmgabGreatDoor
