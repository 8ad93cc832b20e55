/-
  THE WALK OF (*hash.state).sum.
-/
import Derived.Test.YtlpcjiollnnmgabGreatDoorShaWrite
import Derived.Outline
import Derived.Laws.Rows
import Derived.Laws.Tables
namespace Go.Proofs.YtlpcjiollnnmgabGreatDoor
open Go.RowKit Nums
theorem Buf.weaken {w : World} {O O' : Nat → Prop} {rv : Value} {l : List UInt8} (h : Buf w O rv l) (ho : ∀ k, k < w.heap.size → O k → O' k) : Buf w O' rv l := by
  rcases h with h | ⟨g, off, cap, h1, h2, h3, h4, h5, h6⟩
  · exact .inl h
  · exact .inr ⟨g, off, cap, h1, h2, ho _ h4 h3, h4, h5, h6⟩
theorem St.weaken {w : World} {S : Nat} {O O' : Nat → Prop} {L : List UInt8} (h : St w S O L) (ho : ∀ k, k < w.heap.size → O k → O' k) : St w S O' L := by
  obtain ⟨rv, h1, h2⟩ := h
  exact ⟨rv, h1, h2.weaken ho⟩
theorem St.alloc {w : World} {S : Nat} {O : Nat → Prop} {L : List UInt8} (h : St w S O L) (o : Obj) : St (w.alloc o) S O L := by
  obtain ⟨rv, h1, h2⟩ := h
  exact ⟨rv, h1.alloc o, h2.alloc o⟩
theorem St.lt {w : World} {S : Nat} {O : Nat → Prop} {L : List UInt8} (h : St w S O L) : S < w.heap.size := by
  obtain ⟨rv, h1, _⟩ := h
  exact h1.lt
theorem St.cell9 {w : World} {S : Nat} {O : Nat → Prop} {L : List UInt8} (h : St w S O L) : w.cell? ⟨S, 9, none⟩ = some (.int .u64 (U (UInt64.ofNat L.length))) := by
  obtain ⟨rv, h1, _⟩ := h
  have hll : (w32 (H8l (Sha.blocks (L.length / 64) Sha.begin L))).length = 8 := rfl
  rw [h1.cell, List.getElem?_append_right (by rw [hll]; decide), hll]; rfl
theorem St.cell8 {w : World} {S : Nat} {O : Nat → Prop} {L : List UInt8} (h : St w S O L) : ∃ ra rcap, w.cell? ⟨S, 8, none⟩ = some (.slice ra (L.length % 64) rcap) := by
  obtain ⟨rv, h1, h2⟩ := h
  have hll : (w32 (H8l (Sha.blocks (L.length / 64) Sha.begin L))).length = 8 := rfl
  obtain ⟨ra, rcap, h3, _⟩ := h2.len
  have e : (L.drop (64 * (L.length / 64))).length = L.length % 64 := by rw [List.length_drop]; omega
  rw [e] at h3
  exact ⟨ra, rcap, by rw [h1.cell, List.getElem?_append_right (by rw [hll]; decide), hll, h3]; rfl⟩
/-- a slice of one new cell -/
theorem Bytes.one (w : World) (x : UInt8) (v : Int) (hv : v = Y x) (T : TypeId) : Bytes (w.alloc (.cells #[.int .u8 v] T)) w.heap.size 0 [x] := fun j hj => by
  obtain rfl : j = 0 := by simp at hj; omega
  subst hv
  exact (Row.new w [.int .u8 (Y x)] T).cell 0
theorem Bytes.one2 (w : World) (o : Obj) (x : UInt8) (v : Int) (hv : v = Y x) (T : TypeId) : Bytes ((w.alloc o).alloc (.cells #[.int .u8 v] T)) (w.heap.size + 1) 0 [x] := by
  have := Bytes.one (w.alloc o) x v hv T
  rw [World.size_alloc] at this
  exact this
/-- the struct is kept where neither its block nor its buffer's has turned -/
theorem St.keep {w w' : World} {S : Nat} {O P : Nat → Prop} {L : List UInt8} (h : St w S O L) (hk : Keep P w w') (hS : ¬ P S) (hO : ∀ k, O k → ¬ P k) : St w' S O L := by
  obtain ⟨rv, h1, h2⟩ := h
  exact ⟨rv, hk.row h1 hS, h2.same hk.size fun k ho hl => hk.block k hl (hO k ho)⟩
theorem Sha.be8_get (N : UInt64) (i : Nat) (h : i < 8) : nth (Sha.be8 N) i = (shr N (56 - 8 * i)).toUInt8 := by
  match i, h with
  | 0, _ => rfl
  | 1, _ => rfl
  | 2, _ => rfl
  | 3, _ => rfl
  | 4, _ => rfl
  | 5, _ => rfl
  | 6, _ => rfl
  | 7, _ => rfl
/-- a row filled up to i: one byte more -/
theorem fill_next (l : List UInt8) (i m : Nat) (h : i < l.length) : (l.take i ++ List.replicate (m + 1) 0).set i (nth l i) = l.take (i + 1) ++ List.replicate m 0 := by
  have hl : (l.take i).length = i := by rw [List.length_take]; omega
  rw [List.set_append_right _ _ (by omega), hl, Nat.sub_self, List.replicate_succ, List.set_cons_zero]
  have e : nth l i = l[i] := by simp [nth, h]
  rw [e, ← List.take_concat_get h, List.concat_eq_append, List.append_assoc, List.singleton_append]
theorem run_index_agg {P : Program} (t e : TypeId) (n : Nat) (cs : Array Value) (k : IntKind) (i : Int) (h : P.underlying t = some (.array n e)) (v : Value) (h0 : 0 ≤ i) (hi : i < n) (hv : cs[i.toNat]? = some v) (hs : ∀ w, (sizeOf e).run P w = .ok 1 w) (ha : ∀ w, (isAgg e).run P w = .ok false w) (w : World) :
    (Instr.index t (.agg cs) (.int k i)).run P w = .ok v w := by
  simp [Instr.index, run_underlying h, asIntOf, h0, hi, hs, ha, hv, part, go_sem]
/-- four bytes of eight words -/
theorem Sha.out_get (s : Sha.H8) (i : Nat) (h : i < 8) :
    nth (Sha.out s) (4 * i) = (shr32 (Sha.nw (H8l s) i) 24).toUInt8 ∧ nth (Sha.out s) (4 * i + 1) = (shr32 (Sha.nw (H8l s) i) 16).toUInt8 ∧
    nth (Sha.out s) (4 * i + 2) = (shr32 (Sha.nw (H8l s) i) 8).toUInt8 ∧ nth (Sha.out s) (4 * i + 3) = (Sha.nw (H8l s) i).toUInt8 := by
  match i, h with
  | 0, _ => exact ⟨rfl, rfl, rfl, rfl⟩
  | 1, _ => exact ⟨rfl, rfl, rfl, rfl⟩
  | 2, _ => exact ⟨rfl, rfl, rfl, rfl⟩
  | 3, _ => exact ⟨rfl, rfl, rfl, rfl⟩
  | 4, _ => exact ⟨rfl, rfl, rfl, rfl⟩
  | 5, _ => exact ⟨rfl, rfl, rfl, rfl⟩
  | 6, _ => exact ⟨rfl, rfl, rfl, rfl⟩
  | 7, _ => exact ⟨rfl, rfl, rfl, rfl⟩
theorem fill4 (l : List UInt8) (i : Nat) (h : i < 8) (hl : l.length = 32) (a b c d : UInt8) (ha : nth l (4 * i) = a) (hb : nth l (4 * i + 1) = b) (hc : nth l (4 * i + 2) = c) (hd : nth l (4 * i + 3) = d) :
    ((((w8 (l.take (4 * i) ++ List.replicate (32 - 4 * i) 0)).set (4 * i) (.int .u8 (Y a))).set (4 * i + 1) (.int .u8 (Y b))).set (4 * i + 2) (.int .u8 (Y c))).set (4 * i + 3) (.int .u8 (Y d)) =
      w8 (l.take (4 * (i + 1)) ++ List.replicate (32 - 4 * (i + 1)) 0) := by
  subst ha hb hc hd
  rw [show 32 - 4 * i = (32 - 4 * (i + 1)) + 1 + 1 + 1 + 1 by omega]
  rw [w8_set, fill_next _ _ _ (by omega), w8_set, fill_next _ _ _ (by omega), w8_set, fill_next _ _ _ (by omega), w8_set, fill_next _ _ _ (by omega)]
  rfl
theorem Tryz.infoDg : (Tryz.prog.info? 76).map (fun i => i.size) = some 32 := by kernel_rfl
theorem Row.all {w : World} {b : Nat} {l : List Value} (h : Row w b l) : ∃ T, w.heap[b]? = some (.cells l.toArray T) := h
theorem Row.setRow {w : World} {b : Nat} {l : List Value} (h : Row w b l) (m : List Value) : Row (w.setRow b m.toArray) b m := by
  obtain ⟨T, h⟩ := h; exact ⟨T, setRow_heap w b _ _ T _ h⟩
theorem Row.setOther {w : World} {b g : Nat} {l : List Value} (h : Row w b l) (hb : b ≠ g) (m : Array Value) : Row (w.setRow g m) b l := by
  obtain ⟨T, h⟩ := h; exact ⟨T, by rw [setRow_other w g b m hb]; exact h⟩
theorem Keep.setRow {O : Nat → Prop} {w w' : World} (h : Keep O w w') (g : Nat) (m : Array Value) (hg : O g) : Keep O w (w'.setRow g m) :=
  ⟨h.os, h.tape, h.output, by rw [setRow_size]; exact h.size, fun k hk hn => (setRow_other w' g k m (fun he => hn (he ▸ hg))).trans (h.block k hk hn)⟩
/-- a digest out of a block of its own -/
theorem load_dg {ops : Array Oper} {rest : List Oper} {o : Oper} {a : Act} {w : World} {Q : Exit → Act → World → Prop} (hgd : o.guard = none) (x : Operand) (ho : o.op = .load 76 x)
    (g : Nat) (l : List UInt8) (hl : l.length = 32) (hx : a.eval x = .pointer (some ⟨g, 0, none⟩)) (hr : Row w g (w8 l))
    (h : wpList Tryz.prog ops Q rest (a.put o.dst (.agg (w8 l).toArray)) w) : wpList Tryz.prog ops Q (o :: rest) a w := by
  obtain ⟨T, hT⟩ := hr
  exact wpList_load_row hgd _ x ho g hx T _ (0, 0) _ hT Tryz.underlying76 rfl (by rw [Tryz.infoDg, List.size_toArray, w8_length, hl]) h
/-- a digest into a block of its own -/
theorem store_dg {ops : Array Oper} {rest : List Oper} {o : Oper} {a : Act} {w : World} {Q : Exit → Act → World → Prop} (hgd : o.guard = none) (x y : Operand) (ho : o.op = .store 76 x y)
    (g : Nat) (l m : List UInt8) (hl : l.length = 32) (hm : m.length = 32) (hx : a.eval x = .pointer (some ⟨g, 0, none⟩)) (hy : a.eval y = .agg (w8 m).toArray) (hr : Row w g (w8 l))
    (h : wpList Tryz.prog ops Q rest (a.put o.dst undef) (w.setRow g (w8 m).toArray)) : wpList Tryz.prog ops Q (o :: rest) a w := by
  obtain ⟨T, hT⟩ := hr
  refine wpList_store_row hgd _ x y ho g _ hx hy T _ hT (by rw [Tryz.infoDg, List.size_toArray, w8_length, hm]) (by rw [List.size_toArray, List.size_toArray, w8_length, w8_length, hl, hm]) ?_ h
  rw [List.all_toArray]; exact List.all_eq_true.2 (w8_one m)
set_option maxRecDepth 100000 in
set_option maxHeartbeats 2000000 in
theorem sum_calls (S : Nat) (O : Nat → Prop) (L : List UInt8) (w : World) (hst : St w S O L) (hSB : ¬ O S) (hS1 : S ≠ 1) (h1B : ¬ O 1) (hB : ∀ k, w.heap.size ≤ k → O k)
    (hm : L.length ≤ 35184372088832) (hK : Row w 1 (w32 Sha.rounds)) :
    Calls Tryz.prog 108 #[.pointer (some ⟨S, 0, none⟩)] w fun e w' =>
      e = .returned (.agg (w8 (Sha.sum L)).toArray) ∧ Keep (fun k => k = S ∨ O k) w w' := by
  have c9 : ∀ o, (w.alloc o).cell? ⟨S, 9, none⟩ = some (.int .u64 (U (UInt64.ofNat L.length))) := fun o => (hst.alloc o).cell9
  have hSl := hst.lt
  have hKl := hK.lt
  have HST := Lib.hid hst
  have H9 := Lib.hid hK
  clear hK hst
  go_enter Tryz.func108, Tryz.ntmps108
  go_wp2_with fail
  refine (write_calls S (fun k => O k ∧ k ≠ w.heap.size) L [128] (w.heap.size + 1) 0 1 _ (((HST.out.weaken fun k hk ho => ⟨ho, by omega⟩).alloc _).alloc _) (fun h => hSB h.1) hS1 (fun h => h1B h.1) (fun k hk => ⟨hB k (by simp at hk; omega), by simp at hk; omega⟩) (by omega) ?_ (by simp; omega) ((H9.out.alloc _).alloc _)).mono ?_
  · exact Bytes.one2 w _ 128 128 rfl _
  rintro e w2 ⟨rfl, hst2, hk2⟩
  have hkk : Keep (fun k => k = S ∨ O k) w w2 := (((Keep.refl _ w).alloc _).alloc _).trans (hk2.weaken fun k _ h => h.imp id (fun h => h.1))
  have hR2 := hk2.row ((Row.new w (w8 (List.replicate 32 0)) _).alloc _) (fun h => h.elim (fun h => by omega) (fun h => h.2 rfl))
  have hs2 : w.heap.size + 2 ≤ w2.heap.size := by have := hk2.size; simpa using this
  clear hk2 c9
  have K2 := Lib.hid hkk
  have R2 := Lib.hid hR2
  have S2 := Lib.hid hst2
  clear hkk hR2 hst2
  go_wp2_with fail
  go_loopg [] (Sha.zeros L.length) (fun n wr => ∃ j : Nat, j ≤ Sha.zeros L.length ∧ Sha.zeros L.length - j ≤ n ∧ St wr S (fun k => O k ∧ k ≠ w.heap.size) (L ++ [128] ++ List.replicate j 0) ∧ Keep (fun k => k = S ∨ O k) w wr ∧ Row wr w.heap.size (w8 (List.replicate 32 0)) ∧ w.heap.size + 2 ≤ wr.heap.size)
  case atStart => exact ⟨0, by omega, by omega, by rw [List.replicate_zero, List.append_nil]; exact S2.out, K2.out, R2.out, hs2⟩
  case round =>
    obtain ⟨j, hj, hjn, hst, hk, hR, hz⟩ := hrel
    obtain ⟨ra, rcap, c8⟩ := hst.cell8
    have hM : (L ++ [128] ++ List.replicate j (0 : UInt8)).length = L.length + 1 + j := by simp; omega
    rw [hM] at c8
    have hmod : (L.length + 1 + j) % 64 = 56 ↔ j = Sha.zeros L.length := by unfold Sha.zeros at hj ⊢; omega
    have HS := Lib.hid hst
    have HK := Lib.hid hk
    have HR := Lib.hid hR
    clear hst hk hR
    by_cases hjz : j = Sha.zeros L.length
    · have he := hmod.2 hjz
      go_wp2_with fail
      have hAR : Row (wr.alloc (.cells (w8 (List.replicate 8 0)).toArray 195)) wr.heap.size (w8 (List.replicate 8 0)) := Row.new wr _ _
      have hst1 := (HS.out.weaken (O' := fun k => O k ∧ k ≠ w.heap.size ∧ k ≠ wr.heap.size) (fun k hk ho => ⟨ho.1, ho.2, by omega⟩)).alloc (.cells (w8 (List.replicate 8 0)).toArray 195)
      have hk1 := HK.out.alloc (.cells (w8 (List.replicate 8 0)).toArray 195)
      have hR1 := HR.out.alloc (.cells (w8 (List.replicate 8 0)).toArray 195)
      have hN : UInt64.ofNat L.length * toU 8 = UInt64.ofNat (8 * L.length) := by
        rw [show toU 8 = UInt64.ofNat 8 from rfl, ← UInt64.ofNat_mul, Nat.mul_comm]
      rw [hN]
      have e8 : (w8 (List.replicate 8 0)).toArray = #[.int .u8 0, .int .u8 0, .int .u8 0, .int .u8 0, .int .u8 0, .int .u8 0, .int .u8 0, .int .u8 0] := by kernel_rfl
      rw [e8] at hAR hst1 hk1 hR1
      have hA1 : wr.heap.size < (wr.alloc (.cells #[.int .u8 0, .int .u8 0, .int .u8 0, .int .u8 0, .int .u8 0, .int .u8 0, .int .u8 0, .int .u8 0] 195)).heap.size := by simp
      generalize hNe : UInt64.ofNat (8 * L.length) = N
      have hNN := Lib.hid hNe
      clear hNe
      generalize wr.alloc _ = wa at hAR hst1 hk1 hR1 hA1 ⊢
      generalize hA : wr.heap.size = A at hAR hst1 hA1 ⊢
      have q1 := Lib.hid hAR
      have q2 := Lib.hid hst1
      have q3 := Lib.hid hk1
      have q4 := Lib.hid hR1
      have q5 := Lib.hid hA
      have hzA : w.heap.size + 2 ≤ A := by omega
      clear hAR hst1 hk1 hR1 hA c8
      obtain ⟨wq, rfl⟩ : ∃ wq : World, wq = wr := ⟨_, rfl⟩
      go_loopw [26] (fun v wl => ∃ i : Nat, i ≤ 8 ∧ v = .int .i64 i ∧ Row wl A (w8 ((Sha.be8 N).take i ++ List.replicate (8 - i) 0)) ∧ Keep (fun k => k = A) wa wl) (fun v _ => 8 - (intOf v).toNat)
      case atStart => exact ⟨0, by omega, rfl, q1.out, Keep.refl _ _⟩
      case round =>
        obtain ⟨i, hi, rfl, hrow, hk⟩ := hrel
        by_cases hlt : i < 8
        · have hll : (w8 ((Sha.be8 N).take i ++ List.replicate (8 - i) 0)).length = 8 := by simp [w8, Sha.be8]; omega
          have cw : ∃ v, wr.cell? ⟨A, i, none⟩ = some v := ⟨_, by rw [hrow.cell]; exact List.getElem?_eq_getElem (by omega)⟩
          obtain ⟨u, cu⟩ := cw
          have fz := hrow.free i
          have g1 := Lib.hid hrow
          have g2 := Lib.hid hk
          clear hrow hk hll
          have p0 : (0 : Int) ≤ 56 - 8 * (i : Int) := by omega
          have p1 : (i : Int) < 8 := by omega
          go_wp2_with fail
          refine ⟨⟨i + 1, by omega, by go_num, ?_, g2.out.set ⟨A, i, none⟩ _ rfl⟩, by simp [intOf]; omega⟩
          have := g1.out.set i (.int .u8 (Y (shr N (56 - 8 * i)).toUInt8))
          rw [show 8 - i = (8 - (i + 1)) + 1 by omega, w8_set, ← Sha.be8_get N i hlt, fill_next _ _ _ (by show i < 8; exact hlt)] at this
          rw [Sha.be8_get N i hlt] at this
          exact this
        · obtain rfl : i = 8 := by omega
          rw [show ((8 : Nat) : Int) = 8 from rfl]
          have ek : Keep (fun k => k = S ∨ O k) w wr := q3.out.trans (hk.weaken fun k _ h => .inr (hB k (by have h' : k = A := h; omega)))
          have es : St wr S (fun k => O k ∧ k ≠ w.heap.size ∧ k ≠ A) (L ++ [128] ++ List.replicate j 0) := q2.out.keep hk (fun h : S = A => by omega) (fun k h => h.2.2)
          have er : Row wr w.heap.size (w8 (List.replicate 32 0)) := hk.row q4.out (fun h : w.heap.size = A => by omega)
          have ea : Bytes wr A 0 (Sha.be8 N) := fun j hj => by
            have := hrow.cell j
            rw [List.take_of_length_le (Nat.le_refl 8), Nat.sub_self, List.replicate_zero, List.append_nil] at this
            rw [Nat.zero_add, this]; exact w8_get _ j hj
          have ez := hk.size
          have hpad : L ++ [128] ++ List.replicate j (0 : UInt8) ++ Sha.be8 N = Sha.pad L := by rw [hjz, ← hNN.out]; rfl
          have hzz : Sha.zeros L.length < 64 := by unfold Sha.zeros; omega
          have hpl : (L ++ [128] ++ List.replicate j (0 : UInt8)).length + (Sha.be8 N).length ≤ 70368744177664 := by rw [hM]; show _ + 8 ≤ _; omega
          have hw0 : w.heap.size < A := by omega
          have hpa := Lib.hid hpad
          have hsl := es.lt
          have E1 := Lib.hid ek
          have E2 := Lib.hid er
          have E3 := Lib.hid es
          have E4 := Lib.hid ea
          clear ek er es ea hpad hrow hk
          go_wp2_with fail
          refine (write_calls S (fun k => O k ∧ k ≠ w.heap.size ∧ k ≠ A) _ (Sha.be8 N) A 0 8 wr E3.out (fun h => hSB h.1) hS1 (fun h => h1B h.1) (fun k hk => ⟨hB k (by omega), by omega, by omega⟩) (by omega) E4.out hpl (E1.out.row H9.out (fun h => h.elim (fun h => hS1 h.symm) h1B))).mono ?_
          rintro e w4 ⟨rfl, hst4, hk4⟩
          rw [hpa.out] at hst4
          have er4 := hk4.row E2.out (fun h => h.elim (fun h => by omega) (fun h => h.2.1 rfl))
          have ek4 : Keep (fun k => k = S ∨ O k) w w4 := E1.out.trans (hk4.weaken fun k _ h => h.imp id (fun h => h.1))
          have ez4 : wr.heap.size ≤ w4.heap.size := hk4.size
          obtain ⟨rv4, hs4, _⟩ := hst4
          have hrc : ∀ j, j < 8 → w4.cell? ⟨S, j, none⟩ = some (.int .u32 (V (Sha.nw (H8l (Sha.blocks ((Sha.pad L).length / 64) Sha.begin (Sha.pad L))) j))) := fun j hj => by
            rw [hs4.cell, List.getElem?_append_left (by simp [w32, H8l]; omega), w32_get _ _ (by simp [H8l]; omega)]
          generalize hse : Sha.blocks ((Sha.pad L).length / 64) Sha.begin (Sha.pad L) = s at hs4 hrc
          have hsum : Hid (Sha.sum L = Sha.out s) := Lib.hid (by rw [← hse]; rfl)
          clear hse
          have c0 := hrc 0 (by omega)
          have c1 := hrc 1 (by omega)
          have c2 := hrc 2 (by omega)
          have c3 := hrc 3 (by omega)
          have c4 := hrc 4 (by omega)
          have c5 := hrc 5 (by omega)
          have c6 := hrc 6 (by omega)
          have c7 := hrc 7 (by omega)
          simp only [show Sha.nw (H8l s) 0 = s.a from rfl, show Sha.nw (H8l s) 1 = s.b from rfl, show Sha.nw (H8l s) 2 = s.c from rfl, show Sha.nw (H8l s) 3 = s.d from rfl, show Sha.nw (H8l s) 4 = s.e from rfl, show Sha.nw (H8l s) 5 = s.f from rfl, show Sha.nw (H8l s) 6 = s.g from rfl, show Sha.nw (H8l s) 7 = s.h from rfl] at c0 c1 c2 c3 c4 c5 c6 c7
          have hs4l := hs4.lt
          have F1 := Lib.hid er4
          have F2 := Lib.hid ek4
          clear hrc hs4 er4 ek4 hk4
          go_wp2_with fail
          have hD : Row (w4.alloc (.cells (w8 (List.replicate 32 0)).toArray 76)) w4.heap.size (w8 (List.replicate 32 0)) := Row.new w4 _ _
          have hk5 := F2.out.alloc (.cells (w8 (List.replicate 32 0)).toArray 76)
          have hR5 := F1.out.alloc (.cells (w8 (List.replicate 32 0)).toArray 76)
          have e32 : (w8 (List.replicate 32 0)).toArray = #[.int .u8 0, .int .u8 0, .int .u8 0, .int .u8 0, .int .u8 0, .int .u8 0, .int .u8 0, .int .u8 0, .int .u8 0, .int .u8 0, .int .u8 0, .int .u8 0, .int .u8 0, .int .u8 0, .int .u8 0, .int .u8 0, .int .u8 0, .int .u8 0, .int .u8 0, .int .u8 0, .int .u8 0, .int .u8 0, .int .u8 0, .int .u8 0, .int .u8 0, .int .u8 0, .int .u8 0, .int .u8 0, .int .u8 0, .int .u8 0, .int .u8 0, .int .u8 0] := by kernel_rfl
          rw [e32] at hD hk5 hR5
          clear e32
          generalize w4.alloc _ = w5 at hD hk5 hR5 ⊢
          have hRD : w.heap.size < w4.heap.size := by omega
          have hDB : w.heap.size ≤ w4.heap.size := by omega
          generalize w4.heap.size = D at hD hRD hDB ⊢
          clear c0 c1 c2 c3 c4 c5 c6 c7
          have hcs : #[Value.int .u32 (V s.a), .int .u32 (V s.b), .int .u32 (V s.c), .int .u32 (V s.d), .int .u32 (V s.e), .int .u32 (V s.f), .int .u32 (V s.g), .int .u32 (V s.h)] = (w32 (H8l s)).toArray := rfl
          have hidx : ∀ i : Nat, i < 8 → ∀ w' : World, (Instr.index 169 (.agg #[Value.int .u32 (V s.a), .int .u32 (V s.b), .int .u32 (V s.c), .int .u32 (V s.d), .int .u32 (V s.e), .int .u32 (V s.f), .int .u32 (V s.g), .int .u32 (V s.h)]) (.int .i64 (i : Int))).run Tryz.prog w' = .ok (.int .u32 (V (Sha.nw (H8l s) i))) w' := fun i hi w' =>
            run_index_agg _ 168 8 _ _ _ Tryz.underlying169 _ (by omega) (by omega) (by rw [hcs, Int.toNat_natCast, List.getElem?_toArray]; exact w32_get _ _ hi) (fun _ => by kernel_rfl) (fun _ => by kernel_rfl) _
          have HIDX := Lib.hid hidx
          have P1 := Lib.hid hD
          have P2 := Lib.hid hk5
          have P3 := Lib.hid hR5
          clear hidx hcs hD hk5 hR5
          obtain ⟨wp, rfl⟩ : ∃ wp : World, wp = wr := ⟨_, rfl⟩
          go_loopw [45] (fun v wl => ∃ i : Nat, i ≤ 8 ∧ v = .int .i64 i ∧ Row wl D (w8 ((Sha.out s).take (4 * i) ++ List.replicate (32 - 4 * i) 0)) ∧ Keep (fun k => k = D) w5 wl) (fun v _ => 8 - (intOf v).toNat)
          case atStart => exact ⟨0, by omega, rfl, P1.out, Keep.refl _ _⟩
          case round =>
            obtain ⟨i, hi, rfl, hrow, hk⟩ := hrel
            by_cases hlt : i < 8
            · have hx := HIDX.out i hlt
              have g1 := Lib.hid hrow
              have g2 := Lib.hid hk
              have hll : (w8 ((Sha.out s).take (4 * i) ++ List.replicate (32 - 4 * i) 0)).length = 32 := by simp [w8, Sha.out_length]; omega
              have cw : ∀ j, j < 32 → ∃ v, wr.cell? ⟨D, j, none⟩ = some v := fun j hj => ⟨_, by rw [hrow.cell]; exact List.getElem?_eq_getElem (by omega)⟩
              obtain ⟨u0, d0⟩ := cw (4 * i) (by omega)
              obtain ⟨u1, d1⟩ := cw (4 * i + 1) (by omega)
              obtain ⟨u2, d2⟩ := cw (4 * i + 2) (by omega)
              obtain ⟨u3, d3⟩ := cw (4 * i + 3) (by omega)
              have z0 := hrow.free (4 * i)
              have z1 := hrow.free (4 * i + 1)
              have z2 := hrow.free (4 * i + 2)
              have z3 := hrow.free (4 * i + 3)
              clear hrow hk hll cw
              have p0 : (0 : Int) ≤ 4 * (i : Int) := by omega
              have p1 : 4 * (i : Int) < 32 := by omega
              have p2 : 4 * (i : Int) + 1 < 32 := by omega
              have p3 : 4 * (i : Int) + 2 < 32 := by omega
              have p4 : 4 * (i : Int) + 3 < 32 := by omega
              go_wp2_with fail
              refine ⟨⟨i + 1, by omega, by go_num, ?_, (((g2.out.set ⟨D, 4 * i, none⟩ _ rfl).set ⟨D, 4 * i + 1, none⟩ _ rfl).set ⟨D, 4 * i + 2, none⟩ _ rfl).set ⟨D, 4 * i + 3, none⟩ _ rfl⟩, by simp [intOf]; omega⟩
              obtain ⟨q0, q1, q2, q3⟩ := Sha.out_get s i hlt
              have := (((g1.out.set (4 * i) (.int .u8 (Y (shr32 (Sha.nw (H8l s) i) 24).toUInt8))).set (4 * i + 1) (.int .u8 (Y (shr32 (Sha.nw (H8l s) i) 16).toUInt8))).set (4 * i + 2) (.int .u8 (Y (shr32 (Sha.nw (H8l s) i) 8).toUInt8))).set (4 * i + 3) (.int .u8 (Y (Sha.nw (H8l s) i).toUInt8))
              rw [fill4 _ i hlt (Sha.out_length s) _ _ _ _ q0 q1 q2 q3] at this
              exact this
            · obtain rfl : i = 8 := by omega
              rw [show ((8 : Nat) : Int) = 8 from rfl]
              have hro : Row wr D (w8 (Sha.out s)) := by
                have := hrow
                rw [List.take_of_length_le (by rw [Sha.out_length]; decide)] at this
                simpa using this
              have hre := hk.row P3.out (fun h : w.heap.size = D => by omega)
              go_wp2_with (first | (with_reducible refine load_dg (o := ⟨some 76, _, _, _, _, _⟩) rfl _ rfl D (Sha.out s) (Sha.out_length s) rfl hro ?_) | (with_reducible refine store_dg (o := ⟨none, _, _, _, _, _⟩) rfl _ _ rfl w.heap.size (List.replicate 32 0) (Sha.out s) rfl (Sha.out_length s) rfl rfl hre ?_))
              rw [hsum.out]
              have hkk := (P2.out.trans (hk.weaken fun k hk he => .inr (hB k (by have he' : k = D := he; omega)))).setRow w.heap.size (w8 (Sha.out s)).toArray (.inr (hB _ (Nat.le_refl _)))
              obtain ⟨T2, hT2⟩ := hre.setRow (w8 (Sha.out s))
              exact bodyPost_ret (v := .agg (w8 (Sha.out s)).toArray) (results_cell_row (fn := Tryz.f108) rfl _ _ w.heap.size T2 _ (0, 0) _ rfl hT2 Tryz.underlying76 rfl (by rw [Tryz.infoDg, List.size_toArray, w8_length, Sha.out_length])) rfl ⟨rfl, hkk⟩
    · have he : (L.length + 1 + j) % 64 ≠ 56 := fun h => hjz (hmod.1 h)
      have hzz : Sha.zeros L.length < 64 := by unfold Sha.zeros; omega
      go_wp2_with fail
      refine (write_calls S (fun k => O k ∧ k ≠ w.heap.size) _ [0] wr.heap.size 0 1 _ (HS.out.alloc _) (fun h => hSB h.1) hS1 (fun h => h1B h.1) (fun k hk => ⟨hB k (by simp at hk; omega), by simp at hk; omega⟩) (by omega) (Bytes.one wr 0 0 rfl _) (by rw [hM]; simp; omega) ((HK.out.row H9.out (fun h => h.elim (fun h => hS1 h.symm) h1B)).alloc _)).mono ?_
      rintro e w3 ⟨rfl, hst3, hk3⟩
      have hs3 : wr.heap.size + 1 ≤ w3.heap.size := by have := hk3.size; simpa using this
      have hR3 := hk3.row (HR.out.alloc _) (fun h => h.elim (fun h => by omega) (fun h => h.2 rfl))
      have hK3 : Keep (fun k => k = S ∨ O k) w w3 := (HK.out.alloc _).trans (hk3.weaken fun k _ h => h.imp id (fun h => h.1))
      have e3 : L ++ [128] ++ List.replicate j (0 : UInt8) ++ [0] = L ++ [128] ++ List.replicate (j + 1) 0 := by rw [List.append_assoc, List.replicate_succ']
      rw [e3] at hst3
      have A3 := Lib.hid hst3
      have B3 := Lib.hid hR3
      have C3 := Lib.hid hK3
      clear hst3 hR3 hK3 hk3 c8
      go_wp2_with fail
      go_roundg (gk - 1)
      case rel => exact ⟨j + 1, by omega, by omega, A3.out, C3.out, B3.out, by omega⟩
      case measure => omega
end Go.Proofs.YtlpcjiollnnmgabGreatDoor
