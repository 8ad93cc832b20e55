/-
  relay.name; wire.Join.
-/
import Derived.Test.YtlpcjiollnnmgaaDoorSizeW
set_option maxRecDepth 100000
namespace Go.Proofs.YtlpcjiollnnmgaaDoor
open Go.RowKit Nums
set_option maxHeartbeats 1000000 in
theorem name_calls (l : List UInt8) (w : World) (hT : Tabs w) (hm : l.length ≤ 35184372088832) :
    Calls Tryd.prog 40 #[.string (str l)] w fun e w' => e = .returned (.string (str (Mk.twice l))) ∧ Below w.heap.size w w' := by
  have h1 := hT.lt
  have hc := Row.new w [.string (str l)] 9
  have hB : Below w.heap.size w (w.alloc (.cells #[.string (str l)] 9)) := (Below.refl _ _).alloc (Nat.le_refl _) _
  have T1 := Lib.hid (htwice_one w.heap.size 1 l _ (hT.below hB h1) (hc.cell 0) hm)
  have HB := Lib.hid hB
  clear hT hc hB
  go_enter Tryd.func40, Tryd.ntmps40
  go_wp2_with fail
  refine T1.out.mono ?_
  rintro e w2 ⟨rfl, hb2⟩
  have hz2 := hb2.size
  rw [World.size_alloc] at hz2
  have B2 := Lib.hid (HB.out.trans (hb2.mono (by rw [World.size_alloc]; omega)))
  have hR3 : Row (w2.alloc (.cells (w8 (List.replicate 32 0)).toArray 56)) w2.heap.size (w8 (List.replicate 32 0)) := Row.new w2 _ _
  have hB3 := below_setRow ((Below.refl w2.heap.size w2).alloc (Nat.le_refl _) (.cells (w8 (List.replicate 32 0)).toArray 56)) (Nat.le_refl _) (w8 (Mk.twice l)).toArray
  have hR4 := hR3.setRow (w8 (Mk.twice l))
  rw [Tryd.zeroDg] at hR3 hB3 hR4
  have B3 := Lib.hid hB3
  clear hb2 T1 hB3
  go_wp2_with (first | (with_reducible refine store_dg (o := ⟨none, _, _, _, _, _⟩) rfl _ _ rfl w2.heap.size (List.replicate 32 0) (Mk.twice l) rfl (twice32 l) rfl rfl hR3 ?_) | (with_reducible refine conv_arm (o := ⟨some 8, _, _, _, _, _⟩) rfl _ _ _ _ rfl w2.heap.size 0 32 32 (Mk.twice l) (twice32 l) rfl Tryd.underlying36 Tryd.underlying5 Tryd.underlying9 hR4.bytes ?_))
  go_ret
  exact ⟨rfl, B2.out.trans (B3.out.mono (by omega))⟩
theorem own_cells {w : World} {B n : Nat} {e : TypeId} {z : Nat} {v : Value} {xs : List Value} (h : w.ownsRow B e z v n xs) (hn : 0 < n) :
    ∃ g cap, v = .slice (some ⟨g, 0, none⟩) n cap ∧ B ≤ g ∧ g < w.heap.size ∧ ∀ k, k < n * z → w.cell? ⟨g, k, none⟩ = xs[k]? := by
  obtain ⟨_, ⟨_, h0⟩ | ⟨g, cap, cur, rfl, hb, hg, _, _, _, ht⟩⟩ := h
  · omega
  · refine ⟨g, cap, rfl, hb, (Array.getElem?_eq_some_iff.1 hg).1, fun k hk => ?_⟩
    rw [← ht, List.getElem?_take_of_lt hk]
    simp [World.cell?, hg]
theorem txsCells_get : ∀ (ts : List (List UInt8)) (i j : Nat), i < ts.length → j < 33 → (txsCells ts)[33 * i + j]? = (txCells (ts.getD i []))[j]?
  | [], i, j, hi, _ => by simp at hi
  | t :: ts, 0, j, _, hj => by
    have := txCells_len t
    show (txCells t ++ txsCells ts)[33 * 0 + j]? = _
    rw [List.getElem?_append_left (by omega)]
    simp
  | t :: ts, i + 1, j, hi, hj => by
    have := txCells_len t
    show (txCells t ++ txsCells ts)[33 * (i + 1) + j]? = _
    rw [List.getElem?_append_right (by omega), show 33 * (i + 1) + j - (txCells t).length = 33 * i + j by omega, txsCells_get ts i j (by simpa using hi) hj]
    rfl
/-- transactions at the head of block g -/
def TxsAt (w : World) (g : Nat) (ts : List (List UInt8)) : Prop := ∀ i, i < ts.length → w.rangeAt g (33 * i) (txCells (ts.getD i []))
theorem own_txs {w : World} {B : Nat} {v : Value} {ts : List (List UInt8)} (h : w.ownsRow B 66 33 v ts.length (txsCells ts)) (hn : 0 < ts.length) :
    ∃ g cap, v = .slice (some ⟨g, 0, none⟩) ts.length cap ∧ B ≤ g ∧ g < w.heap.size ∧ TxsAt w g ts := by
  obtain ⟨g, cap, rfl, hb, hg, hc⟩ := own_cells h hn
  refine ⟨g, cap, rfl, hb, hg, fun i hi j u hu => ?_⟩
  have hj : j < 33 := by have := (List.getElem?_eq_some_iff.1 hu).1; rwa [txCells_len] at this
  rw [hc _ (by omega), txsCells_get ts i j hi hj]; exact hu
theorem TxsAt.below {B g : Nat} {ts : List (List UInt8)} {w w' : World} (h : TxsAt w g ts) (hb : Below B w w') (hB : g < B) : TxsAt w' g ts := fun i hi => rangeAt_of_block (h i hi) (hb.block g hB)
theorem load_txat {ops : Array Oper} {rest : List Oper} {o : Oper} {a : Act} {w : World} {Q : Exit → Act → World → Prop} (hgd : o.guard = none) (x : Operand) (ho : o.op = .load 66 x)
    (g off : Nat) (t : List UInt8) (hx : a.eval x = .pointer (some ⟨g, off, none⟩)) (hr : w.rangeAt g off (txCells t))
    (h : wpList Tryd.prog ops Q rest (a.put o.dst (txV t)) w) : wpList Tryd.prog ops Q (o :: rest) a w :=
  wpList_load_mid hgd _ x ho g off hx (txCells t) _ hr Tryd.underlying66 rfl (by rw [infoTx, txCells_len]) h
def Mk.joined (ts : List (List UInt8)) : List UInt8 := Wr.sizeB ts.length ++ ts.flatten
theorem flat_short : ∀ (ts : List (List UInt8)), (∀ t ∈ ts, t.length ≤ 610) → ts.flatten.length ≤ 610 * ts.length
  | [], _ => Nat.le_refl _
  | t :: ts, h => by
    have h1 := h t List.mem_cons_self
    have h2 := flat_short ts fun x hx => h x (List.mem_cons_of_mem _ hx)
    rw [List.flatten_cons, List.length_append, List.length_cons]; omega
theorem sizeB_short (n : Nat) : (Wr.sizeB n).length ≤ 9 := by
  unfold Wr.sizeB
  split
  · simp
  · split
    · simp [Wr.low_length]
    · split
      · simp [Wr.low_length]
      · simp [Wr.low_length]
theorem take_flat (ts : List (List UInt8)) (i : Nat) (h : i < ts.length) : (ts.take (i + 1)).flatten = (ts.take i).flatten ++ ts.getD i [] := by
  rw [List.take_succ_eq_append_getElem h, List.flatten_append, List.getD_eq_getElem?_getD, List.getElem?_eq_getElem h]; simp
set_option maxHeartbeats 2000000 in
theorem join_calls (v : Value) (ts : List (List UInt8)) (B : Nat) (w : World) (ho : w.ownsRow B 66 33 v ts.length (txsCells ts)) (hs : ∀ t ∈ ts, t.length ≤ 610) (hn : ts.length ≤ 1000) :
    Calls Tryd.prog 74 #[v] w fun e w' => e = .returned (.string (str (Mk.joined ts))) ∧ Below w.heap.size w w' := by
  obtain ⟨ad, cap, hv⟩ := own_slice ho
  have H0 := Lib.hid ho
  have HS := Lib.hid hs
  have q1 : IntKind.u64.wrap (ts.length : Int) = ts.length := by rw [u64_wrap, U_nat]; omega
  have T1 := Lib.hid (psize_calls ts.length w (by omega))
  have hl := sizeB_short ts.length
  have HJ := Lib.hid (show Mk.joined ts = Wr.sizeB ts.length ++ ts.flatten from rfl)
  generalize Wr.sizeB ts.length = sz at T1 hl HJ
  rw [hv]
  clear ho hs
  go_enter Tryd.func74, Tryd.ntmps74
  go_wp2_with fail
  refine T1.out.mono ?_
  rintro e w1 ⟨rfl, hb1⟩
  have B1 := Lib.hid hb1
  clear hb1 T1
  go_wp2_with fail
  go_loopw [3, 12] (fun sv iv wr => ∃ (i : Nat) (s : List UInt8), i ≤ ts.length ∧ iv = .int .i64 i ∧ sv = .string (str s) ∧ s.length ≤ 9 + 610 * i ∧ s = sz ++ (ts.take i).flatten ∧ Below w.heap.size w wr) (fun _ iv _ => ts.length - (intOf iv).toNat)
  case atStart => exact ⟨0, sz, by omega, rfl, rfl, by omega, by simp, B1.out⟩
  case round =>
    obtain ⟨i, s, hi, rfl, rfl, hsl, hse, hB⟩ := hrel
    have HE := Lib.hid hse
    have HB := Lib.hid hB
    have hzr := hB.size
    clear hse hB
    by_cases hlt : i < ts.length
    · have p1 : (i : Int) < (ts.length : Int) := by omega
      obtain ⟨g, cap', hv', _, hg, hat⟩ := own_txs H0.out (by omega)
      rw [hv] at hv'
      cases hv'
      have ht : (ts.getD i []).length ≤ 610 := HS.out _ (by rw [List.getD_eq_getElem?_getD, List.getElem?_eq_getElem hlt]; exact List.getElem_mem hlt)
      have HT := Lib.hid (take_flat ts i hlt)
      have hra := (hat.below HB.out hg) i hlt
      obtain ⟨t, het⟩ : ∃ t, ts.getD i [] = t := ⟨_, rfl⟩
      rw [het] at ht HT hra
      rw [Nat.mul_comm] at hra
      have r1 : Row (wr.alloc (.cells tx0.toArray 66)) wr.heap.size tx0 := Row.new wr tx0 66
      have hB1 : Below w.heap.size w (wr.alloc (.cells tx0.toArray 66)) := HB.out.alloc hzr _
      have hc := (r1.setRow (txCells t)).cell 0
      rw [show (txCells t)[0]? = some (.string (str t)) from rfl] at hc
      have B2 := Lib.hid (below_setRow hB1 hzr (txCells t).toArray)
      rw [Tryd.zeroTx] at r1 hc B2
      clear hat het hB1
      go_wp2_with (first | (refine load_txat (o := ⟨some 15, _, _, _, _, _⟩) rfl _ rfl g (i * 33) t rfl hra ?_) | (with_reducible refine store_cells (o := ⟨none, _, _, _, _, _⟩) rfl _ _ _ rfl wr.heap.size tx0 (txCells t) rfl rfl r1 (infoTx.trans (by rw [txCells_len])) (by rw [txCells_len, tx0_len]) (txCells_one t) ?_))
      go_roundw
      case rel => exact ⟨i + 1, s ++ t, by omega, by go_num, rfl, by rw [List.length_append]; omega, by rw [HE.out, HT.out, List.append_assoc], B2.out⟩
      case measure => simp [intOf]; omega
    · obtain rfl : i = ts.length := by omega
      go_wp2_with fail
      go_ret
      exact ⟨by rw [HJ.out, HE.out, List.take_of_length_le (Nat.le_refl _)]; rfl, HB.out⟩
end Go.Proofs.YtlpcjiollnnmgaaDoor
