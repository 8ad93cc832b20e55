/-
  wire.ReadTx, relay.Txid.
-/
import Derived.Test.YtlpcjiollnnmgabGreatDoorRead
import Derived.Test.YtlpcjiollnnmgabGreatDoorWireRef
set_option maxRecDepth 100000
namespace Go.Proofs.YtlpcjiollnnmgabGreatDoor
open Go.RowKit Nums
theorem rdTx_form (x : Wr.R (List UInt8)) : ∃ (cs : List Value) (n : Int), rdTx x = .tuple #[.agg cs.toArray, .int .i64 n] ∧ cs.length = 33 ∧ cs.all (·.oneCell') = true := by
  cases x with
  | ok t r => exact ⟨txCells t, 0, rfl, txCells_len t, txCells_one t⟩
  | bad n => exact ⟨tx0, n, rfl, tx0_len, by decide +kernel⟩
theorem results_c1 {fn : Func} {p u : Tmp} {ty : TypeId} (h : fn.results = #[.cell p ty, .tmp u]) (tmps : Array Value) (w : World) (g : Nat) (l : List Value) (v : Value)
    (hp : tmps.getD p undef = .pointer (some ⟨g, 0, none⟩)) (hu : tmps.getD u undef = v) (hr : Row w g l) (fs : _) (ht : Tryz.prog.underlying ty = some (.struct fs)) (hi : (Tryz.prog.info? ty).map (·.size) = some l.length) :
    (results fn tmps).run Tryz.prog w = .ok (.tuple #[.agg l.toArray, v]) w := by
  have h2 : (loadVar ty ⟨g, 0, none⟩).run Tryz.prog w = .ok (.agg l.toArray) w :=
    run_loadVar_mid w g 0 _ l _ (fun j v hv => by rw [Nat.zero_add, hr.cell]; exact hv) ht rfl hi
  have hp' : tmps[p]?.getD undef = .pointer (some ⟨g, 0, none⟩) := by simpa using hp
  have hu' : tmps[u]?.getD undef = v := by simpa using hu
  unfold results
  rw [h]
  simp [asAddr, hp', hu', h2]
set_option maxHeartbeats 1000000 in
theorem wreadTx_calls (l : List UInt8) (w : World) (hT : Tabs w) (hl : l.length ≤ 9223372036854775807) :
    Calls Tryz.prog 35 #[.string (str l)] w fun e w' => e = .returned (rdTx (Wr.readTx l)) ∧ Below w.heap.size w w' := by
  obtain ⟨cs, n, hE, hcl, hc1⟩ := rdTx_form (Wr.readTx l)
  rw [hE]
  have h1w := hT.lt
  have r1 : Row (w.alloc (.cells tx0.toArray 78)) w.heap.size tx0 := Row.new w tx0 78
  have hB : Below w.heap.size w (w.alloc (.cells tx0.toArray 78)) := (Below.refl _ _).alloc (Nat.le_refl _) _
  rw [Tryz.zeroTx] at r1 hB
  go_enter Tryz.func35, Tryz.ntmps35
  go_wp2_with fail
  generalize w.alloc _ = w1 at r1 hB ⊢
  have HB := Lib.hid hB
  have R1 := Lib.hid r1
  have hz := r1.lt
  have T1 := Lib.hid (readTx_calls l w1 (hT.below hB h1w) hl)
  rw [hE] at T1
  clear hT hB r1 hE
  refine T1.out.mono ?_
  clear T1
  rintro e w2 ⟨rfl, h2⟩
  have H1 := R1.out.below h2 hz
  have B2 := Lib.hid (HB.out.trans (h2.mono (by omega)))
  have S1 := Lib.hid (H1.setRow cs)
  have B3 := Lib.hid (below_setRow B2.out (Nat.le_refl _) cs.toArray)
  clear h2 R1 HB
  go_wp2_with (with_reducible refine store_cells (o := ⟨none, _, _, _, _, _⟩) rfl _ _ _ rfl w.heap.size tx0 cs rfl rfl H1 (infoTx.trans (by rw [hcl])) (by rw [hcl, tx0_len]) hc1 ?_)
  exact bodyPost_ret (v := .tuple #[.agg cs.toArray, .int .i64 n]) (results_c1 rfl _ _ w.heap.size cs (.int .i64 n) rfl rfl S1.out _ Tryz.underlying78 (infoTx.trans (by rw [hcl]))) rfl ⟨rfl, B3.out⟩
theorem twice32 (t : List UInt8) : (Mk.twice t).length = 32 := Sha.sum32 _
def txidV : Wr.R (List UInt8) → Value
  | .ok t _ => .tuple #[.string (str (Mk.twice t)), .int .i64 0]
  | .bad n => .tuple #[.string (str []), .int .i64 n]
theorem txCells_bytes {w : World} {g : Nat} {t : List UInt8} (h : Row w g (txCells t)) : Bytes w g 1 (Mk.twice t) := fun j hj => by
  rw [h.cell]
  unfold txCells
  rw [Nat.add_comm, List.getElem?_cons_succ, w8_get _ _ hj]
theorem readTx_pos {l : List UInt8} {n : Nat} (h : Wr.readTx l = .bad n) : n ≠ 0 := by
  have := Rf.fin_done (Rf.tx_ag l)
  rw [show Wr.fin (Wr.tx l) = .bad n from h] at this
  exact this.2
set_option maxHeartbeats 1000000 in
theorem txid_calls (l : List UInt8) (w : World) (hT : Tabs w) (hl : l.length ≤ 9223372036854775807) :
    Calls Tryz.prog 23 #[.string (str l)] w fun e w' => e = .returned (txidV (Wr.readTx l)) ∧ Below w.heap.size w w' := by
  have h1w := hT.lt
  have T1 := Lib.hid (wreadTx_calls l w hT hl)
  clear hT
  go_enter Tryz.func23, Tryz.ntmps23
  go_wp2_with fail
  refine T1.out.mono ?_
  clear T1
  cases hx : Wr.readTx l with
  | bad n =>
    rintro e w1 ⟨rfl, hb⟩
    have hn := readTx_pos hx
    have p1 : ¬ (n : Int) = 0 := by omega
    have EQ := Lib.hid hx
    obtain ⟨cs, hE, hcl, hc1⟩ : ∃ cs : List Value, rdTx (.bad n) = .tuple #[.agg cs.toArray, .int .i64 n] ∧ cs.length = 33 ∧ cs.all (·.oneCell') = true := ⟨tx0, rfl, tx0_len, by decide +kernel⟩
    rw [hE]
    have r1 : Row (w1.alloc (.cells tx0.toArray 78)) w1.heap.size tx0 := Row.new w1 tx0 78
    have hB : Below w1.heap.size w1 (w1.alloc (.cells tx0.toArray 78)) := (Below.refl _ _).alloc (Nat.le_refl _) _
    have B1 := Lib.hid (hb.trans ((below_setRow hB (Nat.le_refl _) cs.toArray).mono hb.size))
    rw [Tryz.zeroTx] at r1 hB B1
    have H1 := r1
    clear hx hb r1 hB hn hE
    go_wp2_with (with_reducible refine store_cells (o := ⟨none, _, _, _, _, _⟩) rfl _ _ _ rfl w1.heap.size tx0 cs rfl rfl H1 (infoTx.trans (by rw [hcl])) (by rw [hcl, tx0_len]) hc1 ?_)
    go_ret2
    exact ⟨by rw [EQ.out]; rfl, B1.out⟩
  | ok t r =>
    rintro e w1 ⟨rfl, hb⟩
    have EQ := Lib.hid hx
    dsimp only [rdTx]
    have r1 : Row (w1.alloc (.cells tx0.toArray 78)) w1.heap.size tx0 := Row.new w1 tx0 78
    have hB : Below w1.heap.size w1 (w1.alloc (.cells tx0.toArray 78)) := (Below.refl _ _).alloc (Nat.le_refl _) _
    have B1 := Lib.hid (hb.trans ((below_setRow hB (Nat.le_refl _) (txCells t).toArray).mono hb.size))
    have H2 := txCells_bytes (r1.setRow (txCells t))
    rw [Tryz.zeroTx] at r1 hB B1 H2
    have H1 := r1
    clear hx hb r1 hB
    go_wp2_with (first | (with_reducible refine store_cells (o := ⟨none, _, _, _, _, _⟩) rfl _ _ _ rfl w1.heap.size tx0 (txCells t) rfl rfl H1 (infoTx.trans (by rw [txCells_len])) (by rw [txCells_len, tx0_len]) (txCells_one t) ?_) | (with_reducible refine conv_arm (o := ⟨some 16, _, _, _, _, _⟩) rfl _ _ _ _ rfl w1.heap.size 1 32 32 (Mk.twice t) (twice32 t) rfl Tryz.underlying35 Tryz.underlying5 Tryz.underlying9 H2 ?_))
    go_ret2
    exact ⟨by rw [EQ.out]; rfl, B1.out⟩
end Go.Proofs.YtlpcjiollnnmgabGreatDoor
