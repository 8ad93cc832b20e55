/-
  THE PROGRAM's READERS OF MANY: transactions; a block.
-/
import Derived.Test.YtlpcjiollnnmgaaDoorTxW
import Derived.Test.YtlpcjiollnnmgaaDoorDg
import Derived.Test.YtlpcjiollnnmgaaDoorRefMk
import Derived.Maps.AppendAt
import Derived.Laws.OwnMore
set_option maxRecDepth 100000
namespace Go.Proofs.YtlpcjiollnnmgaaDoor
open Go.RowKit Nums
def txsCells (ts : List (List UInt8)) : List Value := (ts.map txCells).flatten
theorem txsCells_snoc (ts : List (List UInt8)) (t : List UInt8) : txsCells ts ++ txCells t = txsCells (ts ++ [t]) := by simp [txsCells]
theorem infoTx3 : (Tryd.prog.info? 66).map (fun i => (i.zero, i.size, i.bytes)) = some (some (.agg tx0.toArray), 33, 48) := by kernel_rfl
theorem ownN_but {w w' : World} {B S n : Nat} {e : TypeId} {z : Nat} {v : Value} {xs : List Value} (h : w.ownsRow B e z v n xs) (hb : But w.heap.size S w w') (hS : S < B) : w'.ownsRow B e z v n xs := by
  refine ⟨h.1, ?_⟩
  rcases h.2 with h | ⟨g, cap, cur, rfl, h1, h2, h3⟩
  · exact .inl h
  · exact .inr ⟨g, cap, cur, rfl, h1, by rw [hb.block g (Array.getElem?_eq_some_iff.1 h2).1 (by omega)]; exact h2, h3⟩
theorem ownN_row {w : World} {B S n : Nat} {e : TypeId} {z : Nat} {v : Value} {xs : List Value} (h : w.ownsRow B e z v n xs) (m : Array Value) (hS : S < B) : (w.setRow S m).ownsRow B e z v n xs := by
  refine ⟨h.1, ?_⟩
  rcases h.2 with h | ⟨g, cap, cur, rfl, h1, h2, h3⟩
  · exact .inl h
  · exact .inr ⟨g, cap, cur, rfl, h1, by rw [setRow_other w S g m (by omega)]; exact h2, h3⟩
theorem ownN_cell {w : World} {B n : Nat} {a : Addr} {e : TypeId} {z : Nat} {v : Value} {xs : List Value} (h : w.ownsRow B e z v n xs) (u : Value) (hS : a.block < B) : (w.setCell a u).ownsRow B e z v n xs := by
  refine ⟨h.1, ?_⟩
  rcases h.2 with h | ⟨g, cap, cur, rfl, h1, h2, h3⟩
  · exact .inl h
  · exact .inr ⟨g, cap, cur, rfl, h1, by rw [Below.heap_setCell _ _ _ _ (show g ≠ a.block by omega)]; exact h2, h3⟩
theorem ownN_le {w : World} {B C n : Nat} {e : TypeId} {z : Nat} {v : Value} {xs : List Value} (h : w.ownsRow B e z v n xs) (hC : C ≤ B) : w.ownsRow C e z v n xs :=
  ⟨h.1, h.2.imp id fun ⟨g, cap, cur, h1, h2, h3⟩ => ⟨g, cap, cur, h1, Nat.le_trans hC h2, h3⟩⟩
theorem ownN_one {w : World} {B n : Nat} {e : TypeId} {z : Nat} {v : Value} {xs : List Value} (h : w.ownsRow B e z v n xs) : v.oneCell' = true := by
  rcases h.2 with ⟨rfl, _⟩ | ⟨g, cap, cur, rfl, _⟩ <;> rfl
namespace Wr
theorem R.map_map {α β γ : Type} (x : R α) (f : α → β) (g : β → γ) : (x.map f).map g = x.map (fun a => g (f a)) := by cases x <;> rfl
theorem R.map_id {α : Type} (x : R α) : x.map (fun a => a) = x := by cases x <;> rfl
end Wr
/-- transactions out of the bytes: a slice that the call owns -/
def RPT (x : Wr.R (List (List UInt8))) (b : Nat) (w : World) (e : Ending) (w' : World) : Prop := match x with
  | .ok ts r => ∃ v, e = .returned v ∧ w'.ownsRow w.heap.size 66 33 v ts.length (txsCells ts) ∧ Row w' b [.string (str r)] ∧ But w.heap.size b w w'
  | .bad n => e = .panicked (Fault (n : Int)) ∧ But w.heap.size b w w'
theorem RPT.mkBad {x : Wr.R (List (List UInt8))} {b : Nat} {w w' : World} {n : Nat} (hx : x = .bad n) (h2 : But w.heap.size b w w') : RPT x b w (.panicked (Fault (n : Int))) w' := by
  subst hx; exact ⟨rfl, h2⟩
theorem RPT.mkOk {x : Wr.R (List (List UInt8))} {b : Nat} {w w' : World} {ts : List (List UInt8)} {r : List UInt8} {v : Value} (hx : x = .ok ts r) (h1 : w'.ownsRow w.heap.size 66 33 v ts.length (txsCells ts)) (h2 : Row w' b [.string (str r)]) (h3 : But w.heap.size b w w') : RPT x b w (.returned v) w' := by
  subst hx; exact ⟨v, rfl, h1, h2, h3⟩
theorem run_build_tx32 (w : World) (s : ByteArray) (a0 a1 a2 a3 a4 a5 a6 a7 a8 a9 a10 a11 a12 a13 a14 a15 a16 a17 a18 a19 a20 a21 a22 a23 a24 a25 a26 a27 a28 a29 a30 a31 : UInt8) : (Instr.buildSlice 74 1 #[(0, .agg (.string s :: w8 [a0, a1, a2, a3, a4, a5, a6, a7, a8, a9, a10, a11, a12, a13, a14, a15, a16, a17, a18, a19, a20, a21, a22, a23, a24, a25, a26, a27, a28, a29, a30, a31]).toArray)]).run Tryd.prog w = .ok (.slice (some ⟨w.heap.size, 0, none⟩) 1 1) (w.alloc (.cells (.string s :: w8 [a0, a1, a2, a3, a4, a5, a6, a7, a8, a9, a10, a11, a12, a13, a14, a15, a16, a17, a18, a19, a20, a21, a22, a23, a24, a25, a26, a27, a28, a29, a30, a31]).toArray 66)) := by kernel_rfl
theorem run_build_tx' (w : World) (s : ByteArray) (l : List UInt8) (hl : l.length = 32) :
    (Instr.buildSlice 74 1 #[(0, .agg (.string s :: w8 l).toArray)]).run Tryd.prog w = .ok (.slice (some ⟨w.heap.size, 0, none⟩) 1 1) (w.alloc (.cells (.string s :: w8 l).toArray 66)) :=
  match l, hl with
  | [a0, a1, a2, a3, a4, a5, a6, a7, a8, a9, a10, a11, a12, a13, a14, a15, a16, a17, a18, a19, a20, a21, a22, a23, a24, a25, a26, a27, a28, a29, a30, a31], _ => run_build_tx32 w s a0 a1 a2 a3 a4 a5 a6 a7 a8 a9 a10 a11 a12 a13 a14 a15 a16 a17 a18 a19 a20 a21 a22 a23 a24 a25 a26 a27 a28 a29 a30 a31
theorem run_build_tx (w : World) (t : List UInt8) : (Instr.buildSlice 74 1 #[(0, txV t)]).run Tryd.prog w = .ok (.slice (some ⟨w.heap.size, 0, none⟩) 1 1) (w.alloc (.cells (txCells t).toArray 66)) :=
  run_build_tx' w (str t) (Mk.twice t) (Sha.sum32 _)
/-- '[]Tx{t}' -/
theorem build_tx1 {ops : Array Oper} {rest : List Oper} {o : Oper} {a : Act} {w : World} {Q : Exit → Act → World → Prop} (hgd : o.guard = none) (x : Operand) (ho : o.op = .buildSlice 74 1 #[(0, x)])
    (t : List UInt8) (hx : a.eval x = txV t)
    (h : wpList Tryd.prog ops Q rest (a.put o.dst (.slice (some ⟨w.heap.size, 0, none⟩) 1 1)) (w.alloc (.cells (txCells t).toArray 66))) : wpList Tryd.prog ops Q (o :: rest) a w := by
  refine list_val hgd ?_ h
  have := run_build_tx w t
  unfold execOp
  simp only [ho, List.map_toArray, List.map_cons, List.map_nil, hx, Sem.run_bind, this, Result.andThen_ok, Sem.run_pure]
set_option maxHeartbeats 4000000 in
theorem txs_calls (b n : Nat) (l : List UInt8) (w : World) (hT : Tabs w) (h1b : 1 < b) (hr : Row w b [.string (str l)]) (hl : l.length ≤ 9223372036854775807) (hn : n ≤ 1000) :
    Calls Tryd.prog 68 #[.pointer (some ⟨b, 0, none⟩), .int .i64 n] w (RPT (Wr.txs n l) b w) := by
  obtain ⟨i0, hi0, hz0, hz1, hz2⟩ := info_parts infoTx3
  have HI := Lib.hid hi0
  have hb := hr.lt
  have h1w := hT.lt
  have HT := Lib.hid hT
  have HR := Lib.hid hr
  clear hT hr hi0
  go_enter Tryd.func68, Tryd.ntmps68
  go_wp2_with fail
  go_loopw [5, 7] (fun sv iv wr => ∃ (i : Nat) (ts : List (List UInt8)) (ri : List UInt8), i ≤ n ∧ iv = .int .i64 i ∧ ts.length = i ∧ wr.ownsRow w.heap.size 66 33 sv ts.length (txsCells ts) ∧ Row wr b [.string (str ri)] ∧ But w.heap.size b w wr ∧ ri.length ≤ l.length ∧ Wr.txs n l = (Wr.txs (n - i) ri).map (fun us => ts ++ us)) (fun _ iv _ => n - (intOf iv).toNat)
  case atStart => exact ⟨0, [], l, by omega, rfl, rfl, World.ownsRow_nil _ _ _ _, HR.out, But.refl _ _ _, Nat.le_refl _, by rw [Nat.sub_zero]; exact (Wr.R.map_id _).symm⟩
  case round =>
    obtain ⟨i, ts, ri, hi, rfl, hti, hown, hcur, hB, hle, hE⟩ := hrel
    have A1 := Lib.hid hown
    have A2 := Lib.hid hB
    have hzr := hB.size
    by_cases hlt : i < n
    · have p1 : (i : Int) < (n : Int) := by omega
      have E1 := Lib.hid (show Wr.txs n l = (((Wr.tx ri).bind fun t r => (Wr.txs (n - (i + 1)) r).map fun us => t :: us)).map (fun us => ts ++ us) by rw [hE, show n - i = (n - (i + 1)) + 1 by omega]; rfl)
      have T1 := Lib.hid (tx_calls b ri wr (hB.tabs HT.out h1w h1b) h1b hcur (by omega))
      have hmx : ts.length < 1000 := by omega
      have hti' := Lib.hid hti
      clear hown hB hE hcur hti
      go_wp2_with fail
      refine T1.out.mono ?_
      clear T1
      cases hx : Wr.tx ri with
      | bad k =>
        rintro e w2 ⟨rfl, h⟩
        rw [hx] at E1
        exact ⟨rfl, RPT.mkBad E1.out (A2.out.trans (h.mono hzr))⟩
      | ok t r2 =>
        rintro e w2 ⟨rfl, h3, h4⟩
        rw [hx] at E1
        have E2 := Lib.hid (show Wr.txs n l = (Wr.txs (n - (i + 1)) r2).map (fun us => (ts ++ [t]) ++ us) by
          rw [E1.out, Wr.R.bind_ok, Wr.R.map_map]; congr 1; funext us; simp)
        have hle2 := Nat.le_trans ((Wr.tx_tail ri).le hx) hle
        have B1 := Lib.hid (ownN_but A1.out h4 hb)
        have B2 := Lib.hid (A2.out.trans (h4.mono hzr))
        have R2 := Lib.hid h3
        have hz2' := B2.out.size
        have L1 := Lib.hid (show ∀ (j : Nat) (u : Value), (txCells t)[j]? = some u → (w2.alloc (.cells (txCells t).toArray 66)).cell? (Addr.add ⟨w2.heap.size, 0, none⟩ j) = some u from fun j u hu => by rw [Addr.add_lit, Nat.zero_add, (Row.new w2 _ _).cell]; exact hu)
        clear h3 h4 A1 A2 E1 hx
        go_wp2_with (first | (refine build_tx1 (o := ⟨some 12, _, _, _, _, _⟩) rfl _ rfl t rfl ?_) | (at_builtin; refine wpList_append_own _ rfl _ _ 74 rfl w.heap.size 66 i0 (.agg tx0.toArray) 33 48 Tryd.underlying74 HI.out hz0 hz1 hz2 (by rw [Value.cells, List.size_toArray, tx0_len]) (by decide) _ _ _ rfl (B1.out.alloc _) ⟨w2.heap.size, 0, none⟩ 1 1 (txCells t) rfl (by rw [txCells_len]) L1.out (fun u hu => List.all_eq_true.1 (txCells_one t) u hu) (by unfold maxLen; omega) (by omega) (by rw [World.size_alloc]; omega) ?_; intro uv2 w3 hown3 hgr3 _))
        have hbl : Below w.heap.size w2 w3 := ((Below.refl w.heap.size w2).alloc hz2' _).grown hgr3 (by rw [World.size_alloc]; omega) (fun k hk => (B1.out.lt k hk).1)
        have H1 := Lib.hid hown3
        have H2 := Lib.hid hbl
        clear hown3 hgr3 hbl L1
        go_roundw
        case rel => exact ⟨i + 1, ts ++ [t], r2, by omega, by go_num, by rw [List.length_append, hti'.out]; rfl, by rw [List.length_append, ← txsCells_snoc]; exact H1.out, R2.out.below H2.out hb, B2.out.trans (But.of_below H2.out), hle2, E2.out⟩
        case measure => simp [intOf]; omega
    · obtain rfl : i = n := by omega
      go_wp2_with fail
      go_ret
      exact RPT.mkOk (r := ri) (by rw [hE, Nat.sub_self]; show Wr.R.ok (ts ++ []) ri = _; rw [List.append_nil]) A1.out hcur A2.out
/-! ### indexes -/
def wns (is : List Nat) : List Value := is.map fun (i : Nat) => .int .i64 (i : Int)
theorem wns_snoc (is : List Nat) (i : Nat) : wns is ++ [.int .i64 (i : Int)] = wns (is ++ [i]) := by simp [wns]
theorem infoInt3 : (Tryd.prog.info? 3).map (fun i => (i.zero, i.size, i.bytes)) = some (some (.int .i64 0), 1, 8) := by kernel_rfl
/-- indexes out of the bytes: a slice that the call owns -/
def RPI (x : Wr.R (List Nat)) (b : Nat) (w : World) (e : Ending) (w' : World) : Prop := match x with
  | .ok is r => ∃ v, e = .returned v ∧ w'.ownsRow w.heap.size 3 1 v is.length (wns is) ∧ Row w' b [.string (str r)] ∧ But w.heap.size b w w'
  | .bad n => e = .panicked (Fault (n : Int)) ∧ But w.heap.size b w w'
theorem RPI.mkBad {x : Wr.R (List Nat)} {b : Nat} {w w' : World} {n : Nat} (hx : x = .bad n) (h2 : But w.heap.size b w w') : RPI x b w (.panicked (Fault (n : Int))) w' := by
  subst hx; exact ⟨rfl, h2⟩
theorem RPI.mkOk {x : Wr.R (List Nat)} {b : Nat} {w w' : World} {is : List Nat} {r : List UInt8} {v : Value} (hx : x = .ok is r) (h1 : w'.ownsRow w.heap.size 3 1 v is.length (wns is)) (h2 : Row w' b [.string (str r)]) (h3 : But w.heap.size b w w') : RPI x b w (.returned v) w' := by
  subst hx; exact ⟨v, rfl, h1, h2, h3⟩
theorem none_calls (w : World) : Calls Tryd.prog 73 #[] w fun e w' => e = .returned (.tuple #[]) ∧ w' = w := by
  go_enter Tryd.func73, Tryd.ntmps73
  go_wp2_with fail
  first | go_end0 | refine bodyPost_ret (results_none rfl _ _ _) rfl ?_
  exact ⟨rfl, rfl⟩
set_option maxHeartbeats 4000000 in
theorem indexes_calls (b n B : Nat) (l : List UInt8) (w : World) (hr : Row w b [.string (str l)]) (hn : n ≤ 1000) (hBd : B ≤ 1000) :
    Calls Tryd.prog 72 #[.pointer (some ⟨b, 0, none⟩), .int .i64 n, .int .i64 B, .func (.func 73) #[] #[]] w (RPI (Wr.indexes B n 0 l) b w) := by
  obtain ⟨i0, hi0, hz0, hz1, hz2⟩ := info_parts infoInt3
  have HI := Lib.hid hi0
  have hb := hr.lt
  have HR := Lib.hid hr
  have q1 : U (toU (B : Int)) = (B : Int) := by rw [U_toU]; omega
  have q2 : IntKind.u64.wrap (B : Int) = (B : Int) := by rw [u64_wrap, U_nat]; omega
  clear hr hi0
  go_enter Tryd.func72, Tryd.ntmps72
  go_wp2_with fail
  go_loopw [9, 10, 11, 13] (fun sv nv dv iv wr => ∃ (i nx : Nat) (is : List Nat) (ri : List UInt8), i ≤ n ∧ nx ≤ B ∧ iv = .int .i64 i ∧ nv = .int .u64 nx ∧ is.length = i ∧ wr.ownsRow w.heap.size 3 1 sv is.length (wns is) ∧ Row wr b [.string (str ri)] ∧ But w.heap.size b w wr ∧ Wr.indexes B n 0 l = (Wr.indexes B (n - i) nx ri).map (fun us => is ++ us)) (fun _ _ _ iv _ => n - (intOf iv).toNat)
  case atStart => exact ⟨0, 0, [], l, by omega, by omega, rfl, rfl, rfl, World.ownsRow_nil _ _ _ _, HR.out, But.refl _ _ _, by rw [Nat.sub_zero]; exact (Wr.R.map_id _).symm⟩
  case round =>
    obtain ⟨i, nx, is, ri, hi, hnx, rfl, rfl, hti, hown, hcur, hB, hE⟩ := hrel
    have A1 := Lib.hid hown
    have A2 := Lib.hid hB
    have hzr := hB.size
    by_cases hlt : i < n
    · have p1 : (i : Int) < (n : Int) := by omega
      have E1 := Lib.hid (show Wr.indexes B n 0 l = (((Wr.size ri).bind fun d r => if B ≤ d ∨ B ≤ nx + d then .bad 4 else .ok (nx + d) r).bind fun x r => (Wr.indexes B (n - (i + 1)) (x + 1) r).map fun us => x :: us).map (fun us => is ++ us) by rw [hE, show n - i = (n - (i + 1)) + 1 by omega]; rfl)
      have T1 := Lib.hid (size_calls b ri wr hcur)
      have hmx : is.length < 1000 := by omega
      have hti' := Lib.hid hti
      clear hown hB hE hcur hti
      go_wp2_with fail
      refine T1.out.mono ?_
      clear T1
      cases hx : Wr.size ri with
      | bad k =>
        rintro e w2 ⟨rfl, h⟩
        rw [hx] at E1
        exact ⟨rfl, RPI.mkBad E1.out (A2.out.trans (h.mono hzr))⟩
      | ok d r2 =>
        rintro e w2 ⟨rfl, h3, h4⟩
        rw [hx, Wr.R.bind_ok] at E1
        have B1 := Lib.hid (ownN_but A1.out h4 hb)
        have B2 := Lib.hid (A2.out.trans (h4.mono hzr))
        have R2 := Lib.hid h3
        have hz2' := B2.out.size
        clear h3 h4 A1 A2 hx
        by_cases c1 : B ≤ d
        · rw [if_pos (.inl c1)] at E1
          have p2 : (d : Int) ≥ (B : Int) := by omega
          go_wp2_with fail
          refine (fail_calls 4 _).mono ?_
          rintro e w3 ⟨rfl, rfl⟩
          exact ⟨rfl, RPI.mkBad (n := 4) E1.out B2.out⟩
        · have p2 : ¬ (d : Int) ≥ (B : Int) := by omega
          have q3 : U (toU ((nx : Int) + (d : Int))) = ((nx + d : Nat) : Int) := by rw [U_toU]; omega
          by_cases c2 : B ≤ nx + d
          · rw [if_pos (.inr c2)] at E1
            have p3 : (nx : Int) + (d : Int) ≥ (B : Int) := by omega
            go_wp2_with fail
            refine (fail_calls 4 _).mono ?_
            rintro e w3 ⟨rfl, rfl⟩
            exact ⟨rfl, RPI.mkBad (n := 4) E1.out B2.out⟩
          · rw [if_neg (by omega)] at E1
            have p3 : ¬ (nx : Int) + (d : Int) ≥ (B : Int) := by omega
            have q4 : U (toU ((d : Int) + 1)) = (d : Int) + 1 := by rw [U_toU]; omega
            have q5 : U (toU ((nx : Int) + ((d : Int) + 1))) = (nx : Int) + ((d : Int) + 1) := by rw [U_toU]; omega
            have E2 := Lib.hid (show Wr.indexes B n 0 l = (Wr.indexes B (n - (i + 1)) (nx + d + 1) r2).map (fun us => (is ++ [nx + d]) ++ us) by
              rw [E1.out, Wr.R.bind_ok, Wr.R.map_map]; congr 1; funext us; simp)
            clear E1
            go_wp2_with (at_builtin; refine wpList_append_own _ rfl _ _ 45 rfl w.heap.size 3 i0 (.int .i64 0) 1 8 Tryd.underlying45 HI.out hz0 hz1 hz2 rfl (by decide) _ _ _ rfl (B1.out.alloc _) ⟨w2.heap.size, 0, none⟩ 1 1 [.int .i64 ((nx : Int) + (d : Int))] rfl rfl (cell_one_new _ _ _) (fun u hu => by simp at hu; subst hu; rfl) (by unfold maxLen; omega) (by omega) (by rw [World.size_alloc]; omega) ?_; intro uv2 w3 hown3 hgr3 _; have hbl : Below w.heap.size w2 w3 := ((Below.refl w.heap.size w2).alloc hz2' _).grown hgr3 (by rw [World.size_alloc]; omega) (fun k hk => (B1.out.lt k hk).1); have H1 := Lib.hid hown3; have H2 := Lib.hid hbl; clear hown3 hgr3 hbl)
            refine (none_calls _).mono ?_
            rintro e w4 ⟨rfl, rfl⟩
            go_wp2_with fail
            go_roundw
            case rel => exact ⟨i + 1, nx + d + 1, is ++ [nx + d], r2, by omega, by omega, by go_num, by go_num, by rw [List.length_append, hti'.out]; rfl, by rw [List.length_append, ← wns_snoc]; exact H1.out, R2.out.below H2.out hb, B2.out.trans (But.of_below H2.out), E2.out⟩
            case measure => simp [intOf]; omega
    · obtain rfl : i = n := by omega
      go_wp2_with fail
      go_ret
      exact RPI.mkOk (r := ri) (by rw [hE, Nat.sub_self]; show Wr.R.ok (is ++ []) ri = _; rw [List.append_nil]) A1.out hcur A2.out
end Go.Proofs.YtlpcjiollnnmgaaDoor
