/-
  THE PROGRAM's 'read' OF A TRANSACTION: what a reader panics with is caught and handed back; wire.ReadTx, relay.Txid.
-/
import Derived.Test.YtlpcjiollnnmgabGreatDoorTxW
import Derived.Defers
import Derived.Recover
set_option maxRecDepth 100000
namespace Go.Proofs.YtlpcjiollnnmgabGreatDoor
open Go.RowKit Nums
/-- a struct out of a block of its own, in a quiet walk -/
theorem wpQuiet_loadc {ops : Array Oper} {rest : List Oper} {o : Oper} {a : Act} {C : World → Prop} {Q : Act → Prop} (hgd : o.guard = none) (ty : TypeId) (x : Operand) (ho : o.op = .load ty x)
    (g : Nat) (l : List Value) (hx : a.eval x = .pointer (some ⟨g, 0, none⟩)) (hr : ∀ w, C w → Row w g l) (d : TypeDesc) (hu : Tryz.prog.underlying ty = some d) (hi : (Tryz.prog.info? ty).map (·.size) = some l.length) (fs : _) (hd : d = .struct fs)
    (h : wpQuiet Tryz.prog ops C Q rest (a.put o.dst (.agg l.toArray))) : wpQuiet Tryz.prog ops C Q (o :: rest) a := by
  subst hd
  unfold wpQuiet
  rw [if_pos (by simp [Region.wanted, hgd])]
  refine ⟨_, fun w hw => ?_, h⟩
  have := run_loadAt_mid (P := Tryz.prog) w g 0 ty l _ (fun j v hv => by rw [Nat.zero_add, (hr w hw).cell]; exact hv) hu rfl hi
  unfold Oper.quietAt execOp
  simp only [ho, hx, Sem.run_bind, this, Result.andThen_ok, Sem.run_pure, Oper.quietUpon]
  first | trivial | exact ⟨trivial, trivial⟩ | exact ⟨rfl, rfl⟩ | exact ⟨rfl, hw⟩
theorem catchTx_idle (g h : Nat) (w : World) :
    CallsD Tryz.prog 111 #[.pointer (some ⟨g, 0, none⟩), .pointer (some ⟨h, 0, none⟩)] .returning w fun e u' w' => e = .returned (.tuple #[]) ∧ u' = .returning ∧ w' = w := by
  refine callsD_of_wpS Tryz.func111 rfl fun c₀ cs hu => ?_
  simp only [Tryz.ntmps111, List.size_toArray, List.length_cons, List.length_nil, Nat.reduceAdd, Nat.reduceSub, Array.replicate_succ, Array.replicate_zero, List.push_toArray, List.append_toArray, List.nil_append, List.cons_append]
  apply wpS_seq
  apply wpS_region
  simp [wpOpsS, go_sem, recoverD, hu, Exit.thenS]
  refine wpS_of_wp ?_
  go_wp2_with fail
  cases c₀
  simp_all [bodyPostS, results, Tryz.results111]
theorem catchTx_panicking (g h : Nat) (n m : Int) (l : List Value) (w : World) (hg : Row w g l) (hh : Row w h [.int .i64 m]) (hl : l.length = 33) (hne : g ≠ h) :
    CallsD Tryz.prog 111 #[.pointer (some ⟨g, 0, none⟩), .pointer (some ⟨h, 0, none⟩)] (.panicking (Fault n)) w fun e u' w' =>
      e = .returned (.tuple #[]) ∧ u' = .panicking [{ v := .iface 178 (.agg #[.int .i64 n]), recovered := true }] ∧ Row w' g tx0 ∧ Row w' h [.int .i64 n] ∧ Keep (fun k => k = g ∨ k = h) w w' := by
  refine callsD_of_wpS Tryz.func111 rfl fun c₀ cs hu => ?_
  simp only [Tryz.ntmps111, List.size_toArray, List.length_cons, List.length_nil, Nat.reduceAdd, Nat.reduceSub, Array.replicate_succ, Array.replicate_zero, List.push_toArray, List.append_toArray, List.nil_append, List.cons_append]
  apply wpS_seq
  apply wpS_region
  unfold Fault at hu
  have hta : ∀ (w : World), (Instr.typeAssert (.iface 178 (.agg #[.int .i64 n])) 20 178 true).run Tryz.prog w = .ok (.tuple #[.agg #[.int .i64 n], .bool true]) w := fun w => by kernel_rfl
  simp [wpOpsS, go_sem, recoverD, hu, Exit.thenS]
  refine wpS_of_wp ?_
  have hzg := hg.lt
  have hzh := hh.lt
  have r1 : Row ((w.alloc (.cells #[.int .i64 n] 178)).alloc (.cells tx0.toArray 78)) w.heap.size [.int .i64 n] := (Row.new w [.int .i64 n] 178).alloc _
  have r2 : Row ((w.alloc (.cells #[.int .i64 n] 178)).alloc (.cells tx0.toArray 78)) (w.heap.size + 1) tx0 := by
    have := Row.new (w.alloc (.cells #[.int .i64 n] 178)) tx0 78
    rwa [World.size_alloc] at this
  have r3 : Row ((w.alloc (.cells #[.int .i64 n] 178)).alloc (.cells tx0.toArray 78)) g l := (hg.alloc _).alloc _
  have r4 : Row ((w.alloc (.cells #[.int .i64 n] 178)).alloc (.cells tx0.toArray 78)) h [.int .i64 m] := (hh.alloc _).alloc _
  have kk : Keep (fun k => k = g ∨ k = h) w ((w.alloc (.cells #[.int .i64 n] 178)).alloc (.cells tx0.toArray 78)) := ((Keep.refl _ _).alloc _).alloc _
  rw [Tryz.zeroTx] at r1 r2 r3 r4 kk
  clear hg hh
  go_wp2_with fail
  generalize (w.alloc _).alloc _ = w1 at r1 r2 r3 r4 kk ⊢
  generalize w.heap.size = A at *
  have hu : ∀ u : Reg.Of (fun u => Row u A [.int .i64 n] ∧ Row u (A + 1) tx0), u.w.cell? ⟨A, 0, none⟩ = some (.int .i64 n) := fun u => u.h.1.cell 0
  haveI hne' : Nonempty (Reg.Of (fun u => Row u A [.int .i64 n] ∧ Row u (A + 1) tx0)) := ⟨⟨w1, r1, r2⟩⟩
  refine Reg.startL [0, 1, 2] 2 mixed (by kernel_rfl) rfl rfl (fun c a d v w h => by cases d <;> exact h) (by as_aux_lemma => kernel_rfl) rfl (fun u => Row u A [.int .i64 n] ∧ Row u (A + 1) tx0) ⟨r1.drew, r2.drew⟩ ?_
  show wpQuiet _ _ _ _ [_, _, _] _
  refine wpQuiet_loadc (o := ⟨some 12, _, _, _, _, _⟩) rfl _ _ rfl (A + 1) tx0 rfl (fun w hw => by obtain ⟨u, rfl⟩ := hw; exact u.h.2) _ Tryz.underlying78 (infoTx.trans (by rw [tx0_len])) _ rfl ?_
  go_frame
  repeat (go_big_quiet_step (fail))
  refine wpQuiet_nil ?_
  have r1 := r1.drew
  have r2 := r2.drew
  have r3 := r3.drew
  have r4 := r4.drew
  have kk := kk.drew
  generalize w1.drew = w2 at r1 r2 r3 r4 kk ⊢
  refine Reg.one 3 _ (by kernel_rfl) rfl rfl ?_
  refine store_cells rfl _ _ _ rfl g l tx0 rfl rfl r3 (infoTx.trans (by rw [tx0_len])) (by rw [hl, tx0_len]) (by decide +kernel) ?_
  have s1 := r1.setOther (g := g) (by omega) tx0.toArray
  have s2 := r2.setOther (g := g) (by omega) tx0.toArray
  have s3 := r3.setRow tx0
  have s4 := r4.setOther (g := g) (Ne.symm hne) tx0.toArray
  have kk := kk.setRow g tx0.toArray (.inl rfl)
  generalize w2.setRow g _ = w3 at s1 s2 s3 s4 kk ⊢
  refine ⟨Reg.cls_mk ⟨s1, s2⟩, ?_⟩
  refine Reg.one 4 _ (by kernel_rfl) rfl rfl ?_
  have hz := s4.free 0
  have hc := s4.cell 0
  try go_frame
  go_wp2_with fail
  refine ⟨Reg.cls_mk ⟨s1.other (show h ≠ A by omega) _, s2.other (show h ≠ A + 1 by omega) _⟩, ?_⟩
  refine wpAnyH_done (by kernel_rfl) ?_ 0
  go_wp2_with fail
  refine ⟨rfl, _, rfl, .tuple #[], results_none rfl _ _ _, rfl, rfl, s3.other (Ne.symm hne) _, s4.set 0 _, kk.set _ _ (.inr rfl)⟩
theorem results_c2 {fn : Func} {p u : Tmp} {ty : TypeId} (h : fn.results = #[.cell p ty, .cell u 37]) (tmps : Array Value) (w : World) (g k : Nat) (l : List Value) (n : Int)
    (hp : tmps.getD p undef = .pointer (some ⟨g, 0, none⟩)) (hu : tmps.getD u undef = .pointer (some ⟨k, 0, none⟩)) (hr : Row w g l) (hk : Row w k [.int .i64 n]) (fs : _) (ht : Tryz.prog.underlying ty = some (.struct fs)) (hi : (Tryz.prog.info? ty).map (·.size) = some l.length) :
    (results fn tmps).run Tryz.prog w = .ok (.tuple #[.agg l.toArray, .int .i64 n]) w := by
  have h2 : (loadVar ty ⟨g, 0, none⟩).run Tryz.prog w = .ok (.agg l.toArray) w :=
    run_loadVar_mid w g 0 _ l _ (fun j v hv => by rw [Nat.zero_add, hr.cell]; exact hv) ht rfl hi
  have hc : w.cell? ⟨k, 0, none⟩ = some (.int .i64 n) := hk.cell 0
  have hp' : tmps[p]?.getD undef = .pointer (some ⟨g, 0, none⟩) := by simpa using hp
  have hu' : tmps[u]?.getD undef = .pointer (some ⟨k, 0, none⟩) := by simpa using hu
  have h3 : (loadVar 37 ⟨k, 0, none⟩).run Tryz.prog w = .ok (.int .i64 n) w := by
    clear h2
    simp [go_sem, hc]
  unfold results
  rw [h]
  simp [asAddr, hp', hu', h2, h3]
def rdTx : Wr.R (List UInt8) → Value
  | .ok t _ => .tuple #[txV t, .int .i64 0]
  | .bad n => .tuple #[.agg tx0.toArray, .int .i64 n]
set_option maxHeartbeats 2000000 in
theorem readTx_calls (l : List UInt8) (w : World) (hT : Tabs w) (hl : l.length ≤ 9223372036854775807) :
    Calls Tryz.prog 68 #[.string (str l), .func (.func 69) #[] #[]] w fun e w' => e = .returned (rdTx (Wr.readTx l)) ∧ Below w.heap.size w w' := by
  have hmf : ∀ (fn : Fn) (first cap : Array Value) (w : World), (Instr.makeFunc fn first cap).run Tryz.prog w = .ok (.func fn first cap) w := fun _ _ _ _ => rfl
  have h1w := hT.lt
  have HT := Lib.hid hT
  have EQ := Lib.hid (show Wr.readTx l = (Wr.tx l).bind fun a r => if r = [] then .ok a r else .bad 5 from rfl)
  have r1 : Row (((w.alloc (.cells tx0.toArray 78)).alloc (.cells #[.int .i64 0] 37)).alloc (.cells #[.string (str l)] 136)) w.heap.size tx0 := ((Row.new w tx0 78).alloc _).alloc _
  have r2 : Row (((w.alloc (.cells tx0.toArray 78)).alloc (.cells #[.int .i64 0] 37)).alloc (.cells #[.string (str l)] 136)) (w.heap.size + 1) [.int .i64 0] := by
    have := Row.new (w.alloc (.cells tx0.toArray 78)) [.int .i64 0] 37
    rw [World.size_alloc] at this
    exact this.alloc _
  have r3 : Row (((w.alloc (.cells tx0.toArray 78)).alloc (.cells #[.int .i64 0] 37)).alloc (.cells #[.string (str l)] 136)) (w.heap.size + 2) [.string (str l)] := by
    have := Row.new ((w.alloc (.cells tx0.toArray 78)).alloc (.cells #[.int .i64 0] 37)) [.string (str l)] 136
    rw [World.size_alloc, World.size_alloc] at this
    exact this
  have hB : Below w.heap.size w (((w.alloc (.cells tx0.toArray 78)).alloc (.cells #[.int .i64 0] 37)).alloc (.cells #[.string (str l)] 136)) := (((Below.refl _ _).alloc (Nat.le_refl _) _).alloc (by simp) _).alloc (by simp; omega) _
  rw [Tryz.zeroTx] at r1 r2 r3 hB
  clear hT
  go_enter_defers Tryz.func68, Tryz.ntmps68
  go_wp2_with fail
  generalize ((w.alloc _).alloc _).alloc _ = w1 at r1 r2 r3 hB ⊢
  have HB := Lib.hid hB
  have hz := hB.size
  have hz3 := r3.lt
  have R1 := Lib.hid r1
  have R2 := Lib.hid r2
  have T1 := Lib.hid (tx_calls (w.heap.size + 2) l w1 (HT.out.below hB h1w) (by omega) r3 hl)
  clear r1 r2 r3 hB
  refine T1.out.mono ?_
  clear T1
  cases hx : Wr.tx l with
  | bad n =>
    rintro e w2 ⟨rfl, h⟩
    rw [hx] at EQ
    have H1 := h.row R1.out R1.out.lt (by omega)
    have H2 := h.row R2.out R2.out.lt (by omega)
    refine leaves_cons (f := 111) (args := #[.pointer (some ⟨w.heap.size, 0, none⟩), .pointer (some ⟨w.heap.size + 1, 0, none⟩)]) (by simp) (by simp [go_sem]) ?_
    refine (catchTx_panicking w.heap.size (w.heap.size + 1) n 0 tx0 w2 H1 H2 tx0_len (by omega)).mono ?_
    rintro e u' w3 ⟨rfl, rfl, h5, h6, h7⟩
    refine ⟨_, results_c2 rfl _ _ w.heap.size (w.heap.size + 1) tx0 n rfl rfl h5 h6 _ Tryz.underlying78 (infoTx.trans (by rw [tx0_len])), ?_, ?_⟩
    · rw [show Wr.readTx l = .bad n from EQ.out]; rfl
    · exact HB.out.trans ⟨h7.os.trans h.os, h7.tape.trans h.tape, h7.output.trans h.output, Nat.le_trans h.size h7.size, fun k hk => (h7.block k (by have := h.size; omega) (by omega)).trans (h.block k (by omega) (by omega))⟩
  | ok t r =>
    rintro e w2 ⟨rfl, h3, h⟩
    rw [hx] at EQ
    have EQ2 := Lib.hid (show Wr.readTx l = if r = [] then .ok t r else .bad 5 from EQ.out)
    have H1 := h.row R1.out R1.out.lt (by omega)
    have H2 := h.row R2.out R2.out.lt (by omega)
    have hz2 := h.size
    have B2 := Lib.hid (show Below w.heap.size w w2 from HB.out.trans ⟨h.os, h.tape, h.output, h.size, fun k hk => h.block k (by omega) (by omega)⟩)
    have S1 := Lib.hid (H1.setRow (txCells t))
    have S2 := Lib.hid (H2.setOther (g := w.heap.size) (by omega) (txCells t).toArray)
    have S3 := Lib.hid (h3.setOther (g := w.heap.size) (by omega) (txCells t).toArray)
    have B3 := Lib.hid (below_setRow B2.out (Nat.le_refl _) (txCells t).toArray)
    clear EQ h h3 H2 R1 R2 HB hx
    go_wp2_with (with_reducible refine store_cells (o := ⟨none, _, _, _, _, _⟩) rfl _ _ _ rfl w.heap.size tx0 (txCells t) rfl rfl H1 (infoTx.trans (by rw [txCells_len])) (by rw [txCells_len, tx0_len]) (txCells_one t) ?_)
    clear H1
    generalize w2.setRow _ _ = w3 at S1 S2 S3 B3 ⊢
    refine (end_calls (w.heap.size + 2) r w3 S3.out).mono ?_
    by_cases hr : r = []
    · simp only [if_pos hr]
      rintro e w4 ⟨rfl, rfl⟩
      have hro := S1.out
      have S4 := Lib.hid (S2.out.setOther (g := w.heap.size) (by omega) (txCells t).toArray)
      have S5 := Lib.hid (S1.out.setRow (txCells t))
      have B5 := Lib.hid (below_setRow B3.out (Nat.le_refl _) (txCells t).toArray)
      have hz5 := S4.out.free 0
      have hc5 := S4.out.cell 0
      go_wp2_with (first | (refine load_cells (o := ⟨some 19, _, _, _, _, _⟩) rfl _ _ rfl w.heap.size (txCells t) rfl hro _ Tryz.underlying78 (infoTx.trans (by rw [txCells_len])) _ rfl ?_) | (with_reducible refine store_cells (o := ⟨none, _, _, _, _, _⟩) rfl _ _ _ rfl w.heap.size (txCells t) (txCells t) rfl rfl hro (infoTx.trans (by rw [txCells_len])) rfl (txCells_one t) ?_))
      refine leaves_cons (f := 111) (args := #[.pointer (some ⟨w.heap.size, 0, none⟩), .pointer (some ⟨w.heap.size + 1, 0, none⟩)]) (by simp) (by simp [go_sem]) ?_
      refine (catchTx_idle w.heap.size (w.heap.size + 1) _).mono ?_
      rintro e u' w5 ⟨rfl, rfl, rfl⟩
      refine ⟨_, results_c2 rfl _ _ w.heap.size (w.heap.size + 1) (txCells t) 0 rfl rfl (S5.out.other (show w.heap.size + 1 ≠ w.heap.size by omega) _) (S4.out.set 0 _) _ Tryz.underlying78 (infoTx.trans (by rw [txCells_len])), ?_, ?_⟩
      · rw [show Wr.readTx l = .ok t r from EQ2.out.trans (if_pos hr)]; rfl
      · exact B5.out.setCell (show w.heap.size ≤ w.heap.size + 1 by omega) _
    · simp only [if_neg hr]
      rintro e w4 ⟨rfl, rfl⟩
      refine leaves_cons (f := 111) (args := #[.pointer (some ⟨w.heap.size, 0, none⟩), .pointer (some ⟨w.heap.size + 1, 0, none⟩)]) (by simp) (by simp [go_sem]) ?_
      refine (catchTx_panicking w.heap.size (w.heap.size + 1) 5 0 (txCells t) w4 S1.out S2.out (txCells_len t) (by omega)).mono ?_
      rintro e u' w5 ⟨rfl, rfl, h5, h6, h7⟩
      refine ⟨_, results_c2 rfl _ _ w.heap.size (w.heap.size + 1) tx0 5 rfl rfl h5 h6 _ Tryz.underlying78 (infoTx.trans (by rw [tx0_len])), ?_, ?_⟩
      · rw [show Wr.readTx l = .bad 5 from EQ2.out.trans (if_neg hr)]; rfl
      · exact B3.out.trans ⟨h7.os, h7.tape, h7.output, h7.size, fun k hk => h7.block k (by have := B3.out.size; omega) (by omega)⟩
end Go.Proofs.YtlpcjiollnnmgabGreatDoor
