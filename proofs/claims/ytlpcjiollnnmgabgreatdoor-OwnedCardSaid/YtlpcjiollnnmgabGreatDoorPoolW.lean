/-
  THE WALKS OF THE POOL: NewReceiver, Add, Drop, IDs.
-/
import Derived.Test.YtlpcjiollnnmgabGreatDoorPoolD
import Derived.Test.YtlpcjiollnnmgabGreatDoorRRoot
set_option maxRecDepth 100000
namespace Go.Proofs.YtlpcjiollnnmgabGreatDoor
open Nums
open Go.RowKit
namespace Reg
/-- one operation that yields one value in every world that meets S, taken first -/
theorem take1 {P : Program} {ops : Array Oper} {Q : Exit → Act → World → Prop} {S : World → Prop} {fuel : Nat} {L : Array Bool} {a : Act} {w : World} (i : Nat) (o : Oper) (v : Value) (hi : ops[i]? = some o) (hg : o.guard = none) (hsel : Region.noSelect ops = true)
    (hB : takeB ops [i] L = true) (hQ : ∀ c (a : Act) d v w, Q (.panic c) (a.put d v) w → Q (.panic c) a w) (hy : ∀ w, S w → (execOp a.eval o).run P w = .ok (.value v) w) (hS : S w)
    (h : wpAnyH P .any ops Q S fuel (L.setIfInBounds i true) (a.put o.dst v) w) : wpAnyH P .any ops Q S (fuel + 1) L a w := by
  simp only [takeB, Bool.and_eq_true, Bool.and_true] at hB
  exact wpAnyH_take hi hsel hB.2 hB.1 (fun c a w hq => hQ c _ _ _ w hq) (.inl ⟨by simp [Region.wanted, hg], hy⟩) hS h
theorem lookup_run {P : Program} {ev : Operand → Value} {o : Oper} {w : World} {v : Value} {t : TypeId} {x k : Operand} {c : Bool} (hop : o.op = .lookup t x k c) (h : (Instr.lookup t (ev x) (ev k) c).run P w = .ok v w) : (execOp ev o).run P w = .ok (.value v) w := by
  unfold execOp
  simp only [hop, Sem.run_bind, h, Result.andThen_ok, Sem.run_pure]
end Reg
namespace Mp
theorem zeroTx (w : World) : (zeroValue 78).run Tryz.prog w = .ok (.agg tx0.toArray) w := by kernel_rfl
/-- what a look-up gives, in every world that has this map -/
theorem look_det {w0 : World} {m : Nat} {P : List B} (h : w0.ownsMap Tryz.prog 76 txR m 20 (D P)) (hup : Pl.Up Mk.twice P) (d : B) (hd : d.length = 32) :
    ∃ (es : Array MapEntry) (clock : Nat) (cs : List Value), w0.heap[m]? = some (.map es clock) ∧ cs.length = 33 ∧ cs.all (·.oneCell') = true ∧
      ∀ w : World, w.heap[m]? = some (.map es clock) → (Instr.lookup 39 (.map (some m)) (.agg (w8 d).toArray) true).run Tryz.prog w = .ok (.tuple #[.agg cs.toArray, .bool (Pl.at' Mk.twice d P).2]) w := by
  have hhas := has_ents P d hup
  obtain ⟨es, clock, hb, F, hs, hD⟩ := h
  have hkey := key_dg d hd
  have hpw := ((Go.MapKept.stamped_iff es clock).1 F.stamped).2.2
  have look := fun (w : World) (hw : w.heap[m]? = some (.map es clock)) => Maps.fit_look true law Tryz.underlying39 (zeroTx w) hw F hkey
  rcases look w0 hb with ⟨_, hno, hat⟩ | ⟨e0, y, hm0, hk0, _, hR, hat, _⟩
  · refine ⟨es, clock, tx0, hb, tx0_len, by decide +kernel, fun w hw => ?_⟩
    rw [← hhas, hD, Maps.has_false_of_atKey hat]
    rcases look w hw with ⟨hrun, _, _⟩ | ⟨e1, _, hm1, hk1, _⟩
    · exact hrun
    · exact absurd hk1 (hno e1 hm1)
  · have hcs : ∃ cs : List Value, e0.val = .agg cs.toArray ∧ cs.length = 33 ∧ cs.all (·.oneCell') = true := by
      rcases txR_inv hR with ⟨t, ht, _⟩ | ⟨ht, _⟩
      · exact ⟨txCells t, ht, txCells_len t, txCells_one t⟩
      · exact ⟨tx0, ht, tx0_len, by decide +kernel⟩
    obtain ⟨cs, hv, hl, h1⟩ := hcs
    refine ⟨es, clock, cs, hb, hl, h1, fun w hw => ?_⟩
    rw [← hhas, hD, Maps.has_true_of_atKey hat, ← hv]
    rcases look w hw with ⟨_, hno, _⟩ | ⟨e1, _, hm1, hk1, hrun, _⟩
    · exact absurd hk0 (hno e0 hm0)
    · have : e1 = e0 := by
        obtain ⟨i, hi, rfl⟩ := List.mem_iff_getElem.1 hm1
        obtain ⟨j, hj, rfl⟩ := List.mem_iff_getElem.1 hm0
        rcases Nat.lt_trichotomy i j with h | h | h
        · exact absurd (hk1.trans hk0.symm) (List.pairwise_iff_getElem.1 hpw i j hi hj h)
        · subst h; rfl
        · exact absurd (hk0.trans hk1.symm) (List.pairwise_iff_getElem.1 hpw j i hj hi h)
      rw [this] at hrun
      exact hrun
theorem Map.new (w : World) : Map (w.alloc (.map #[] 0)) w.heap.size [] where
  own := (World.ownsMap_made w _ _ _).mono (by omega)
  up := List.Pairwise.nil
  le := by simp
  short := fun t ht => by cases ht
theorem Map.alloc {w : World} {m : Nat} {P : List B} (h : Map w m P) (o : Obj) : Map (w.alloc o) m P := ⟨h.own.alloc o, h.up, h.le, h.short⟩
theorem Map.lt {w : World} {m : Nat} {P : List B} (h : Map w m P) : m < w.heap.size := h.own.lt
theorem own_block {w w' : World} {m n : Nat} {D : DataW Unit} (h : w.ownsMap Tryz.prog 76 txR m n D) (hb : w'.heap[m]? = w.heap[m]?) : w'.ownsMap Tryz.prog 76 txR m n D := by
  obtain ⟨es, clock, h1, r⟩ := h
  exact ⟨es, clock, hb.trans h1, r⟩
theorem Map.block {w w' : World} {m : Nat} {P : List B} (h : Map w m P) (hb : w'.heap[m]? = w.heap[m]?) : Map w' m P := ⟨own_block h.own hb, h.up, h.le, h.short⟩
theorem Map.below {B : Nat} {w w' : World} {m : Nat} {P : List Mp.B} (h : Map w m P) (hb : Below B w w') (hm : m < B) : Map w' m P := h.block (hb.block m hm)
theorem own_tight {w : World} {m n n' : Nat} {D : DataW Unit} (h : w.ownsMap Tryz.prog 76 txR m n D) (hs : Maps.size D ≤ n') : w.ownsMap Tryz.prog 76 txR m n' D := by
  obtain ⟨es, clock, hb, F, _, hD⟩ := h
  refine ⟨es, clock, hb, F, ?_, hD⟩
  rw [hD] at hs
  simpa [Maps.size, length_sorted] using hs
theorem but_of_turned {w w' : World} {m B : Nat} (h : w.mapTurned w' m) : But B m w w' := by
  obtain ⟨es, clock, es', clock', hb, rfl⟩ := h
  exact ⟨rfl, rfl, rfl, by simp [Go.ChangeMaps.setBlock], fun k _ hk => Go.ChangeMaps.heap_setBlock_other hb _ hk⟩
theorem quiet_tx {ops : Array Oper} {rest : List Oper} {o : Oper} {a : Act} {C : World → Prop} {Q : Act → Prop} (hgd : o.guard = none) (x : Operand) (ho : o.op = .load 78 x)
    (g off : Nat) (t : List UInt8) (hx : a.eval x = .pointer (some ⟨g, off, none⟩)) (hr : ∀ w, C w → w.rangeAt g off (txCells t))
    (h : wpQuiet Tryz.prog ops C Q rest (a.put o.dst (txV t))) : wpQuiet Tryz.prog ops C Q (o :: rest) a := by
  unfold wpQuiet
  rw [if_pos (by simp [Region.wanted, hgd])]
  refine ⟨_, fun w hw => ?_, h⟩
  have := run_loadAt_mid (P := Tryz.prog) w g off 78 (txCells t) _ (hr w hw) Tryz.underlying78 rfl (by rw [infoTx, txCells_len])
  unfold Oper.quietAt execOp
  simp only [ho, hx, Sem.run_bind, this, Result.andThen_ok, Sem.run_pure, Oper.quietUpon]
  first | trivial | exact ⟨trivial, trivial⟩ | exact ⟨rfl, rfl⟩ | exact ⟨rfl, hw⟩
/-- a receiver's cells: nothing is under way -/
def rcv (m : Nat) : List Value := [.map (some m), .string (str []), .slice none 0 0, .slice none 0 0]
end Mp
theorem new_calls (w : World) :
    Calls Tryz.prog 16 #[] w fun e w' => ∃ r m, e = .returned (.pointer (some ⟨r, 0, none⟩)) ∧ Row w' r (Mp.rcv m) ∧ Mp.Map w' m [] ∧ w.heap.size ≤ r ∧ w.heap.size ≤ m ∧ r ≠ m ∧ Below w.heap.size w w' := by
  have hmm := @run_makeMap Tryz.prog
  have hM := Mp.Map.new w
  have hB := (Below.refl w.heap.size w).alloc (Nat.le_refl _) (.map #[] 0)
  go_enter Tryz.func16, Tryz.ntmps16
  go_wp2_with fail
  have hR := Row.new (w.alloc (.map #[] 0)) (Mp.rcv w.heap.size) 44
  have hz : (w.alloc (.map #[] 0)).heap.size = w.heap.size + 1 := by simp
  rw [hz] at hR
  go_ret
  exact ⟨w.heap.size + 1, w.heap.size, rfl, hR, hM.alloc _, by omega, by omega, by omega, hB.alloc (by rw [hz]; omega) _⟩
namespace Mp
theorem readTx_whole {l t r : List UInt8} (h : Wr.readTx l = .ok t r) : t = l ∧ l.length ≤ 610 := by
  have h' : (Wr.tx l).bind (fun a r => if r = [] then .ok a r else .bad 5) = .ok t r := h
  unfold Wr.tx at h'
  cases hb : Wr.body l with
  | bad e => rw [hb] at h'; cases h'
  | ok u s =>
    rw [hb] at h'
    have h2 : (if s = [] then (.ok (l.take (l.length - s.length)) s : Wr.R (List UInt8)) else .bad 5) = .ok t r := h'
    by_cases hs : s = []
    · rw [if_pos hs] at h2
      subst hs
      have hl := Wr.body_eats l u _ hb
      cases h2
      simp at hl ⊢
      exact hl
    · rw [if_neg hs] at h2; cases h2
theorem readTx_short {l t r : List UInt8} (h : Wr.readTx l = .ok t r) : t.length ≤ 610 := by
  obtain ⟨rfl, h2⟩ := readTx_whole h; exact h2
def addErr (P : List B) (x : Wr.R (List UInt8)) : Nat := match x with
  | .bad n => n
  | .ok t _ => if (Pl.at' Mk.twice (Mk.twice t) P).2 then 10 else if P.length = 20 then 9 else 0
def addP (P : List B) (x : Wr.R (List UInt8)) : List B := match x with
  | .bad _ => P
  | .ok t _ => if (Pl.at' Mk.twice (Mk.twice t) P).2 then P else if P.length = 20 then P else Pl.ins Mk.twice t P
end Mp
def AddS (r A m : Nat) (cs : List Value) (o : Obj) (u : World) : Prop := u.cell? ⟨r, 0, none⟩ = some (.map (some m)) ∧ Row u A cs ∧ u.heap[m]? = some o
theorem AddS.load {r A m : Nat} {t : List UInt8} {o : Obj} {u : World} (h : AddS r A m (txCells t) o u) : u.rangeAt A 1 (w8 (Mk.twice t)) := fun j v hv => by
  rw [h.2.1.cell, Nat.add_comm]
  unfold txCells
  rw [List.getElem?_cons_succ]; exact hv
theorem AddS.mono {r A m : Nat} {cs : List Value} {o : Obj} {u u' : World} (h : AddS r A m cs o u) (hb : ∀ k, k < u.heap.size → u'.heap[k]? = u.heap[k]?) : AddS r A m cs o u' :=
  ⟨(World.cell?_of_block (w := u) (hb r (World.block_lt_of_cell? _ _ h.1))).trans h.1, h.2.1.imp fun _ h' => (hb A h.2.1.lt).trans h', (hb m (Array.getElem?_eq_some_iff.1 h.2.2).1).trans h.2.2⟩
def RowS (r A m : Nat) (cs : List Value) (u : World) : Prop := u.cell? ⟨r, 0, none⟩ = some (.map (some m)) ∧ Row u A cs
theorem RowS.load {r A m : Nat} {t : List UInt8} {u : World} (h : RowS r A m (txCells t) u) : u.rangeAt A 1 (w8 (Mk.twice t)) := fun j v hv => by
  rw [h.2.cell, Nat.add_comm]
  unfold txCells
  rw [List.getElem?_cons_succ]; exact hv
set_option maxHeartbeats 4000000 in
theorem add_calls (l : List UInt8) (r m : Nat) (P : List Mp.B) (w : World) (hT : Tabs w) (hl : l.length ≤ 9223372036854775807) (hr : w.cell? ⟨r, 0, none⟩ = some (.map (some m))) (hM : Mp.Map w m P) (hrw : r < w.heap.size) (hrm : r ≠ m) :
    Calls Tryz.prog 19 #[.pointer (some ⟨r, 0, none⟩), .string (str l)] w fun e w' => e = .returned (.int .i64 (Mp.addErr P (Wr.readTx l) : Int)) ∧ Mp.Map w' m (Mp.addP P (Wr.readTx l)) ∧ But w.heap.size m w w' := by
  have h1w := hT.lt
  have T1 := Lib.hid (wreadTx_calls l w hT hl)
  have HM := Lib.hid hM
  have hmw := hM.lt
  have HR := Lib.hid hr
  clear hT hM hr
  go_enter Tryz.func19, Tryz.ntmps19
  go_wp2_with fail
  refine T1.out.mono ?_
  clear T1
  cases hx : Wr.readTx l with
  | bad n =>
    rintro e w1 ⟨rfl, hb⟩
    have hn := readTx_pos hx
    have p1 : ¬ (n : Int) = 0 := by omega
    have EQ := Lib.hid hx
    obtain ⟨cs, hE, hcl, hc1⟩ : ∃ cs : List Value, rdTx (.bad n) = .tuple #[.agg cs.toArray, .int .i64 n] ∧ cs.length = 33 ∧ cs.all (·.oneCell') = true := ⟨tx0, rfl, tx0_len, by decide +kernel⟩
    rw [hE]
    have r1 : Row (w1.alloc (.cells tx0.toArray 78)) w1.heap.size tx0 := Row.new w1 tx0 78
    have hB : Below w1.heap.size w1 (w1.alloc (.cells tx0.toArray 78)) := (Below.refl _ _).alloc (Nat.le_refl _) _
    have B1 := Lib.hid (hb.trans ((below_setRow hB (Nat.le_refl _) cs.toArray).mono hb.size))
    rw [Tryz.zeroTx] at r1 hB B1
    have H1 := r1
    clear hx hb r1 hB hn hE
    go_wp2_with (with_reducible refine store_cells (o := ⟨none, _, _, _, _, _⟩) rfl _ _ _ rfl w1.heap.size tx0 cs rfl rfl H1 (infoTx.trans (by rw [hcl])) (by rw [hcl, tx0_len]) hc1 ?_)
    go_ret
    exact ⟨by rw [EQ.out]; rfl, by rw [EQ.out]; exact HM.out.below B1.out hmw, But.of_below B1.out⟩
  | ok t rest =>
    rintro e w1 ⟨rfl, hb⟩
    have EQ := Lib.hid hx
    have htl : t.length ≤ 610 := Mp.readTx_short hx
    dsimp only [rdTx]
    have r1 : Row (w1.alloc (.cells tx0.toArray 78)) w1.heap.size tx0 := Row.new w1 tx0 78
    have hB : Below w1.heap.size w1 (w1.alloc (.cells tx0.toArray 78)) := (Below.refl _ _).alloc (Nat.le_refl _) _
    have B1 := Lib.hid (hb.trans ((below_setRow hB (Nat.le_refl _) (txCells t).toArray).mono hb.size))
    have H2 := r1.setRow (txCells t)
    rw [Tryz.zeroTx] at r1 hB B1 H2
    have H1 := r1
    clear r1 hx hB
    go_upto_region 4 with (with_reducible refine store_cells (o := ⟨none, _, _, _, _, _⟩) rfl _ _ _ rfl w1.heap.size tx0 (txCells t) rfl rfl H1 (infoTx.trans (by rw [txCells_len])) (by rw [txCells_len, tx0_len]) (txCells_one t) ?_)
    clear H1
    obtain ⟨A, hA⟩ : ∃ A, w1.heap.size = A := ⟨_, rfl⟩
    have hAw : w.heap.size ≤ A := hA ▸ hb.size
    rw [hA] at B1 H2 ⊢
    clear hA hb
    generalize World.setRow _ A (txCells t).toArray = w2 at B1 H2 ⊢
    have hr2 := (World.cell?_of_block (w := w) (a := ⟨r, 0, none⟩) (B1.out.block r hrw)).trans HR.out
    have M2 := HM.out.below B1.out hmw
    have h32 := twice32 t
    obtain ⟨es, clock, cs, hes, hcl, hc1, hlook⟩ := Mp.look_det M2.own M2.up (Mk.twice t) h32
    have MM := Lib.hid M2
    have HL := Lib.hid hlook
    have hS2 : AddS r A m (txCells t) (.map es clock) w2 := ⟨hr2, H2, hes⟩
    have hu0 : ∀ u : Reg.Of (AddS r A m (txCells t) (.map es clock)), u.w.cell? ⟨r, 0, none⟩ = some (.map (some m)) := fun u => u.h.1
    haveI hne : Nonempty (Reg.Of (AddS r A m (txCells t) (.map es clock))) := ⟨⟨w2, hS2⟩⟩
    clear hr2 M2 hlook
    refine Reg.startL [0, 1, 2, 3, 4, 5] 7 mixed (by kernel_rfl) rfl rfl (fun c a d v w h => by cases d <;> exact h) (by as_aux_lemma => kernel_rfl) rfl (AddS r A m (txCells t) (.map es clock)) hS2 ?_
    show wpQuiet _ _ _ _ [_, _, _, _, _, _] _
    iterate 5 (go_big_quiet_step (fail))
    refine wpQuiet_load (o := ⟨some 23, _, _, _, _, _⟩) rfl _ rfl A 1 (Mk.twice t) h32 rfl (fun w hw => by obtain ⟨u, rfl⟩ := hw; exact u.h.load) ?_
    try go_frame
    refine wpQuiet_nil ?_
    refine Reg.take1 6 ⟨some 24, .lookup 39 (.tmp 21) (.tmp 23) true, _, _, _, _⟩ (.tuple #[.agg cs.toArray, .bool (Pl.at' Mk.twice (Mk.twice t) P).2]) rfl rfl (by kernel_rfl) (by as_aux_lemma => kernel_rfl) (fun c a d v w h => by cases d <;> exact h) (fun u hu => ?_) (Reg.cls_mk hS2) ?_
    · obtain ⟨u', rfl⟩ := hu
      exact Reg.lookup_run rfl (HL.out _ u'.h.2.2)
    obtain ⟨ok, hok⟩ : ∃ b, (Pl.at' Mk.twice (Mk.twice t) P).2 = b := ⟨_, rfl⟩
    rw [hok]
    try go_frame
    refine Reg.restL [7, 8, 9] 3 (by rfl) (by kernel_rfl) (by rfl) (fun c a d v w h => by cases d <;> exact h) (by as_aux_lemma => kernel_rfl) (by rfl) (Reg.cls_mk hS2) ?_
    show wpQuiet _ _ _ _ [_, _, _] _
    repeat (go_big_quiet_step (fail))
    refine wpQuiet_nil ?_
    refine Reg.one 10 _ (by kernel_rfl) rfl rfl ?_
    try go_frame
    go_wp2_with fail
    have r3 : Row (w2.alloc (.cells tx0.toArray 78)) w2.heap.size tx0 := Row.new w2 tx0 78
    have S3 : AddS r A m (txCells t) (.map es clock) (w2.alloc (.cells tx0.toArray 78)) := hS2.mono fun k hk => Below.heap_alloc _ _ _ hk
    have B3 : Below w.heap.size w (w2.alloc (.cells tx0.toArray 78)) := B1.out.alloc B1.out.size _
    have M3 := MM.out.alloc (.cells tx0.toArray 78)
    rw [Tryz.zeroTx] at r3 S3 B3 M3
    have hD : w.heap.size ≤ w2.heap.size := B1.out.size
    have hAD : A < w2.heap.size := H2.lt
    have hmD := MM.out.lt
    obtain ⟨D, hDe⟩ : ∃ D, w2.heap.size = D := ⟨_, rfl⟩
    rw [hDe] at r3 hD hAD hmD ⊢
    have HOK := Lib.hid hok
    clear MM H2 hes hS2 hok HL HM B1 hDe
    generalize w2.alloc _ = w3 at r3 S3 B3 M3 ⊢
    refine ⟨Reg.cls_mk S3, ?_⟩
    refine Reg.one 11 _ (by kernel_rfl) rfl rfl ?_
    have S4 : AddS r A m (txCells t) (.map es clock) (w3.drew.setRow D cs.toArray) := ⟨(World.cell?_of_block (w := w3) (a := ⟨r, 0, none⟩) (setRow_other w3 D r _ (by omega))).trans S3.1, S3.2.1.imp fun _ h' => (setRow_other w3 D A _ (by omega)).trans h', (setRow_other w3 D m _ (by omega)).trans S3.2.2⟩
    have B4 := Lib.hid (below_setRow (w := w3.drew) B3.drew hD cs.toArray)
    have M4 := Lib.hid (Mp.Map.block M3 (setRow_other w3.drew D m cs.toArray (by omega)))
    refine store_cells (o := ⟨none, .store 78 (.tmp 7) (.tmp 25), _, _, _, _⟩) rfl _ _ _ rfl D tx0 cs rfl rfl r3 (infoTx.trans (by rw [hcl])) (by rw [hcl, tx0_len]) hc1 ?_
    generalize w3.drew.setRow D cs.toArray = w4 at S4 B4 M4 ⊢
    refine ⟨Reg.cls_mk S4, ?_⟩
    refine Reg.one 12 _ (by kernel_rfl) rfl rfl ?_
    try go_frame
    clear hne hu0 r3 S3 B3 M3
    go_wp2_with fail
    refine ⟨Reg.cls_mk S4, ?_⟩
    refine wpAnyH_done (by kernel_rfl) ?_ 0
    have hr4 := S4.1
    have N4 := Lib.hid (But.of_below (S := m) B4.out)
    have S5 := Lib.hid S4
    clear S4
    have hr4' := hr4
    cases ok
    · have hlen := M4.out.own.len Tryz.underlying39 3
      rw [Mp.size_ents] at hlen
      by_cases hfull : P.length = 20
      · rw [hfull] at hlen
        go_wp2_with fail
        go_ret
        refine ⟨?_, ?_, N4.out⟩
        · rw [EQ.out]; show _ = Ending.returned (.int .i64 ((if (Pl.at' Mk.twice (Mk.twice t) P).2 then 10 else if P.length = 20 then 9 else 0 : Nat) : Int)); rw [HOK.out, if_neg (by simp), if_pos hfull]; rfl
        · rw [EQ.out]; show Mp.Map w4 m (if (Pl.at' Mk.twice (Mk.twice t) P).2 then P else if P.length = 20 then P else _); rw [HOK.out, if_neg (by simp), if_pos hfull]; exact M4.out
      · have hle := M4.out.le
        have hpl : ¬ (P.length : Int) = 20 := by omega
        go_upto_region 9 with fail
        have hS9 : RowS r A m (txCells t) w4 := ⟨S5.out.1, S5.out.2.1⟩
        have hu0 : ∀ u : Reg.Of (RowS r A m (txCells t)), u.w.cell? ⟨r, 0, none⟩ = some (.map (some m)) := fun u => u.h.1
        haveI hne : Nonempty (Reg.Of (RowS r A m (txCells t))) := ⟨⟨w4, hS9⟩⟩
        clear hr4 hr4' hlen
        refine Reg.startL [0, 1, 2, 3, 4, 5, 6] 1 mixed (by kernel_rfl) rfl rfl (fun c a d v w h => by cases d <;> exact h) (by as_aux_lemma => kernel_rfl) rfl (RowS r A m (txCells t)) hS9 ?_
        show wpQuiet _ _ _ _ [_, _, _, _, _, _, _] _
        iterate 5 (go_big_quiet_step (fail))
        refine wpQuiet_load (o := ⟨some 39, _, _, _, _, _⟩) rfl _ rfl A 1 (Mk.twice t) h32 rfl (fun w hw => by obtain ⟨u, rfl⟩ := hw; exact u.h.load) ?_
        try go_frame
        refine Mp.quiet_tx (o := ⟨some 40, _, _, _, _, _⟩) rfl _ rfl A 0 t rfl (fun w hw => by obtain ⟨u, rfl⟩ := hw; exact fun j v hv => by rw [u.h.2.cell, Nat.zero_add]; exact hv) ?_
        try go_frame
        refine wpQuiet_nil ?_
        refine Reg.one 7 _ (by kernel_rfl) rfl rfl ?_
        refine wpList_mapUpdate_in _ (o := ⟨none, .mapUpdate 39 (.tmp 37) (.tmp 39) (.tmp 40), _, _, _, _⟩) rfl _ _ _ _ rfl 76 78 Mp.law Tryz.underlying39 Mp.txR m 20 (Mp.D P) rfl (show w4.drew.ownsMap _ _ _ _ _ _ from M4.out.own) (by unfold maxLen; omega) (.agg (w8 (Mk.twice t)).toArray) (txV t) (Lit.string (Mk.twice t)) rfl rfl (Mp.key_dg _ h32) (.lit (.string t)) [] (Mp.txR_tx t) ?_
        intro w5 hown5 hturn5
        have hw45 : But w.heap.size m w4 w5 := ((But.refl w.heap.size m w4).drew).trans (Mp.but_of_turned (w := w4.drew) hturn5)
        have N5 := Lib.hid (N4.out.trans hw45)
        have hpos := S5.out.2.1.lt
        have hS5 : RowS r A m (txCells t) w5 := by
          obtain ⟨es0, c0, es1, c1, _, rfl⟩ := hturn5
          exact ⟨(World.cell?_of_block (w := w4.drew) (a := ⟨r, 0, none⟩) (Go.ChangeMaps.heap_setBlock_other (w := w4.drew) S5.out.2.2 _ hrm)).trans hS9.1, hS9.2.imp fun _ h' => (Go.ChangeMaps.heap_setBlock_other (w := w4.drew) S5.out.2.2 _ (by omega)).trans h'⟩
        have M5 : Mp.Map w5 m (Pl.ins Mk.twice t P) := by
          rw [Mp.put_ents t P M4.out.up HOK.out] at hown5
          have hil := Pl.ins_len Mk.twice t P
          refine ⟨Mp.own_tight hown5 (by rw [Mp.size_ents]; omega), Pl.ins_up Mk.twice t P M4.out.up HOK.out, by omega, fun y hy => ?_⟩
          rcases (Pl.mem_ins Mk.twice t P y).1 hy with rfl | hy
          · exact htl
          · exact M4.out.short y hy
        have MM5 := Lib.hid M5
        clear hown5 hturn5 M5 hne hu0 hS9 M4 N4 S5
        refine ⟨Reg.cls_mk hS5, ?_⟩
        refine wpAnyH_done (by kernel_rfl) ?_ 0
        clear hS5
        go_wp2_with fail
        go_ret
        refine ⟨?_, ?_, N5.out⟩
        · rw [EQ.out]; show _ = Ending.returned (.int .i64 ((if (Pl.at' Mk.twice (Mk.twice t) P).2 then 10 else if P.length = 20 then 9 else 0 : Nat) : Int)); rw [HOK.out, if_neg (by simp), if_neg hfull]; rfl
        · rw [EQ.out]; show Mp.Map w5 m (if (Pl.at' Mk.twice (Mk.twice t) P).2 then P else if P.length = 20 then P else _); rw [HOK.out, if_neg (by simp), if_neg hfull]; exact MM5.out
    · go_wp2_with fail
      go_ret
      refine ⟨?_, ?_, N4.out⟩
      · rw [EQ.out]; show _ = Ending.returned (.int .i64 ((if (Pl.at' Mk.twice (Mk.twice t) P).2 then 10 else if P.length = 20 then 9 else 0 : Nat) : Int)); rw [HOK.out, if_pos rfl]; rfl
      · rw [EQ.out]; show Mp.Map w4 m (if (Pl.at' Mk.twice (Mk.twice t) P).2 then P else if P.length = 20 then P else _); rw [HOK.out, if_pos rfl]; exact M4.out
namespace Mp
def dropP (P : List B) (id : B) : List B := if id.length = 32 then Pl.del Mk.twice id P else P
def dropB (P : List B) (id : B) : Bool := decide (id.length = 32) && (Pl.at' Mk.twice id P).2
end Mp
set_option maxHeartbeats 4000000 in
theorem drop_calls (id : List UInt8) (r m : Nat) (P : List Mp.B) (w : World) (hl : id.length ≤ 9223372036854775807) (hr : w.cell? ⟨r, 0, none⟩ = some (.map (some m))) (hM : Mp.Map w m P) (hrw : r < w.heap.size) (hrm : r ≠ m) :
    Calls Tryz.prog 57 #[.pointer (some ⟨r, 0, none⟩), .string (str id)] w fun e w' => e = .returned (.bool (Mp.dropB P id)) ∧ Mp.Map w' m (Mp.dropP P id) ∧ But w.heap.size m w w' := by
  have HM := Lib.hid hM
  have hmw := hM.lt
  have HR := Lib.hid hr
  have hRn := Row.new w (w8 (List.replicate 32 0)) 76
  have hBn := (Below.refl w.heap.size w).alloc (Nat.le_refl _) (.cells (w8 (List.replicate 32 0)).toArray 76)
  rw [Tryz.zeroDg] at hRn hBn
  clear hM hr
  by_cases hs : id.length = 32
  · have hd1 : Mp.dropB P id = (Pl.at' Mk.twice id P).2 := by unfold Mp.dropB; rw [hs]; simp
    have hd2 : Mp.dropP P id = Pl.del Mk.twice id P := if_pos hs
    have D1 := Lib.hid hd1
    have D2 := Lib.hid hd2
    clear hd1 hd2
    go_enter Tryz.func57, Tryz.ntmps57
    go_upto_region 4 with (refine copy_arm (o := ⟨some 10, _, _, _, _, _⟩) rfl _ _ rfl w.heap.size 32 id rfl rfl hRn ?_; intro w2 hrow2 hk2)
    have H2 := hrow2 hs
    obtain ⟨A, hA⟩ : ∃ A, w.heap.size = A := ⟨_, rfl⟩
    have B2 := Lib.hid (hBn.trans (hk2.below w.heap.size (by simp) (fun k hk he => by have he' : k = w.heap.size := he; omega)))
    rw [hA] at H2 B2 hrw hmw ⊢
    clear hBn hRn hk2 hrow2
    have hr2 := (World.cell?_of_block (w := w) (a := ⟨r, 0, none⟩) (B2.out.block r hrw)).trans HR.out
    have M2 := HM.out.below B2.out hmw
    obtain ⟨es, clock, cs, hes, hcl, hc1, hlook⟩ := Mp.look_det M2.own M2.up id hs
    have MM := Lib.hid M2
    have HL := Lib.hid hlook
    have hS2 : AddS r A m (w8 id) (.map es clock) w2 := ⟨hr2, H2, hes⟩
    have hu0 : ∀ u : Reg.Of (AddS r A m (w8 id) (.map es clock)), u.w.cell? ⟨r, 0, none⟩ = some (.map (some m)) := fun u => u.h.1
    haveI hne : Nonempty (Reg.Of (AddS r A m (w8 id) (.map es clock))) := ⟨⟨w2, hS2⟩⟩
    clear hr2 M2 hlook
    refine Reg.startL [0, 1, 2, 3, 4] 7 mixed (by kernel_rfl) rfl rfl (fun c a d v w h => by cases d <;> exact h) (by as_aux_lemma => kernel_rfl) rfl (AddS r A m (w8 id) (.map es clock)) hS2 ?_
    show wpQuiet _ _ _ _ [_, _, _, _, _] _
    iterate 4 (go_big_quiet_step (fail))
    refine wpQuiet_load (o := ⟨some 22, _, _, _, _, _⟩) rfl _ rfl A 0 id hs rfl (fun w hw => by obtain ⟨u, rfl⟩ := hw; exact fun j v hv => by rw [u.h.2.1.cell, Nat.zero_add]; exact hv) ?_
    try go_frame
    refine wpQuiet_nil ?_
    refine Reg.take1 5 ⟨some 23, .lookup 39 (.tmp 21) (.tmp 22) true, _, _, _, _⟩ (.tuple #[.agg cs.toArray, .bool (Pl.at' Mk.twice id P).2]) rfl rfl (by kernel_rfl) (by as_aux_lemma => kernel_rfl) (fun c a d v w h => by cases d <;> exact h) (fun u hu => ?_) (Reg.cls_mk hS2) ?_
    · obtain ⟨u', rfl⟩ := hu
      exact Reg.lookup_run rfl (HL.out _ u'.h.2.2)
    obtain ⟨ok, hok⟩ : ∃ b, (Pl.at' Mk.twice id P).2 = b := ⟨_, rfl⟩
    rw [hok] at D1 ⊢
    try go_frame
    refine Reg.restL [6, 7, 8] 3 (by rfl) (by kernel_rfl) (by rfl) (fun c a d v w h => by cases d <;> exact h) (by as_aux_lemma => kernel_rfl) (by rfl) (Reg.cls_mk hS2) ?_
    show wpQuiet _ _ _ _ [_, _, _] _
    repeat (go_big_quiet_step (fail))
    refine wpQuiet_nil ?_
    refine Reg.one 9 _ (by kernel_rfl) rfl rfl ?_
    try go_frame
    go_wp2_with fail
    have r3 : Row (w2.alloc (.cells tx0.toArray 78)) w2.heap.size tx0 := Row.new w2 tx0 78
    have S3 : AddS r A m (w8 id) (.map es clock) (w2.alloc (.cells tx0.toArray 78)) := hS2.mono fun k hk => Below.heap_alloc _ _ _ hk
    have B3 : Below A w (w2.alloc (.cells tx0.toArray 78)) := B2.out.alloc (hA ▸ B2.out.size) _
    have M3 := MM.out.alloc (.cells tx0.toArray 78)
    rw [Tryz.zeroTx] at r3 S3 B3 M3
    have hAD : A < w2.heap.size := H2.lt
    have hmD := MM.out.lt
    obtain ⟨D, hDe⟩ : ∃ D, w2.heap.size = D := ⟨_, rfl⟩
    rw [hDe] at r3 hAD hmD ⊢
    have HOK := Lib.hid hok
    have HAA := Lib.hid hA
    clear MM H2 hes hS2 hok HL HM B2 hDe hA
    generalize w2.alloc _ = w3 at r3 S3 B3 M3 ⊢
    refine ⟨Reg.cls_mk S3, ?_⟩
    refine Reg.one 10 _ (by kernel_rfl) rfl rfl ?_
    have S4 : AddS r A m (w8 id) (.map es clock) (w3.drew.setRow D cs.toArray) := ⟨(World.cell?_of_block (w := w3) (a := ⟨r, 0, none⟩) (setRow_other w3 D r _ (by omega))).trans S3.1, S3.2.1.imp fun _ h' => (setRow_other w3 D A _ (by omega)).trans h', (setRow_other w3 D m _ (by omega)).trans S3.2.2⟩
    have B4 := Lib.hid (below_setRow (w := w3.drew) B3.drew (show A ≤ D by omega) cs.toArray)
    have M4 := Lib.hid (Mp.Map.block M3 (setRow_other w3.drew D m cs.toArray (by omega)))
    refine store_cells (o := ⟨none, .store 78 (.tmp 6) (.tmp 24), _, _, _, _⟩) rfl _ _ _ rfl D tx0 cs rfl rfl r3 (infoTx.trans (by rw [hcl])) (by rw [hcl, tx0_len]) hc1 ?_
    generalize w3.drew.setRow D cs.toArray = w4 at S4 B4 M4 ⊢
    refine ⟨Reg.cls_mk S4, ?_⟩
    refine Reg.one 11 _ (by kernel_rfl) rfl rfl ?_
    try go_frame
    clear hne hu0 r3 S3 B3 M3
    go_wp2_with fail
    refine ⟨Reg.cls_mk S4, ?_⟩
    refine wpAnyH_done (by kernel_rfl) ?_ 0
    have N4 := Lib.hid (But.of_below (S := m) B4.out)
    have S5 := Lib.hid S4
    have hS9 : RowS r A m (w8 id) w4 := ⟨S4.1, S4.2.1⟩
    clear S4
    go_upto_region 5 with fail
    have hu0 : ∀ u : Reg.Of (RowS r A m (w8 id)), u.w.cell? ⟨r, 0, none⟩ = some (.map (some m)) := fun u => u.h.1
    haveI hne : Nonempty (Reg.Of (RowS r A m (w8 id))) := ⟨⟨w4, hS9⟩⟩
    refine Reg.startL [0, 1, 2, 3, 4] 1 mixed (by kernel_rfl) rfl rfl (fun c a d v w h => by cases d <;> exact h) (by as_aux_lemma => kernel_rfl) rfl (RowS r A m (w8 id)) hS9 ?_
    show wpQuiet _ _ _ _ [_, _, _, _, _] _
    iterate 4 (go_big_quiet_step (fail))
    refine wpQuiet_load (o := ⟨some 30, _, _, _, _, _⟩) rfl _ rfl A 0 id hs rfl (fun w hw => by obtain ⟨u, rfl⟩ := hw; exact fun j v hv => by rw [u.h.2.cell, Nat.zero_add]; exact hv) ?_
    try go_frame
    refine wpQuiet_nil ?_
    refine Reg.one 5 _ (by kernel_rfl) rfl rfl ?_
    refine wpList_delete_own _ (o := ⟨none, .call { callee := .builtin .delete, args := #[.tmp 29, .tmp 30], argTypes := #[39, 76] }, _, _, _, _⟩) rfl _ _ _ _ rfl 78 Mp.law Tryz.underlying39 Mp.txR m 20 (Mp.D P) rfl (show w4.drew.ownsMap _ _ _ _ _ _ from M4.out.own) (.agg (w8 id).toArray) (Lit.string id) rfl (Mp.key_dg _ hs) ?_
    intro w5 hown5 hturn5
    have hw45 : But A m w4 w5 := ((But.refl A m w4).drew).trans (Mp.but_of_turned (w := w4.drew) hturn5)
    have N5 := Lib.hid (N4.out.trans hw45)
    have hS5 : RowS r A m (w8 id) w5 := by
      obtain ⟨es0, c0, es1, c1, _, rfl⟩ := hturn5
      exact ⟨(World.cell?_of_block (w := w4.drew) (a := ⟨r, 0, none⟩) (Go.ChangeMaps.heap_setBlock_other (w := w4.drew) S5.out.2.2 _ hrm)).trans hS9.1, hS9.2.imp fun _ h' => (Go.ChangeMaps.heap_setBlock_other (w := w4.drew) S5.out.2.2 _ (by omega)).trans h'⟩
    have M5 : Mp.Map w5 m (Pl.del Mk.twice id P) := by
      rw [Mp.del_ents id P M4.out.up] at hown5
      have hsub := Pl.del_sub Mk.twice id P
      have hle := M4.out.le
      exact ⟨hown5, Pl.del_up Mk.twice id P M4.out.up, Nat.le_trans hsub.length_le hle, fun y hy => M4.out.short y (hsub.subset hy)⟩
    have MM5 := Lib.hid M5
    clear hown5 hturn5 M5 hne hu0 hS9 M4 N4 S5
    refine ⟨Reg.cls_mk hS5, ?_⟩
    refine wpAnyH_done (by kernel_rfl) ?_ 0
    clear hS5
    go_wp2_with fail
    go_ret
    exact ⟨by rw [D1.out]; rfl, by rw [D2.out]; exact MM5.out, by rw [HAA.out]; exact N5.out⟩
  · have hd1 : Mp.dropB P id = false := by unfold Mp.dropB; simp [hs]
    have hd2 : Mp.dropP P id = P := if_neg hs
    have D1 := Lib.hid hd1
    have D2 := Lib.hid hd2
    clear hd1 hd2
    by_cases hs2 : id.length < 32
    · have hmn : min id.length 32 = id.length := Nat.min_eq_left (by omega)
      have hne : ((id.length : Int) != 32) = true := by rw [bne_iff_ne]; omega
      go_enter Tryz.func57, Tryz.ntmps57
      go_wp2_with (refine copy_arm (o := ⟨some 10, _, _, _, _, _⟩) rfl _ _ rfl w.heap.size 32 id rfl rfl hRn ?_; intro w2 hrow2 hk2)
      have B2 := hBn.trans (hk2.below w.heap.size (by simp) (fun k hk he => by have he' : k = w.heap.size := he; omega))
      go_ret
      exact ⟨by rw [D1.out]; rfl, by rw [D2.out]; exact HM.out.below B2 hmw, But.of_below B2⟩
    · have hmn : min id.length 32 = 32 := Nat.min_eq_right (by omega)
      have hne : ((id.length : Int) != 32) = true := by rw [bne_iff_ne]; omega
      go_enter Tryz.func57, Tryz.ntmps57
      go_wp2_with (refine copy_arm (o := ⟨some 10, _, _, _, _, _⟩) rfl _ _ rfl w.heap.size 32 id rfl rfl hRn ?_; intro w2 hrow2 hk2)
      have B2 := hBn.trans (hk2.below w.heap.size (by simp) (fun k hk he => by have he' : k = w.heap.size := he; omega))
      go_ret
      exact ⟨by rw [D1.out]; rfl, by rw [D2.out]; exact HM.out.below B2 hmw, But.of_below B2⟩
end Go.Proofs.YtlpcjiollnnmgabGreatDoor
