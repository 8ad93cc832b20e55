/-
  THE PROGRAM's READERS OF A TEXT AND A LIST: blocks, requests (, replies): the closures, 'read', wire.Read..
-/
import Derived.Test.YtlpcjiollnnmgaaDoorTxs
import Derived.Test.YtlpcjiollnnmgaaDoorTxid
set_option maxRecDepth 100000
namespace Go.Proofs.YtlpcjiollnnmgaaDoor
open Go.RowKit Nums
def pr0 : List Value := [.string (str []), .slice none 0 0]
def pr (h : List UInt8) (v : Value) : List Value := [.string (str h), v]
/-- a text and a list of its own -/
def RPP {α : Type} (x : Wr.R α) (hd : α → List UInt8) (t : TypeId) (z : Nat) (n : α → Nat) (xs : α → List Value) (b : Nat) (w : World) (e : Ending) (w' : World) : Prop := match x with
  | .ok a r => ∃ v, e = .returned (.agg (pr (hd a) v).toArray) ∧ w'.ownsRow w.heap.size t z v (n a) (xs a) ∧ Row w' b [.string (str r)] ∧ But w.heap.size b w w'
  | .bad k => e = .panicked (Fault (k : Int)) ∧ But w.heap.size b w w'
theorem RPP.mkBad {α : Type} {x : Wr.R α} {hd : α → List UInt8} {t : TypeId} {z : Nat} {n : α → Nat} {xs : α → List Value} {b : Nat} {w w' : World} {k : Nat} (hx : x = .bad k) (h2 : But w.heap.size b w w') : RPP x hd t z n xs b w (.panicked (Fault (k : Int))) w' := by
  subst hx; exact ⟨rfl, h2⟩
theorem RPP.mkOk {α : Type} {x : Wr.R α} {hd : α → List UInt8} {t : TypeId} {z : Nat} {n : α → Nat} {xs : α → List Value} {b : Nat} {w w' : World} {a : α} {r : List UInt8} {v : Value} (hx : x = .ok a r) (h1 : w'.ownsRow w.heap.size t z v (n a) (xs a)) (h2 : Row w' b [.string (str r)]) (h3 : But w.heap.size b w w') : RPP x hd t z n xs b w (.returned (.agg (pr (hd a) v).toArray)) w' := by
  subst hx; exact ⟨v, rfl, h1, h2, h3⟩
/-- what 'read' hands back -/
def RDP {α : Type} (x : Wr.R α) (hd : α → List UInt8) (t : TypeId) (z : Nat) (n : α → Nat) (xs : α → List Value) (w : World) (e : Ending) (w' : World) : Prop := match x with
  | .ok a _ => ∃ v, e = .returned (.tuple #[.agg (pr (hd a) v).toArray, .int .i64 0]) ∧ w'.ownsRow w.heap.size t z v (n a) (xs a) ∧ Below w.heap.size w w'
  | .bad k => e = .returned (.tuple #[.agg pr0.toArray, .int .i64 k]) ∧ Below w.heap.size w w'
theorem RDP.mkBad {α : Type} {x : Wr.R α} {hd : α → List UInt8} {t : TypeId} {z : Nat} {n : α → Nat} {xs : α → List Value} {w w' : World} {k : Nat} (hx : x = .bad k) (h2 : Below w.heap.size w w') : RDP x hd t z n xs w (.returned (.tuple #[.agg pr0.toArray, .int .i64 k])) w' := by
  subst hx; exact ⟨rfl, h2⟩
theorem RDP.mkOk {α : Type} {x : Wr.R α} {hd : α → List UInt8} {t : TypeId} {z : Nat} {n : α → Nat} {xs : α → List Value} {w w' : World} {a : α} {r : List UInt8} {v : Value} (hx : x = .ok a r) (h1 : w'.ownsRow w.heap.size t z v (n a) (xs a)) (h3 : Below w.heap.size w w') : RDP x hd t z n xs w (.returned (.tuple #[.agg (pr (hd a) v).toArray, .int .i64 0])) w' := by
  subst hx; exact ⟨v, rfl, h1, h3⟩
structure PI (w : World) (b : Nat) (n : Nat) (lk : List UInt8) (wk : World) : Prop where
  cur : Row wk b [.string (str lk)]
  own : Row wk w.heap.size pr0
  but : But w.heap.size b w wk
  le : lk.length ≤ n
theorem PI.step {w : World} {b n : Nat} {lk lk' : List UInt8} {wk wk' : World} (h : PI w b n lk wk) (hb : b < w.heap.size) (h1 : Row wk' b [.string (str lk')]) (h2 : But wk.heap.size b wk wk') (hl : lk'.length ≤ lk.length) : PI w b n lk' wk' :=
  ⟨h1, h2.row h.own h.own.lt (by omega), h.but.trans (h2.mono h.but.size), Nat.le_trans hl h.le⟩
theorem PI.bad {w : World} {b n : Nat} {lk : List UInt8} {wk wk' : World} (h : PI w b n lk wk) (h2 : But wk.heap.size b wk wk') : But w.heap.size b w wk' := h.but.trans (h2.mono h.but.size)
theorem own_slice {w : World} {B n : Nat} {e : TypeId} {z : Nat} {v : Value} {xs : List Value} (h : w.ownsRow B e z v n xs) : ∃ a c, v = .slice a n c := by
  rcases h.2 with ⟨rfl, rfl⟩ | ⟨g, cap, cur, rfl, _⟩
  · exact ⟨none, 0, rfl⟩
  · exact ⟨_, cap, rfl⟩
theorem wtx_len : ∀ (n : Nat) (l : List UInt8) (ts : List (List UInt8)) (r : List UInt8), Wr.txs n l = .ok ts r → ts.length = n
  | 0, l, ts, r, h => by cases h; rfl
  | n + 1, l, ts, r, h => by
    rw [Wr.txs] at h
    cases hx : Wr.tx l with
    | bad e => rw [hx] at h; cases h
    | ok t s =>
      rw [hx, Wr.R.bind_ok] at h
      cases hy : Wr.txs n s with
      | bad e => rw [hy] at h; cases h
      | ok us q => rw [hy] at h; cases h; rw [List.length_cons, wtx_len n s us _ hy]
namespace Wr
def blkR (l : List UInt8) : R (List UInt8 × List (List UInt8)) := (take 80 l).bind fun h r => (upTo 1 16 r).bind fun n r => (txs n r).map fun ts => (h, ts)
def rplR (l : List UInt8) : R (List UInt8 × List (List UInt8)) := (take 32 l).bind fun h r => (upTo 1 16 r).bind fun n r => (txs n r).map fun ts => (h, ts)
def reqR (l : List UInt8) : R (List UInt8 × List Nat) := (take 32 l).bind fun h r => (upTo 1 16 r).bind fun n r => (indexes 16 n 0 r).map fun is => (h, is)
end Wr
/-! ### Block -/
theorem built_Block (s : ByteArray) (a : Option Addr) (n c : Nat) : Tryd.prog.built 76 [(0, .string s), (1, .slice a n c)] = some #[.string s, .slice a n c] := by kernel_rfl
theorem info_Block : (Tryd.prog.info? 76).map (·.size) = some 2 := by kernel_rfl
theorem build_Block {ops : Array Oper} {rest : List Oper} {o : Oper} {a : Act} {w : World} {Q : Exit → Act → World → Prop} (hgd : o.guard = none) (x y : Operand) (ho : o.op = .build 76 #[(0, x), (1, y)])
    (s : List UInt8) (v : Value) (hv : ∃ a n c, v = .slice a n c) (hx : a.eval x = .string (str s)) (hy : a.eval y = v)
    (h : wpList Tryd.prog ops Q rest (a.put o.dst (.agg (pr s v).toArray)) w) : wpList Tryd.prog ops Q (o :: rest) a w := by
  obtain ⟨ad, n, c, rfl⟩ := hv
  refine wpList_buildTo hgd 76 _ ho _ rfl _ ?_ h
  simp only [List.map_toArray, List.map_cons, List.map_nil, hx, hy]
  exact built_Block (str s) ad n c
theorem pr_one {v : Value} (h : List UInt8) (hv : v.oneCell' = true) : (pr h v).all (·.oneCell') = true := by
  unfold pr; rw [List.all_cons, List.all_cons, hv]; rfl
set_option maxHeartbeats 4000000 in
theorem Block1_calls (b : Nat) (l : List UInt8) (w : World) (hT : Tabs w) (h1b : 1 < b) (hr : Row w b [.string (str l)]) (hl : l.length ≤ 9223372036854775807) :
    Calls Tryd.prog 66 #[.pointer (some ⟨b, 0, none⟩)] w (RPP (Wr.blkR l) (fun a => a.1) 66 33 (fun a => a.2.length) (fun a => txsCells a.2) b w) := by
  have hb := hr.lt
  have h1w := hT.lt
  have hk := And.intro h1b hl
  clear hk
  have I0 : PI w b l.length l (w.alloc (.cells pr0.toArray 76)) := ⟨hr.alloc _, Row.new w _ _, (But.refl _ _ _).alloc (Nat.le_refl _) _, Nat.le_refl _⟩
  rw [show pr0.toArray = #[Value.string (str []), .slice none 0 0] from rfl] at I0
  have HT := Lib.hid hT
  have EQ := Lib.hid (show Wr.blkR l = (Wr.take 80 l).bind fun h r => (Wr.upTo 1 16 r).bind fun n r => (Wr.txs n r).map fun ts => (h, ts) from rfl)
  clear hr hT
  go_enter Tryd.func66, Tryd.ntmps66
  go_upto_region 1 with fail
  generalize w.alloc _ = w1 at I0 ⊢
  have T1 := Lib.hid (take_calls b 80 l w1 I0.cur (by omega))
  have J := Lib.hid I0
  clear I0
  go_wp2_with fail
  refine T1.out.mono ?_
  clear T1
  cases hx : Wr.take 80 l with
  | bad n =>
    rintro e w2 ⟨rfl, h⟩
    rw [hx] at EQ
    exact ⟨rfl, RPP.mkBad EQ.out (J.out.bad h)⟩
  | ok t1 r1 =>
    rintro e w2 ⟨rfl, h3, h4⟩
    rw [hx] at EQ
    have EQ2 := Lib.hid (show Wr.blkR l = (Wr.upTo 1 16 r1).bind fun n r => (Wr.txs n r).map fun ts => (t1, ts) from EQ.out)
    have J2 := Lib.hid (J.out.step hb h3 h4 ((Wr.take_tail 80 l).le hx))
    have T2 := Lib.hid (upTo_calls b 1 16 r1 w2 h3 (by omega) (by omega))
    clear h3 h4 J EQ hx
    go_wp2_with fail
    refine T2.out.mono ?_
    clear T2
    cases hx : Wr.upTo 1 16 r1 with
    | bad n =>
      rintro e w3 ⟨rfl, h⟩
      rw [hx] at EQ2
      exact ⟨rfl, RPP.mkBad EQ2.out (J2.out.bad h)⟩
    | ok n r2 =>
      rintro e w3 ⟨rfl, h3, h4⟩
      rw [hx] at EQ2
      have hn := (Wr.upTo_le hx).2
      have EQ3 := Lib.hid (show Wr.blkR l = (Wr.txs n r2).map fun ts => (t1, ts) from EQ2.out)
      have J3 := Lib.hid (J2.out.step hb h3 h4 ((Wr.upTo_tail 1 16 r1).le hx))
      clear h3 h4 J2 EQ2 hx
      have T3 := Lib.hid (txs_calls b n r2 w3 (J3.out.but.tabs HT.out h1w h1b) h1b J3.out.cur (Nat.le_trans J3.out.le hl) (by omega))
      go_wp2_with fail
      refine T3.out.mono ?_
      clear T3
      cases hx : Wr.txs n r2 with
      | bad k =>
        rintro e w4 ⟨rfl, h⟩
        rw [hx] at EQ3
        exact ⟨rfl, RPP.mkBad EQ3.out (J3.out.bad h)⟩
      | ok ts r3 =>
        rintro e w4 ⟨v, rfl, h2, h3, h4⟩
        rw [hx] at EQ3
        have J4 := Lib.hid (J3.out.step hb h3 h4 ((Wr.txs_tail n r2).le hx))
        have hro := J4.out.own
        have hz3 := J3.out.but.size
        have hz3' := J3.out.own.lt
        have hv := own_slice h2
        have hv1 := ownN_one h2
        have O1 := Lib.hid (ownN_row (S := w.heap.size) h2 (pr t1 v).toArray (by omega))
        clear h2 h3 h4 J3 hx
        go_wp2_with (first | (refine build_Block (o := ⟨some 15, _, _, _, _, _⟩) rfl _ _ rfl t1 v (by obtain ⟨a, c, h⟩ := hv; exact ⟨a, _, c, h⟩) rfl rfl ?_) | (with_reducible refine store_cells (o := ⟨none, _, _, _, _, _⟩) rfl _ _ _ rfl w.heap.size pr0 (pr t1 v) rfl rfl hro (info_Block.trans rfl) rfl (pr_one t1 hv1) ?_))
        obtain ⟨T2, hT2⟩ := hro.setRow (pr t1 v)
        exact bodyPost_ret (v := .agg (pr t1 v).toArray) (results_cell_row (fn := Tryd.f66) rfl _ _ w.heap.size T2 _ (0, 0) _ rfl hT2 Tryd.underlying76 rfl (info_Block.trans rfl)) rfl
          (RPP.mkOk (a := (t1, ts)) EQ3.out (ownN_le O1.out hz3) (J4.out.cur.setOther (by omega) _) (J4.out.but.trans (But.of_below (below_setRow (Below.refl _ _) (Nat.le_refl _) _))))
theorem catchBlock_idle (g h : Nat) (w : World) :
    CallsD Tryd.prog 87 #[.pointer (some ⟨g, 0, none⟩), .pointer (some ⟨h, 0, none⟩)] .returning w fun e u' w' => e = .returned (.tuple #[]) ∧ u' = .returning ∧ w' = w := by
  refine callsD_of_wpS Tryd.func87 rfl fun c₀ cs hu => ?_
  simp only [Tryd.ntmps87, List.size_toArray, List.length_cons, List.length_nil, Nat.reduceAdd, Nat.reduceSub, Array.replicate_succ, Array.replicate_zero, List.push_toArray, List.append_toArray, List.nil_append, List.cons_append]
  apply wpS_seq
  apply wpS_region
  simp [wpOpsS, go_sem, recoverD, hu, Exit.thenS]
  refine wpS_of_wp ?_
  go_wp2_with fail
  cases c₀
  simp_all [bodyPostS, results, Tryd.results87]
theorem catchBlock_panicking (g h : Nat) (n m : Int) (l : List Value) (w : World) (hg : Row w g l) (hh : Row w h [.int .i64 m]) (hl : l.length = 2) (hne : g ≠ h) :
    CallsD Tryd.prog 87 #[.pointer (some ⟨g, 0, none⟩), .pointer (some ⟨h, 0, none⟩)] (.panicking (Fault n)) w fun e u' w' =>
      e = .returned (.tuple #[]) ∧ u' = .panicking [{ v := .iface 136 (.agg #[.int .i64 n]), recovered := true }] ∧ Row w' g pr0 ∧ Row w' h [.int .i64 n] ∧ Keep (fun k => k = g ∨ k = h) w w' := by
  refine callsD_of_wpS Tryd.func87 rfl fun c₀ cs hu => ?_
  simp only [Tryd.ntmps87, List.size_toArray, List.length_cons, List.length_nil, Nat.reduceAdd, Nat.reduceSub, Array.replicate_succ, Array.replicate_zero, List.push_toArray, List.append_toArray, List.nil_append, List.cons_append]
  apply wpS_seq
  apply wpS_region
  unfold Fault at hu
  have hta : ∀ (w : World), (Instr.typeAssert (.iface 136 (.agg #[.int .i64 n])) 20 136 true).run Tryd.prog w = .ok (.tuple #[.agg #[.int .i64 n], .bool true]) w := fun w => by kernel_rfl
  simp [wpOpsS, go_sem, recoverD, hu, Exit.thenS]
  refine wpS_of_wp ?_
  have hzg := hg.lt
  have hzh := hh.lt
  have r1 : Row ((w.alloc (.cells #[.int .i64 n] 136)).alloc (.cells #[.string (str []), .slice none 0 0] 76)) w.heap.size [.int .i64 n] := (Row.new w [.int .i64 n] 136).alloc _
  have r2 : Row ((w.alloc (.cells #[.int .i64 n] 136)).alloc (.cells #[.string (str []), .slice none 0 0] 76)) (w.heap.size + 1) pr0 := by
    have := Row.new (w.alloc (.cells #[.int .i64 n] 136)) pr0 76
    rw [World.size_alloc] at this
    exact this
  have r3 : Row ((w.alloc (.cells #[.int .i64 n] 136)).alloc (.cells #[.string (str []), .slice none 0 0] 76)) g l := (hg.alloc _).alloc _
  have r4 : Row ((w.alloc (.cells #[.int .i64 n] 136)).alloc (.cells #[.string (str []), .slice none 0 0] 76)) h [.int .i64 m] := (hh.alloc _).alloc _
  have kk : Keep (fun k => k = g ∨ k = h) w ((w.alloc (.cells #[.int .i64 n] 136)).alloc (.cells #[.string (str []), .slice none 0 0] 76)) := ((Keep.refl _ _).alloc _).alloc _
  clear hg hh
  go_wp2_with fail
  generalize (w.alloc _).alloc _ = w1 at r1 r2 r3 r4 kk ⊢
  generalize w.heap.size = A at *
  have hu : ∀ u : Reg.Of (fun u => Row u A [.int .i64 n] ∧ Row u (A + 1) pr0), u.w.cell? ⟨A, 0, none⟩ = some (.int .i64 n) := fun u => u.h.1.cell 0
  haveI hne' : Nonempty (Reg.Of (fun u => Row u A [.int .i64 n] ∧ Row u (A + 1) pr0)) := ⟨⟨w1, r1, r2⟩⟩
  refine Reg.startL [0, 1, 2] 2 mixed (by kernel_rfl) rfl rfl (fun c a d v w h => by cases d <;> exact h) (by as_aux_lemma => kernel_rfl) rfl (fun u => Row u A [.int .i64 n] ∧ Row u (A + 1) pr0) ⟨r1.drew, r2.drew⟩ ?_
  show wpQuiet _ _ _ _ [_, _, _] _
  refine wpQuiet_loadc (o := ⟨some 12, _, _, _, _, _⟩) rfl _ _ rfl (A + 1) pr0 rfl (fun w hw => by obtain ⟨u, rfl⟩ := hw; exact u.h.2) _ Tryd.underlying76 (info_Block.trans rfl) _ rfl ?_
  go_frame
  repeat (go_big_quiet_step (fail))
  refine wpQuiet_nil ?_
  have r1 := r1.drew
  have r2 := r2.drew
  have r3 := r3.drew
  have r4 := r4.drew
  have kk := kk.drew
  generalize w1.drew = w2 at r1 r2 r3 r4 kk ⊢
  refine Reg.one 3 _ (by kernel_rfl) rfl rfl ?_
  refine store_cells rfl _ _ _ rfl g l pr0 rfl rfl r3 (info_Block.trans rfl) (by rw [hl]; rfl) (by decide +kernel) ?_
  have s1 := r1.setOther (g := g) (by omega) pr0.toArray
  have s2 := r2.setOther (g := g) (by omega) pr0.toArray
  have s3 := r3.setRow pr0
  have s4 := r4.setOther (g := g) (Ne.symm hne) pr0.toArray
  have kk := kk.setRow g pr0.toArray (.inl rfl)
  generalize w2.setRow g _ = w3 at s1 s2 s3 s4 kk ⊢
  refine ⟨Reg.cls_mk ⟨s1, s2⟩, ?_⟩
  refine Reg.one 4 _ (by kernel_rfl) rfl rfl ?_
  have hz := s4.free 0
  have hc := s4.cell 0
  try go_frame
  go_wp2_with fail
  refine ⟨Reg.cls_mk ⟨s1.other (show h ≠ A by omega) _, s2.other (show h ≠ A + 1 by omega) _⟩, ?_⟩
  refine wpAnyH_done (by kernel_rfl) ?_ 0
  go_wp2_with fail
  refine ⟨rfl, _, rfl, .tuple #[], results_none rfl _ _ _, rfl, rfl, s3.other (Ne.symm hne) _, s4.set 0 _, kk.set _ _ (.inr rfl)⟩
set_option maxHeartbeats 2000000 in
theorem readBlock_calls (l : List UInt8) (w : World) (hT : Tabs w) (hl : l.length ≤ 9223372036854775807) :
    Calls Tryd.prog 65 #[.string (str l), .func (.func 66) #[] #[]] w (RDP (Wr.readBlock l) (fun a => a.1) 66 33 (fun a => a.2.length) (fun a => txsCells a.2) w) := by
  have hmf : ∀ (fn : Fn) (first cap : Array Value) (w : World), (Instr.makeFunc fn first cap).run Tryd.prog w = .ok (.func fn first cap) w := fun _ _ _ _ => rfl
  have h1w := hT.lt
  have HT := Lib.hid hT
  have EQ := Lib.hid (show Wr.readBlock l = (Wr.blkR l).bind fun a r => if r = [] then .ok a r else .bad 5 from rfl)
  have r1 : Row (((w.alloc (.cells #[.string (str []), .slice none 0 0] 76)).alloc (.cells #[.int .i64 0] 27)).alloc (.cells #[.string (str l)] 122)) w.heap.size pr0 := ((Row.new w pr0 76).alloc _).alloc _
  have r2 : Row (((w.alloc (.cells #[.string (str []), .slice none 0 0] 76)).alloc (.cells #[.int .i64 0] 27)).alloc (.cells #[.string (str l)] 122)) (w.heap.size + 1) [.int .i64 0] := by
    have := Row.new (w.alloc (.cells pr0.toArray 76)) [.int .i64 0] 27
    rw [World.size_alloc] at this
    exact this.alloc _
  have r3 : Row (((w.alloc (.cells #[.string (str []), .slice none 0 0] 76)).alloc (.cells #[.int .i64 0] 27)).alloc (.cells #[.string (str l)] 122)) (w.heap.size + 2) [.string (str l)] := by
    have := Row.new ((w.alloc (.cells pr0.toArray 76)).alloc (.cells #[.int .i64 0] 27)) [.string (str l)] 122
    rw [World.size_alloc, World.size_alloc] at this
    exact this
  have hB : Below w.heap.size w (((w.alloc (.cells #[.string (str []), .slice none 0 0] 76)).alloc (.cells #[.int .i64 0] 27)).alloc (.cells #[.string (str l)] 122)) := (((Below.refl _ _).alloc (Nat.le_refl _) _).alloc (by simp) _).alloc (by simp; omega) _
  clear hT
  go_enter_defers Tryd.func65, Tryd.ntmps65
  go_wp2_with fail
  generalize ((w.alloc _).alloc _).alloc _ = w1 at r1 r2 r3 hB ⊢
  have HB := Lib.hid hB
  have hz := hB.size
  have hz3 := r3.lt
  have R1 := Lib.hid r1
  have R2 := Lib.hid r2
  have T1 := Lib.hid (Block1_calls (w.heap.size + 2) l w1 (HT.out.below hB h1w) (by omega) r3 hl)
  clear r1 r2 r3 hB
  refine T1.out.mono ?_
  clear T1
  cases hx : Wr.blkR l with
  | bad n =>
    rintro e w2 ⟨rfl, h⟩
    rw [hx] at EQ
    have H1 := h.row R1.out R1.out.lt (by omega)
    have H2 := h.row R2.out R2.out.lt (by omega)
    refine leaves_cons (f := 87) (args := #[.pointer (some ⟨w.heap.size, 0, none⟩), .pointer (some ⟨w.heap.size + 1, 0, none⟩)]) (by simp) (by simp [go_sem]) ?_
    refine (catchBlock_panicking w.heap.size (w.heap.size + 1) n 0 pr0 w2 H1 H2 rfl (by omega)).mono ?_
    rintro e u' w3 ⟨rfl, rfl, h5, h6, h7⟩
    refine ⟨_, results_c2 rfl _ _ w.heap.size (w.heap.size + 1) pr0 n rfl rfl h5 h6 _ Tryd.underlying76 (info_Block.trans rfl), ?_⟩
    exact RDP.mkBad EQ.out (HB.out.trans ⟨h7.os.trans h.os, h7.tape.trans h.tape, h7.output.trans h.output, Nat.le_trans h.size h7.size, fun k hk => (h7.block k (by have := h.size; omega) (by omega)).trans (h.block k (by omega) (by omega))⟩)
  | ok t r =>
    rintro e w2 ⟨v, rfl, ho, h3, h⟩
    rw [hx] at EQ
    have EQ2 := Lib.hid (show Wr.readBlock l = if r = [] then .ok t r else .bad 5 from EQ.out)
    have H1 := h.row R1.out R1.out.lt (by omega)
    have H2 := h.row R2.out R2.out.lt (by omega)
    have hz2 := h.size
    have hv1 := ownN_one ho
    have B2 := Lib.hid (show Below w.heap.size w w2 from HB.out.trans ⟨h.os, h.tape, h.output, h.size, fun k hk => h.block k (by omega) (by omega)⟩)
    have S1 := Lib.hid (H1.setRow (pr t.1 v))
    have S2 := Lib.hid (H2.setOther (g := w.heap.size) (by omega) (pr t.1 v).toArray)
    have S3 := Lib.hid (h3.setOther (g := w.heap.size) (by omega) (pr t.1 v).toArray)
    have B3 := Lib.hid (below_setRow B2.out (Nat.le_refl _) (pr t.1 v).toArray)
    have O3 := Lib.hid (ownN_row (S := w.heap.size) ho (pr t.1 v).toArray (by omega))
    clear EQ h h3 H2 R1 R2 HB hx ho
    go_wp2_with (with_reducible refine store_cells (o := ⟨none, _, _, _, _, _⟩) rfl _ _ _ rfl w.heap.size pr0 (pr t.1 v) rfl rfl H1 (info_Block.trans rfl) rfl (pr_one t.1 hv1) ?_)
    clear H1
    generalize w2.setRow _ _ = w3 at S1 S2 S3 B3 O3 ⊢
    refine (end_calls (w.heap.size + 2) r w3 S3.out).mono ?_
    by_cases hr : r = []
    · simp only [if_pos hr]
      rintro e w4 ⟨rfl, rfl⟩
      have hro := S1.out
      have S4 := Lib.hid (S2.out.setOther (g := w.heap.size) (by omega) (pr t.1 v).toArray)
      have S5 := Lib.hid (S1.out.setRow (pr t.1 v))
      have B5 := Lib.hid (below_setRow B3.out (Nat.le_refl _) (pr t.1 v).toArray)
      have O5 := Lib.hid (ownN_row (S := w.heap.size) O3.out (pr t.1 v).toArray (by omega))
      have hz5 := S4.out.free 0
      have hc5 := S4.out.cell 0
      go_wp2_with (first | (refine load_cells (o := ⟨some 19, _, _, _, _, _⟩) rfl _ _ rfl w.heap.size (pr t.1 v) rfl hro _ Tryd.underlying76 (info_Block.trans rfl) _ rfl ?_) | (with_reducible refine store_cells (o := ⟨none, _, _, _, _, _⟩) rfl _ _ _ rfl w.heap.size (pr t.1 v) (pr t.1 v) rfl rfl hro (info_Block.trans rfl) rfl (pr_one t.1 hv1) ?_))
      refine leaves_cons (f := 87) (args := #[.pointer (some ⟨w.heap.size, 0, none⟩), .pointer (some ⟨w.heap.size + 1, 0, none⟩)]) (by simp) (by simp [go_sem]) ?_
      refine (catchBlock_idle w.heap.size (w.heap.size + 1) _).mono ?_
      rintro e u' w5 ⟨rfl, rfl, rfl⟩
      refine ⟨_, results_c2 rfl _ _ w.heap.size (w.heap.size + 1) (pr t.1 v) 0 rfl rfl (S5.out.other (show w.heap.size + 1 ≠ w.heap.size by omega) _) (S4.out.set 0 _) _ Tryd.underlying76 (info_Block.trans rfl), ?_⟩
      exact RDP.mkOk (EQ2.out.trans (if_pos hr)) (ownN_le (ownN_cell O5.out _ (by show w.heap.size + 1 < _; omega)) hz) (B5.out.setCell (show w.heap.size ≤ w.heap.size + 1 by omega) _)
    · simp only [if_neg hr]
      rintro e w4 ⟨rfl, rfl⟩
      refine leaves_cons (f := 87) (args := #[.pointer (some ⟨w.heap.size, 0, none⟩), .pointer (some ⟨w.heap.size + 1, 0, none⟩)]) (by simp) (by simp [go_sem]) ?_
      refine (catchBlock_panicking w.heap.size (w.heap.size + 1) 5 0 (pr t.1 v) w4 S1.out S2.out rfl (by omega)).mono ?_
      rintro e u' w5 ⟨rfl, rfl, h5, h6, h7⟩
      refine ⟨_, results_c2 rfl _ _ w.heap.size (w.heap.size + 1) pr0 5 rfl rfl h5 h6 _ Tryd.underlying76 (info_Block.trans rfl), ?_⟩
      exact RDP.mkBad (k := 5) (EQ2.out.trans (if_neg hr)) (B3.out.trans ⟨h7.os, h7.tape, h7.output, h7.size, fun k hk => h7.block k (by have := B3.out.size; omega) (by omega)⟩)
set_option maxHeartbeats 1000000 in
theorem wreadBlock_calls (l : List UInt8) (w : World) (hT : Tabs w) (hl : l.length ≤ 9223372036854775807) :
    Calls Tryd.prog 38 #[.string (str l)] w (RDP (Wr.readBlock l) (fun a => a.1) 66 33 (fun a => a.2.length) (fun a => txsCells a.2) w) := by
  have h1w := hT.lt
  have r1 : Row (w.alloc (.cells #[.string (str []), .slice none 0 0] 76)) w.heap.size pr0 := Row.new w pr0 76
  have hB : Below w.heap.size w (w.alloc (.cells #[.string (str []), .slice none 0 0] 76)) := (Below.refl _ _).alloc (Nat.le_refl _) _
  go_enter Tryd.func38, Tryd.ntmps38
  go_wp2_with fail
  generalize w.alloc _ = w1 at r1 hB ⊢
  have HB := Lib.hid hB
  have R1 := Lib.hid r1
  have hz := r1.lt
  have T1 := Lib.hid (readBlock_calls l w1 (hT.below hB h1w) hl)
  clear hT hB r1
  refine T1.out.mono ?_
  clear T1
  cases hx : Wr.readBlock l with
  | bad n =>
    have EQ := Lib.hid hx
    clear hx
    rintro e w2 ⟨rfl, h2⟩
    have H1 := R1.out.below h2 hz
    have B2 := Lib.hid (HB.out.trans (h2.mono (by omega)))
    have S1 := Lib.hid (H1.setRow pr0)
    have B3 := Lib.hid (below_setRow B2.out (Nat.le_refl _) pr0.toArray)
    clear h2 R1 HB
    go_wp2_with (with_reducible refine store_cells (o := ⟨none, _, _, _, _, _⟩) rfl _ _ _ rfl w.heap.size pr0 pr0 rfl rfl H1 (info_Block.trans rfl) rfl (by decide +kernel) ?_)
    exact bodyPost_ret (v := .tuple #[.agg pr0.toArray, .int .i64 n]) (results_c1 rfl _ _ w.heap.size pr0 (.int .i64 n) rfl rfl S1.out _ Tryd.underlying76 (info_Block.trans rfl)) rfl (RDP.mkBad EQ.out B3.out)
  | ok t r =>
    have EQ := Lib.hid hx
    clear hx
    rintro e w2 ⟨v, rfl, ho, h2⟩
    have hv1 := ownN_one ho
    have H1 := R1.out.below h2 hz
    have B2 := Lib.hid (HB.out.trans (h2.mono (by omega)))
    have S1 := Lib.hid (H1.setRow (pr t.1 v))
    have B3 := Lib.hid (below_setRow B2.out (Nat.le_refl _) (pr t.1 v).toArray)
    have O3 := Lib.hid (ownN_row (S := w.heap.size) ho (pr t.1 v).toArray (by omega))
    clear h2 R1 HB ho
    go_wp2_with (with_reducible refine store_cells (o := ⟨none, _, _, _, _, _⟩) rfl _ _ _ rfl w.heap.size pr0 (pr t.1 v) rfl rfl H1 (info_Block.trans rfl) rfl (pr_one t.1 hv1) ?_)
    exact bodyPost_ret (v := .tuple #[.agg (pr t.1 v).toArray, .int .i64 0]) (results_c1 rfl _ _ w.heap.size (pr t.1 v) (.int .i64 0) rfl rfl S1.out _ Tryd.underlying76 (info_Block.trans rfl)) rfl (RDP.mkOk EQ.out (ownN_le O3.out (by omega)) B3.out)
/-! ### Request -/
theorem built_Request (s : ByteArray) (a : Option Addr) (n c : Nat) : Tryd.prog.built 80 [(0, .string s), (1, .slice a n c)] = some #[.string s, .slice a n c] := by kernel_rfl
theorem info_Request : (Tryd.prog.info? 80).map (·.size) = some 2 := by kernel_rfl
theorem build_Request {ops : Array Oper} {rest : List Oper} {o : Oper} {a : Act} {w : World} {Q : Exit → Act → World → Prop} (hgd : o.guard = none) (x y : Operand) (ho : o.op = .build 80 #[(0, x), (1, y)])
    (s : List UInt8) (v : Value) (hv : ∃ a n c, v = .slice a n c) (hx : a.eval x = .string (str s)) (hy : a.eval y = v)
    (h : wpList Tryd.prog ops Q rest (a.put o.dst (.agg (pr s v).toArray)) w) : wpList Tryd.prog ops Q (o :: rest) a w := by
  obtain ⟨ad, n, c, rfl⟩ := hv
  refine wpList_buildTo hgd 80 _ ho _ rfl _ ?_ h
  simp only [List.map_toArray, List.map_cons, List.map_nil, hx, hy]
  exact built_Request (str s) ad n c
set_option maxHeartbeats 4000000 in
theorem Request1_calls (b : Nat) (l : List UInt8) (w : World) (hT : Tabs w) (h1b : 1 < b) (hr : Row w b [.string (str l)]) (hl : l.length ≤ 9223372036854775807) :
    Calls Tryd.prog 71 #[.pointer (some ⟨b, 0, none⟩)] w (RPP (Wr.reqR l) (fun a => a.1) 3 1 (fun a => a.2.length) (fun a => wns a.2) b w) := by
  have hb := hr.lt
  have h1w := hT.lt
  have hk := And.intro h1b hl
  clear hk
  have I0 : PI w b l.length l (w.alloc (.cells pr0.toArray 80)) := ⟨hr.alloc _, Row.new w _ _, (But.refl _ _ _).alloc (Nat.le_refl _) _, Nat.le_refl _⟩
  rw [show pr0.toArray = #[Value.string (str []), .slice none 0 0] from rfl] at I0
  have HT := Lib.hid hT
  have EQ := Lib.hid (show Wr.reqR l = (Wr.take 32 l).bind fun h r => (Wr.upTo 1 16 r).bind fun n r => (Wr.indexes 16 n 0 r).map fun ts => (h, ts) from rfl)
  clear hr hT
  go_enter Tryd.func71, Tryd.ntmps71
  go_upto_region 1 with fail
  generalize w.alloc _ = w1 at I0 ⊢
  have T1 := Lib.hid (take_calls b 32 l w1 I0.cur (by omega))
  have J := Lib.hid I0
  clear I0
  go_wp2_with fail
  refine T1.out.mono ?_
  clear T1
  cases hx : Wr.take 32 l with
  | bad n =>
    rintro e w2 ⟨rfl, h⟩
    rw [hx] at EQ
    exact ⟨rfl, RPP.mkBad EQ.out (J.out.bad h)⟩
  | ok t1 r1 =>
    rintro e w2 ⟨rfl, h3, h4⟩
    rw [hx] at EQ
    have EQ2 := Lib.hid (show Wr.reqR l = (Wr.upTo 1 16 r1).bind fun n r => (Wr.indexes 16 n 0 r).map fun ts => (t1, ts) from EQ.out)
    have J2 := Lib.hid (J.out.step hb h3 h4 ((Wr.take_tail 32 l).le hx))
    have T2 := Lib.hid (upTo_calls b 1 16 r1 w2 h3 (by omega) (by omega))
    clear h3 h4 J EQ hx
    go_wp2_with fail
    refine T2.out.mono ?_
    clear T2
    cases hx : Wr.upTo 1 16 r1 with
    | bad n =>
      rintro e w3 ⟨rfl, h⟩
      rw [hx] at EQ2
      exact ⟨rfl, RPP.mkBad EQ2.out (J2.out.bad h)⟩
    | ok n r2 =>
      rintro e w3 ⟨rfl, h3, h4⟩
      rw [hx] at EQ2
      have hn := (Wr.upTo_le hx).2
      have EQ3 := Lib.hid (show Wr.reqR l = (Wr.indexes 16 n 0 r2).map fun ts => (t1, ts) from EQ2.out)
      have J3 := Lib.hid (J2.out.step hb h3 h4 ((Wr.upTo_tail 1 16 r1).le hx))
      clear h3 h4 J2 EQ2 hx
      have T3 := Lib.hid (indexes_calls b n 16 r2 w3 J3.out.cur (by omega) (by omega))
      go_wp2_with fail
      refine T3.out.mono ?_
      clear T3
      cases hx : Wr.indexes 16 n 0 r2 with
      | bad k =>
        rintro e w4 ⟨rfl, h⟩
        rw [hx] at EQ3
        exact ⟨rfl, RPP.mkBad EQ3.out (J3.out.bad h)⟩
      | ok ts r3 =>
        rintro e w4 ⟨v, rfl, h2, h3, h4⟩
        rw [hx] at EQ3
        have J4 := Lib.hid (J3.out.step hb h3 h4 ((Wr.indexes_tail 16 n 0 r2).le hx))
        have hro := J4.out.own
        have hz3 := J3.out.but.size
        have hz3' := J3.out.own.lt
        have hv := own_slice h2
        have hv1 := ownN_one h2
        have O1 := Lib.hid (ownN_row (S := w.heap.size) h2 (pr t1 v).toArray (by omega))
        clear h2 h3 h4 J3 hx
        go_wp2_with (first | (refine build_Request (o := ⟨some 15, _, _, _, _, _⟩) rfl _ _ rfl t1 v (by obtain ⟨a, c, h⟩ := hv; exact ⟨a, _, c, h⟩) rfl rfl ?_) | (with_reducible refine store_cells (o := ⟨none, _, _, _, _, _⟩) rfl _ _ _ rfl w.heap.size pr0 (pr t1 v) rfl rfl hro (info_Request.trans rfl) rfl (pr_one t1 hv1) ?_))
        obtain ⟨T2, hT2⟩ := hro.setRow (pr t1 v)
        exact bodyPost_ret (v := .agg (pr t1 v).toArray) (results_cell_row (fn := Tryd.f71) rfl _ _ w.heap.size T2 _ (0, 0) _ rfl hT2 Tryd.underlying80 rfl (info_Request.trans rfl)) rfl
          (RPP.mkOk (a := (t1, ts)) EQ3.out (ownN_le O1.out hz3) (J4.out.cur.setOther (by omega) _) (J4.out.but.trans (But.of_below (below_setRow (Below.refl _ _) (Nat.le_refl _) _))))
theorem catchRequest_idle (g h : Nat) (w : World) :
    CallsD Tryd.prog 90 #[.pointer (some ⟨g, 0, none⟩), .pointer (some ⟨h, 0, none⟩)] .returning w fun e u' w' => e = .returned (.tuple #[]) ∧ u' = .returning ∧ w' = w := by
  refine callsD_of_wpS Tryd.func90 rfl fun c₀ cs hu => ?_
  simp only [Tryd.ntmps90, List.size_toArray, List.length_cons, List.length_nil, Nat.reduceAdd, Nat.reduceSub, Array.replicate_succ, Array.replicate_zero, List.push_toArray, List.append_toArray, List.nil_append, List.cons_append]
  apply wpS_seq
  apply wpS_region
  simp [wpOpsS, go_sem, recoverD, hu, Exit.thenS]
  refine wpS_of_wp ?_
  go_wp2_with fail
  cases c₀
  simp_all [bodyPostS, results, Tryd.results90]
theorem catchRequest_panicking (g h : Nat) (n m : Int) (l : List Value) (w : World) (hg : Row w g l) (hh : Row w h [.int .i64 m]) (hl : l.length = 2) (hne : g ≠ h) :
    CallsD Tryd.prog 90 #[.pointer (some ⟨g, 0, none⟩), .pointer (some ⟨h, 0, none⟩)] (.panicking (Fault n)) w fun e u' w' =>
      e = .returned (.tuple #[]) ∧ u' = .panicking [{ v := .iface 136 (.agg #[.int .i64 n]), recovered := true }] ∧ Row w' g pr0 ∧ Row w' h [.int .i64 n] ∧ Keep (fun k => k = g ∨ k = h) w w' := by
  refine callsD_of_wpS Tryd.func90 rfl fun c₀ cs hu => ?_
  simp only [Tryd.ntmps90, List.size_toArray, List.length_cons, List.length_nil, Nat.reduceAdd, Nat.reduceSub, Array.replicate_succ, Array.replicate_zero, List.push_toArray, List.append_toArray, List.nil_append, List.cons_append]
  apply wpS_seq
  apply wpS_region
  unfold Fault at hu
  have hta : ∀ (w : World), (Instr.typeAssert (.iface 136 (.agg #[.int .i64 n])) 20 136 true).run Tryd.prog w = .ok (.tuple #[.agg #[.int .i64 n], .bool true]) w := fun w => by kernel_rfl
  simp [wpOpsS, go_sem, recoverD, hu, Exit.thenS]
  refine wpS_of_wp ?_
  have hzg := hg.lt
  have hzh := hh.lt
  have r1 : Row ((w.alloc (.cells #[.int .i64 n] 136)).alloc (.cells #[.string (str []), .slice none 0 0] 80)) w.heap.size [.int .i64 n] := (Row.new w [.int .i64 n] 136).alloc _
  have r2 : Row ((w.alloc (.cells #[.int .i64 n] 136)).alloc (.cells #[.string (str []), .slice none 0 0] 80)) (w.heap.size + 1) pr0 := by
    have := Row.new (w.alloc (.cells #[.int .i64 n] 136)) pr0 80
    rw [World.size_alloc] at this
    exact this
  have r3 : Row ((w.alloc (.cells #[.int .i64 n] 136)).alloc (.cells #[.string (str []), .slice none 0 0] 80)) g l := (hg.alloc _).alloc _
  have r4 : Row ((w.alloc (.cells #[.int .i64 n] 136)).alloc (.cells #[.string (str []), .slice none 0 0] 80)) h [.int .i64 m] := (hh.alloc _).alloc _
  have kk : Keep (fun k => k = g ∨ k = h) w ((w.alloc (.cells #[.int .i64 n] 136)).alloc (.cells #[.string (str []), .slice none 0 0] 80)) := ((Keep.refl _ _).alloc _).alloc _
  clear hg hh
  go_wp2_with fail
  generalize (w.alloc _).alloc _ = w1 at r1 r2 r3 r4 kk ⊢
  generalize w.heap.size = A at *
  have hu : ∀ u : Reg.Of (fun u => Row u A [.int .i64 n] ∧ Row u (A + 1) pr0), u.w.cell? ⟨A, 0, none⟩ = some (.int .i64 n) := fun u => u.h.1.cell 0
  haveI hne' : Nonempty (Reg.Of (fun u => Row u A [.int .i64 n] ∧ Row u (A + 1) pr0)) := ⟨⟨w1, r1, r2⟩⟩
  refine Reg.startL [0, 1, 2] 2 mixed (by kernel_rfl) rfl rfl (fun c a d v w h => by cases d <;> exact h) (by as_aux_lemma => kernel_rfl) rfl (fun u => Row u A [.int .i64 n] ∧ Row u (A + 1) pr0) ⟨r1.drew, r2.drew⟩ ?_
  show wpQuiet _ _ _ _ [_, _, _] _
  refine wpQuiet_loadc (o := ⟨some 12, _, _, _, _, _⟩) rfl _ _ rfl (A + 1) pr0 rfl (fun w hw => by obtain ⟨u, rfl⟩ := hw; exact u.h.2) _ Tryd.underlying80 (info_Request.trans rfl) _ rfl ?_
  go_frame
  repeat (go_big_quiet_step (fail))
  refine wpQuiet_nil ?_
  have r1 := r1.drew
  have r2 := r2.drew
  have r3 := r3.drew
  have r4 := r4.drew
  have kk := kk.drew
  generalize w1.drew = w2 at r1 r2 r3 r4 kk ⊢
  refine Reg.one 3 _ (by kernel_rfl) rfl rfl ?_
  refine store_cells rfl _ _ _ rfl g l pr0 rfl rfl r3 (info_Request.trans rfl) (by rw [hl]; rfl) (by decide +kernel) ?_
  have s1 := r1.setOther (g := g) (by omega) pr0.toArray
  have s2 := r2.setOther (g := g) (by omega) pr0.toArray
  have s3 := r3.setRow pr0
  have s4 := r4.setOther (g := g) (Ne.symm hne) pr0.toArray
  have kk := kk.setRow g pr0.toArray (.inl rfl)
  generalize w2.setRow g _ = w3 at s1 s2 s3 s4 kk ⊢
  refine ⟨Reg.cls_mk ⟨s1, s2⟩, ?_⟩
  refine Reg.one 4 _ (by kernel_rfl) rfl rfl ?_
  have hz := s4.free 0
  have hc := s4.cell 0
  try go_frame
  go_wp2_with fail
  refine ⟨Reg.cls_mk ⟨s1.other (show h ≠ A by omega) _, s2.other (show h ≠ A + 1 by omega) _⟩, ?_⟩
  refine wpAnyH_done (by kernel_rfl) ?_ 0
  go_wp2_with fail
  refine ⟨rfl, _, rfl, .tuple #[], results_none rfl _ _ _, rfl, rfl, s3.other (Ne.symm hne) _, s4.set 0 _, kk.set _ _ (.inr rfl)⟩
set_option maxHeartbeats 2000000 in
theorem readRequest_calls (l : List UInt8) (w : World) (hT : Tabs w) (hl : l.length ≤ 9223372036854775807) :
    Calls Tryd.prog 70 #[.string (str l), .func (.func 71) #[] #[]] w (RDP (Wr.readRequest l) (fun a => a.1) 3 1 (fun a => a.2.length) (fun a => wns a.2) w) := by
  have hmf : ∀ (fn : Fn) (first cap : Array Value) (w : World), (Instr.makeFunc fn first cap).run Tryd.prog w = .ok (.func fn first cap) w := fun _ _ _ _ => rfl
  have h1w := hT.lt
  have HT := Lib.hid hT
  have EQ := Lib.hid (show Wr.readRequest l = (Wr.reqR l).bind fun a r => if r = [] then .ok a r else .bad 5 from rfl)
  have r1 : Row (((w.alloc (.cells #[.string (str []), .slice none 0 0] 80)).alloc (.cells #[.int .i64 0] 27)).alloc (.cells #[.string (str l)] 122)) w.heap.size pr0 := ((Row.new w pr0 80).alloc _).alloc _
  have r2 : Row (((w.alloc (.cells #[.string (str []), .slice none 0 0] 80)).alloc (.cells #[.int .i64 0] 27)).alloc (.cells #[.string (str l)] 122)) (w.heap.size + 1) [.int .i64 0] := by
    have := Row.new (w.alloc (.cells pr0.toArray 80)) [.int .i64 0] 27
    rw [World.size_alloc] at this
    exact this.alloc _
  have r3 : Row (((w.alloc (.cells #[.string (str []), .slice none 0 0] 80)).alloc (.cells #[.int .i64 0] 27)).alloc (.cells #[.string (str l)] 122)) (w.heap.size + 2) [.string (str l)] := by
    have := Row.new ((w.alloc (.cells pr0.toArray 80)).alloc (.cells #[.int .i64 0] 27)) [.string (str l)] 122
    rw [World.size_alloc, World.size_alloc] at this
    exact this
  have hB : Below w.heap.size w (((w.alloc (.cells #[.string (str []), .slice none 0 0] 80)).alloc (.cells #[.int .i64 0] 27)).alloc (.cells #[.string (str l)] 122)) := (((Below.refl _ _).alloc (Nat.le_refl _) _).alloc (by simp) _).alloc (by simp; omega) _
  clear hT
  go_enter_defers Tryd.func70, Tryd.ntmps70
  go_wp2_with fail
  generalize ((w.alloc _).alloc _).alloc _ = w1 at r1 r2 r3 hB ⊢
  have HB := Lib.hid hB
  have hz := hB.size
  have hz3 := r3.lt
  have R1 := Lib.hid r1
  have R2 := Lib.hid r2
  have T1 := Lib.hid (Request1_calls (w.heap.size + 2) l w1 (HT.out.below hB h1w) (by omega) r3 hl)
  clear r1 r2 r3 hB
  refine T1.out.mono ?_
  clear T1
  cases hx : Wr.reqR l with
  | bad n =>
    rintro e w2 ⟨rfl, h⟩
    rw [hx] at EQ
    have H1 := h.row R1.out R1.out.lt (by omega)
    have H2 := h.row R2.out R2.out.lt (by omega)
    refine leaves_cons (f := 90) (args := #[.pointer (some ⟨w.heap.size, 0, none⟩), .pointer (some ⟨w.heap.size + 1, 0, none⟩)]) (by simp) (by simp [go_sem]) ?_
    refine (catchRequest_panicking w.heap.size (w.heap.size + 1) n 0 pr0 w2 H1 H2 rfl (by omega)).mono ?_
    rintro e u' w3 ⟨rfl, rfl, h5, h6, h7⟩
    refine ⟨_, results_c2 rfl _ _ w.heap.size (w.heap.size + 1) pr0 n rfl rfl h5 h6 _ Tryd.underlying80 (info_Request.trans rfl), ?_⟩
    exact RDP.mkBad EQ.out (HB.out.trans ⟨h7.os.trans h.os, h7.tape.trans h.tape, h7.output.trans h.output, Nat.le_trans h.size h7.size, fun k hk => (h7.block k (by have := h.size; omega) (by omega)).trans (h.block k (by omega) (by omega))⟩)
  | ok t r =>
    rintro e w2 ⟨v, rfl, ho, h3, h⟩
    rw [hx] at EQ
    have EQ2 := Lib.hid (show Wr.readRequest l = if r = [] then .ok t r else .bad 5 from EQ.out)
    have H1 := h.row R1.out R1.out.lt (by omega)
    have H2 := h.row R2.out R2.out.lt (by omega)
    have hz2 := h.size
    have hv1 := ownN_one ho
    have B2 := Lib.hid (show Below w.heap.size w w2 from HB.out.trans ⟨h.os, h.tape, h.output, h.size, fun k hk => h.block k (by omega) (by omega)⟩)
    have S1 := Lib.hid (H1.setRow (pr t.1 v))
    have S2 := Lib.hid (H2.setOther (g := w.heap.size) (by omega) (pr t.1 v).toArray)
    have S3 := Lib.hid (h3.setOther (g := w.heap.size) (by omega) (pr t.1 v).toArray)
    have B3 := Lib.hid (below_setRow B2.out (Nat.le_refl _) (pr t.1 v).toArray)
    have O3 := Lib.hid (ownN_row (S := w.heap.size) ho (pr t.1 v).toArray (by omega))
    clear EQ h h3 H2 R1 R2 HB hx ho
    go_wp2_with (with_reducible refine store_cells (o := ⟨none, _, _, _, _, _⟩) rfl _ _ _ rfl w.heap.size pr0 (pr t.1 v) rfl rfl H1 (info_Request.trans rfl) rfl (pr_one t.1 hv1) ?_)
    clear H1
    generalize w2.setRow _ _ = w3 at S1 S2 S3 B3 O3 ⊢
    refine (end_calls (w.heap.size + 2) r w3 S3.out).mono ?_
    by_cases hr : r = []
    · simp only [if_pos hr]
      rintro e w4 ⟨rfl, rfl⟩
      have hro := S1.out
      have S4 := Lib.hid (S2.out.setOther (g := w.heap.size) (by omega) (pr t.1 v).toArray)
      have S5 := Lib.hid (S1.out.setRow (pr t.1 v))
      have B5 := Lib.hid (below_setRow B3.out (Nat.le_refl _) (pr t.1 v).toArray)
      have O5 := Lib.hid (ownN_row (S := w.heap.size) O3.out (pr t.1 v).toArray (by omega))
      have hz5 := S4.out.free 0
      have hc5 := S4.out.cell 0
      go_wp2_with (first | (refine load_cells (o := ⟨some 19, _, _, _, _, _⟩) rfl _ _ rfl w.heap.size (pr t.1 v) rfl hro _ Tryd.underlying80 (info_Request.trans rfl) _ rfl ?_) | (with_reducible refine store_cells (o := ⟨none, _, _, _, _, _⟩) rfl _ _ _ rfl w.heap.size (pr t.1 v) (pr t.1 v) rfl rfl hro (info_Request.trans rfl) rfl (pr_one t.1 hv1) ?_))
      refine leaves_cons (f := 90) (args := #[.pointer (some ⟨w.heap.size, 0, none⟩), .pointer (some ⟨w.heap.size + 1, 0, none⟩)]) (by simp) (by simp [go_sem]) ?_
      refine (catchRequest_idle w.heap.size (w.heap.size + 1) _).mono ?_
      rintro e u' w5 ⟨rfl, rfl, rfl⟩
      refine ⟨_, results_c2 rfl _ _ w.heap.size (w.heap.size + 1) (pr t.1 v) 0 rfl rfl (S5.out.other (show w.heap.size + 1 ≠ w.heap.size by omega) _) (S4.out.set 0 _) _ Tryd.underlying80 (info_Request.trans rfl), ?_⟩
      exact RDP.mkOk (EQ2.out.trans (if_pos hr)) (ownN_le (ownN_cell O5.out _ (by show w.heap.size + 1 < _; omega)) hz) (B5.out.setCell (show w.heap.size ≤ w.heap.size + 1 by omega) _)
    · simp only [if_neg hr]
      rintro e w4 ⟨rfl, rfl⟩
      refine leaves_cons (f := 90) (args := #[.pointer (some ⟨w.heap.size, 0, none⟩), .pointer (some ⟨w.heap.size + 1, 0, none⟩)]) (by simp) (by simp [go_sem]) ?_
      refine (catchRequest_panicking w.heap.size (w.heap.size + 1) 5 0 (pr t.1 v) w4 S1.out S2.out rfl (by omega)).mono ?_
      rintro e u' w5 ⟨rfl, rfl, h5, h6, h7⟩
      refine ⟨_, results_c2 rfl _ _ w.heap.size (w.heap.size + 1) pr0 5 rfl rfl h5 h6 _ Tryd.underlying80 (info_Request.trans rfl), ?_⟩
      exact RDP.mkBad (k := 5) (EQ2.out.trans (if_neg hr)) (B3.out.trans ⟨h7.os, h7.tape, h7.output, h7.size, fun k hk => h7.block k (by have := B3.out.size; omega) (by omega)⟩)
set_option maxHeartbeats 1000000 in
theorem wreadRequest_calls (l : List UInt8) (w : World) (hT : Tabs w) (hl : l.length ≤ 9223372036854775807) :
    Calls Tryd.prog 39 #[.string (str l)] w (RDP (Wr.readRequest l) (fun a => a.1) 3 1 (fun a => a.2.length) (fun a => wns a.2) w) := by
  have h1w := hT.lt
  have r1 : Row (w.alloc (.cells #[.string (str []), .slice none 0 0] 80)) w.heap.size pr0 := Row.new w pr0 80
  have hB : Below w.heap.size w (w.alloc (.cells #[.string (str []), .slice none 0 0] 80)) := (Below.refl _ _).alloc (Nat.le_refl _) _
  go_enter Tryd.func39, Tryd.ntmps39
  go_wp2_with fail
  generalize w.alloc _ = w1 at r1 hB ⊢
  have HB := Lib.hid hB
  have R1 := Lib.hid r1
  have hz := r1.lt
  have T1 := Lib.hid (readRequest_calls l w1 (hT.below hB h1w) hl)
  clear hT hB r1
  refine T1.out.mono ?_
  clear T1
  cases hx : Wr.readRequest l with
  | bad n =>
    have EQ := Lib.hid hx
    clear hx
    rintro e w2 ⟨rfl, h2⟩
    have H1 := R1.out.below h2 hz
    have B2 := Lib.hid (HB.out.trans (h2.mono (by omega)))
    have S1 := Lib.hid (H1.setRow pr0)
    have B3 := Lib.hid (below_setRow B2.out (Nat.le_refl _) pr0.toArray)
    clear h2 R1 HB
    go_wp2_with (with_reducible refine store_cells (o := ⟨none, _, _, _, _, _⟩) rfl _ _ _ rfl w.heap.size pr0 pr0 rfl rfl H1 (info_Request.trans rfl) rfl (by decide +kernel) ?_)
    exact bodyPost_ret (v := .tuple #[.agg pr0.toArray, .int .i64 n]) (results_c1 rfl _ _ w.heap.size pr0 (.int .i64 n) rfl rfl S1.out _ Tryd.underlying80 (info_Request.trans rfl)) rfl (RDP.mkBad EQ.out B3.out)
  | ok t r =>
    have EQ := Lib.hid hx
    clear hx
    rintro e w2 ⟨v, rfl, ho, h2⟩
    have hv1 := ownN_one ho
    have H1 := R1.out.below h2 hz
    have B2 := Lib.hid (HB.out.trans (h2.mono (by omega)))
    have S1 := Lib.hid (H1.setRow (pr t.1 v))
    have B3 := Lib.hid (below_setRow B2.out (Nat.le_refl _) (pr t.1 v).toArray)
    have O3 := Lib.hid (ownN_row (S := w.heap.size) ho (pr t.1 v).toArray (by omega))
    clear h2 R1 HB ho
    go_wp2_with (with_reducible refine store_cells (o := ⟨none, _, _, _, _, _⟩) rfl _ _ _ rfl w.heap.size pr0 (pr t.1 v) rfl rfl H1 (info_Request.trans rfl) rfl (pr_one t.1 hv1) ?_)
    exact bodyPost_ret (v := .tuple #[.agg (pr t.1 v).toArray, .int .i64 0]) (results_c1 rfl _ _ w.heap.size (pr t.1 v) (.int .i64 0) rfl rfl S1.out _ Tryd.underlying80 (info_Request.trans rfl)) rfl (RDP.mkOk EQ.out (ownN_le O3.out (by omega)) B3.out)
end Go.Proofs.YtlpcjiollnnmgaaDoor
