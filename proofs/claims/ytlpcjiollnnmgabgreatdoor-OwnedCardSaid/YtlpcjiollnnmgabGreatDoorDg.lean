/-
  DIGESTS IN MEMORY: two of them compared; a slice of them. Nothing of one function.
-/
import Derived.Test.YtlpcjiollnnmgabGreatDoorShaTop
import Derived.Test.YtlpcjiollnnmgabGreatDoorRegion3
import Derived.DeepKeys
import Derived.Laws.StructEq
import Derived.Deep.MidRow
import Derived.OwnWalk
namespace Go.Proofs.YtlpcjiollnnmgabGreatDoor
open Go.RowKit Nums
theorem mapM_known {α β : Type} {f : α → Option β} {g : α → β} : ∀ (l : List α), (∀ x ∈ l, f x = some (g x)) → l.mapM f = some (l.map g)
  | [], _ => rfl
  | x :: l, h => by
    rw [List.mapM_cons, h x List.mem_cons_self, mapM_known l fun y hy => h y (List.mem_cons_of_mem _ hy)]; rfl
theorem cellsDg : Tryz.prog.cellsOf 76 = 32 := by kernel_rfl
theorem cellsU8 : Tryz.prog.cellsOf 5 = 1 := by kernel_rfl
theorem litY (x : UInt8) : (Lit.int .u8 (Y x)).wf = true := by
  have := Y_lt x
  simp [Lit.wf, IntKind.min, IntKind.max, IntKind.signed, IntKind.bits]; omega
theorem chunk_one (a : List UInt8) (i : Nat) (h : i < a.length) : ((w8 a).drop (i * 1)).take 1 = [Value.int .u8 (Y (nth a i))] := by
  have hi : i < (w8 a).length := by rw [w8_length]; exact h
  rw [Nat.mul_one, List.drop_eq_getElem_cons hi]
  have := w8_get a i h
  rw [List.getElem?_eq_getElem hi] at this
  rw [Option.some.inj this]; rfl
def lits (a : List UInt8) : List Lit := a.map fun x => Lit.int .u8 (Y x)
theorem lits_inj {a b : List UInt8} (h : lits a = lits b) : a = b :=
  (List.map_inj_right fun x y he => Y_inj (by simpa using he)).1 h
theorem lits_range (a : List UInt8) : ((List.range a.length).map fun i => [Lit.int .u8 (Y (nth a i))]).flatten = lits a := by
  have e : ((List.range a.length).map fun i => [Lit.int .u8 (Y (nth a i))]).flatten = (List.range a.length).map fun i => Lit.int .u8 (Y (nth a i)) := by
    generalize List.range a.length = l
    induction l with
    | nil => rfl
    | cons x l ih => rw [List.map_cons, List.flatten_cons, ih]; rfl
  rw [e]
  unfold lits
  apply List.ext_getElem
  · simp
  · intro i h1 h2
    have hi : i < a.length := by simpa using h2
    simp [nth, hi]
theorem keyLits_dg (d : Nat) (a : List UInt8) (h : a.length = 32) : Tryz.prog.keyLits (d + 2) 76 (w8 a) = some (lits a) := by
  unfold Program.keyLits
  simp only [Tryz.underlying76, cellsDg, w8_length, h, if_true, cellsU8]
  have h2 : (List.range 32).mapM (fun i => Tryz.prog.keyLits (d + 1) 5 (((w8 a).drop (i * 1)).take 1)) = some ((List.range 32).map fun i => [Lit.int .u8 (Y (nth a i))]) := by
    refine mapM_known _ fun i hi => ?_
    have hi' : i < a.length := by rw [h]; simpa using hi
    rw [chunk_one a i hi']
    unfold Program.keyLits
    simp only [Tryz.underlying5, litY, true_and, if_true]
  rw [h2, ← h]
  simp only [Option.map_some, lits_range]
theorem formed_dg (a : List UInt8) (h : a.length = 32) : (Value.agg (w8 a).toArray).formed Tryz.prog 76 = true := by
  simp [Value.formed, Tryz.underlying76, cellsDg, w8_length, h]
/-- two digests compared -/
theorem eql_dg (a b : List UInt8) (ha : a.length = 32) (hb : b.length = 32) (w : World) :
    (binOp .eql 76 (.agg (w8 a).toArray) (.agg (w8 b).toArray)).run Tryz.prog w = .ok (.bool (a == b)) w := by
  rw [run_eql_struct]
  obtain ⟨r, h1, h2⟩ := run_equalIn_deep (P := Tryz.prog) 9998 2 76 (by kernel_rfl) w 2 2 (.agg (w8 a).toArray) (.agg (w8 b).toArray) (lits a) (lits b) (formed_dg a ha) (formed_dg b hb) (keyLits_dg 0 a ha) (keyLits_dg 0 b hb)
  have e : r = (a == b) := by
    rw [Bool.eq_iff_iff, h2, beq_iff_eq]
    exact ⟨lits_inj, fun h => by rw [h]⟩
  rw [h1, e]; rfl
/-- the digests ds, at the head of block b -/
def Digs (w : World) (b : Nat) (ds : List (List UInt8)) : Prop := ∀ i, i < ds.length → w.rangeAt b (32 * i) (w8 (ds.getD i []))
def All32 (ds : List (List UInt8)) : Prop := ∀ d ∈ ds, d.length = 32
theorem All32.get {ds : List (List UInt8)} (h : All32 ds) (i : Nat) (hi : i < ds.length) : (ds.getD i []).length = 32 := by
  rw [List.getD_eq_getElem?_getD, List.getElem?_eq_getElem hi]; exact h _ (List.getElem_mem hi)
theorem rangeAt_of_block {w w' : World} {b o : Nat} {cs : List Value} (h : w.rangeAt b o cs) (hb : w'.heap[b]? = w.heap[b]?) : w'.rangeAt b o cs := fun j v hv => by
  rw [← h j v hv]; exact World.cell?_of_block (w := w) hb
theorem Digs.below {B b : Nat} {ds : List (List UInt8)} {w w' : World} (h : Digs w b ds) (hb : Below B w w') (hB : b < B) : Digs w' b ds := fun i hi => rangeAt_of_block (h i hi) (hb.block b hB)
theorem flat_length : ∀ (ds : List (List UInt8)), All32 ds → ds.flatten.length = 32 * ds.length
  | [], _ => rfl
  | d :: ds, h => by
    rw [List.flatten_cons, List.length_append, flat_length ds fun x hx => h x (List.mem_cons_of_mem _ hx), h d List.mem_cons_self, List.length_cons]; omega
theorem flat_get : ∀ (ds : List (List UInt8)) (i j : Nat), All32 ds → i < ds.length → j < 32 → nth ds.flatten (32 * i + j) = nth (ds.getD i []) j
  | [], i, j, _, hi, _ => by simp at hi
  | d :: ds, 0, j, h, hi, hj => by
    have hd := h d List.mem_cons_self
    rw [List.flatten_cons, show 32 * 0 + j = j by omega, nth_append_left _ _ _ (by omega)]; rfl
  | d :: ds, i + 1, j, h, hi, hj => by
    have hd := h d List.mem_cons_self
    rw [List.flatten_cons, nth_append_right _ _ _ (by omega), show 32 * (i + 1) + j - d.length = 32 * i + j by omega, flat_get ds i j (fun x hx => h x (List.mem_cons_of_mem _ hx)) (by simpa using hi) hj]; rfl
/-- a slice of digests that the call owns -/
theorem own_digs {w : World} {B n : Nat} {e : TypeId} {v : Value} {ds : List (List UInt8)} (h : w.ownsRow B e 32 v n (w8 ds.flatten)) (hn : 0 < n) (hl : n = ds.length) (h32 : All32 ds) :
    ∃ g cap, v = .slice (some ⟨g, 0, none⟩) n cap ∧ B ≤ g ∧ g < w.heap.size ∧ Digs w g ds := by
  obtain ⟨_, ⟨_, h0⟩ | ⟨g, cap, cur, rfl, hb, hg, _, _, _, ht⟩⟩ := h
  · omega
  · refine ⟨g, cap, rfl, hb, (Array.getElem?_eq_some_iff.1 hg).1, fun i hi j v hv => ?_⟩
    have hj : j < 32 := by have := (List.getElem?_eq_some_iff.1 hv).1; rwa [w8_length, h32.get i hi] at this
    have hlt : 32 * i + j < n * 32 := by omega
    have e1 : (w8 ds.flatten)[32 * i + j]? = some v := by
      rw [w8_get _ _ (by rw [flat_length ds h32]; omega), flat_get ds i j h32 hi hj, ← w8_get _ _ (by rw [h32.get i hi]; exact hj)]; exact hv
    rw [← ht, List.getElem?_take_of_lt hlt] at e1
    simpa [World.cell?, hg] using e1
theorem flat_snoc (ds : List (List UInt8)) (d : List UInt8) : w8 ds.flatten ++ w8 d = w8 (ds ++ [d]).flatten := by simp [w8]
theorem all32_snoc {ds : List (List UInt8)} {d : List UInt8} (h : All32 ds) (hd : d.length = 32) : All32 (ds ++ [d]) := fun x hx => by
  rcases List.mem_append.1 hx with hx | hx
  · exact h x hx
  · rw [List.mem_singleton.1 hx]; exact hd
theorem sizeDg : (Tryz.prog.info? 76).map (·.size) = some 32 := by kernel_rfl
theorem infoDg3 : (Tryz.prog.info? 76).map (fun i => (i.zero, i.size, i.bytes)) = some (some (.agg (w8 (List.replicate 32 0)).toArray), 32, 32) := by kernel_rfl
/-- a digest out of a slice -/
theorem load_at {ops : Array Oper} {rest : List Oper} {o : Oper} {a : Act} {w : World} {Q : Exit → Act → World → Prop} (hgd : o.guard = none) (x : Operand) (ho : o.op = .load 76 x)
    (g off : Nat) (l : List UInt8) (hl : l.length = 32) (hx : a.eval x = .pointer (some ⟨g, off, none⟩)) (hr : w.rangeAt g off (w8 l))
    (h : wpList Tryz.prog ops Q rest (a.put o.dst (.agg (w8 l).toArray)) w) : wpList Tryz.prog ops Q (o :: rest) a w :=
  wpList_load_mid hgd _ x ho g off hx (w8 l) _ hr Tryz.underlying76 rfl (by rw [sizeDg, w8_length, hl]) h
theorem run_load_at (w : World) (g off : Nat) (l : List UInt8) (hl : l.length = 32) (hr : w.rangeAt g off (w8 l)) :
    (Instr.loadAt 76 (.pointer (some ⟨g, off, none⟩))).run Tryz.prog w = .ok (.agg (w8 l).toArray) w :=
  run_loadAt_mid w g off _ (w8 l) _ hr Tryz.underlying76 rfl (by rw [sizeDg, w8_length, hl])
/-- a digest out of a slice, in a quiet walk -/
theorem wpQuiet_load {ops : Array Oper} {rest : List Oper} {o : Oper} {a : Act} {C : World → Prop} {Q : Act → Prop} (hgd : o.guard = none) (x : Operand) (ho : o.op = .load 76 x)
    (g off : Nat) (l : List UInt8) (hl : l.length = 32) (hx : a.eval x = .pointer (some ⟨g, off, none⟩)) (hr : ∀ w, C w → w.rangeAt g off (w8 l))
    (h : wpQuiet Tryz.prog ops C Q rest (a.put o.dst (.agg (w8 l).toArray))) : wpQuiet Tryz.prog ops C Q (o :: rest) a := by
  unfold wpQuiet
  rw [if_pos (by simp [Region.wanted, hgd])]
  refine ⟨_, fun w hw => ?_, h⟩
  have := run_load_at w g off l hl (hr w hw)
  unfold Oper.quietAt execOp
  simp only [ho, hx, Sem.run_bind, this, Result.andThen_ok, Sem.run_pure, Oper.quietUpon]
  first | trivial | exact ⟨trivial, trivial⟩ | exact ⟨rfl, rfl⟩ | exact ⟨rfl, hw⟩
theorem run_alloc_dg (w : World) : (Instr.alloc 76 true (.tuple #[])).run Tryz.prog w = .ok (.pointer (some ⟨w.heap.size, 0, none⟩)) (w.alloc (.cells (w8 (List.replicate 32 0)).toArray 76)) := by kernel_rfl
section
variable {ops : Array Oper} {Q : Exit → Act → World → Prop} {S : World → Prop}
/-- a variable of a digest, made inside a region -/
theorem one_alloc {a : Act} {w : World} {o : Oper} (ho : o.op = .alloc 76) (hg : o.guard = none) (K : Act → World → Prop)
    (hS : S (w.alloc (.cells (w8 (List.replicate 32 0)).toArray 76)))
    (h : K (a.put o.dst (.pointer (some ⟨w.heap.size, 0, none⟩))) (w.alloc (.cells (w8 (List.replicate 32 0)).toArray 76))) : wpList Tryz.prog ops (Reg.next S Q K) [o] a w := by
  refine list_val hg (v := .pointer (some ⟨w.heap.size, 0, none⟩)) (w' := w.alloc (.cells (w8 (List.replicate 32 0)).toArray 76)) ?_ ⟨hS, h⟩
  unfold execOp
  simp only [ho, Sem.run_bind, run_alloc_dg]
  rfl
/-- two variables of digests, made and laid inside a region, in either order -/
theorem news {L : Array Bool} {a : Act} {w : World} (i j s t : Nat) (x y : Nat) (u v : Operand) (oi oj os ot : Oper) (hr0 : Region.ready .any ops L = [i, j]) (hr1 : Region.ready .any ops (L.setIfInBounds i true) = [j]) (hr2 : Region.ready .any ops (L.setIfInBounds j true) = [i])
    (hr3 : Region.ready .any ops ((L.setIfInBounds i true).setIfInBounds j true) = [s]) (hr4 : Region.ready .any ops (((L.setIfInBounds i true).setIfInBounds j true).setIfInBounds s true) = [t])
    (hr5 : Region.ready .any ops ((((L.setIfInBounds i true).setIfInBounds j true).setIfInBounds s true).setIfInBounds t true) = [])
    (hi : ops[i]? = some oi) (hj : ops[j]? = some oj) (hs : ops[s]? = some os) (ht : ops[t]? = some ot) (gi : oi.guard = none) (gj : oj.guard = none) (gs : os.guard = none) (gt : ot.guard = none)
    (qi : oi.op = .alloc 76) (qj : oj.op = .alloc 76) (qs : os.op = .store 76 (.tmp x) u) (qt : ot.op = .store 76 (.tmp y) v)
    (di : oi.dst = some x) (dj : oj.dst = some y) (ds : os.dst = none) (dt : ot.dst = none) (hij : i ≠ j) (hxy : x ≠ y) (hx : x < a.tmps.size) (hy : y < a.tmps.size)
    (A B : List UInt8) (lA : A.length = 32) (lB : B.length = 32) (hu : ∀ p q, ((a.put (some x) p).put (some y) q).eval u = .agg (w8 A).toArray) (hv : ∀ p q, ((a.put (some x) p).put (some y) q).eval v = .agg (w8 B).toArray)
    (hS : ∀ w', Below w.heap.size w w' → S w')
    (h : ∀ b6 b7 w', w.heap.size ≤ b6 → w.heap.size ≤ b7 → b6 ≠ b7 → Row w' b6 (w8 A) → Row w' b7 (w8 B) → Below w.heap.size w w' → Q .normal ((a.put (some x) (.pointer (some ⟨b6, 0, none⟩))).put (some y) (.pointer (some ⟨b7, 0, none⟩))) w') :
    wpAnyH Tryz.prog .any ops Q S 4 L a w := by
  have fin : ∀ b6 b7 w', w.heap.size ≤ b6 → w.heap.size ≤ b7 → b6 ≠ b7 → Row w' b6 (w8 (List.replicate 32 0)) → Row w' b7 (w8 (List.replicate 32 0)) → Below w.heap.size w w' →
      wpAnyH Tryz.prog .any ops Q S 2 ((L.setIfInBounds i true).setIfInBounds j true) ((a.put (some x) (.pointer (some ⟨b6, 0, none⟩))).put (some y) (.pointer (some ⟨b7, 0, none⟩))) w' := by
    intro b6 b7 w' h6 h7 hne r6 r7 hB
    have ex : ((a.put (some x) (.pointer (some ⟨b6, 0, none⟩))).put (some y) (.pointer (some ⟨b7, 0, none⟩))).eval (.tmp x) = .pointer (some ⟨b6, 0, none⟩) := by
      rw [put_ne _ _ _ _ (Ne.symm hxy), put_same _ _ _ hx]
    have ey : ((a.put (some x) (.pointer (some ⟨b6, 0, none⟩))).put (some y) (.pointer (some ⟨b7, 0, none⟩))).eval (.tmp y) = .pointer (some ⟨b7, 0, none⟩) := by
      rw [put_same _ _ _ (by rw [put_size]; exact hy)]
    have hB1 := below_setRow hB h6 (w8 A).toArray
    have hB2 := below_setRow hB1 h7 (w8 B).toArray
    have r7' := r7.setOther (Ne.symm hne) (w8 A).toArray
    have r6' := (r6.setRow (w8 A)).setOther hne (w8 B).toArray
    have r7'' := r7'.setRow (w8 B)
    refine Reg.one s os hr3 hs gs ?_
    refine store_dg gs _ _ qs b6 (List.replicate 32 0) A (by simp) lA ex (hu _ _) r6 ?_
    rw [ds]
    refine ⟨hS _ hB1, ?_⟩
    refine Reg.one t ot hr4 ht gt ?_
    refine store_dg gt _ _ qt b7 (List.replicate 32 0) B (by simp) lB ey (hv _ _) r7' ?_
    rw [dt]
    exact ⟨hS _ hB2, wpAnyH_done hr5 (h b6 b7 _ h6 h7 hne r6' r7'' hB2) 0⟩
  have hb1 := (Below.refl w.heap.size w).alloc (Nat.le_refl _) (.cells (w8 (List.replicate 32 0)).toArray 76)
  have hz1 : (w.alloc (.cells (w8 (List.replicate 32 0)).toArray 76)).heap.size = w.heap.size + 1 := by simp
  have hb2 := hb1.alloc (by omega) (.cells (w8 (List.replicate 32 0)).toArray 76)
  have n1 := Row.new w (w8 (List.replicate 32 0)) 76
  have n2 := Row.new (w.alloc (.cells (w8 (List.replicate 32 0)).toArray 76)) (w8 (List.replicate 32 0)) 76
  have n1' := n1.alloc (.cells (w8 (List.replicate 32 0)).toArray 76)
  rw [hz1] at n2
  refine Reg.two i j oi oj hr0 hi gi hj gj ?_ ?_
  · refine one_alloc qi gi _ (hS _ hb1) ?_
    refine Reg.one j oj hr1 hj gj ?_
    refine one_alloc qj gj _ (hS _ hb2) ?_
    rw [di, dj, hz1]
    exact fin w.heap.size (w.heap.size + 1) _ (Nat.le_refl _) (by omega) (by omega) n1' n2 hb2
  · refine one_alloc qj gj _ (hS _ hb1) ?_
    refine Reg.one i oi hr2 hi gi ?_
    refine one_alloc qi gi _ (hS _ hb2) ?_
    rw [di, dj, hz1, Array.setIfInBounds_comm _ _ (Ne.symm hij), Act.put_comm _ _ _ (fun d e1 e2 => hxy (by rw [Option.some.inj e1] at *; exact (Option.some.inj e2).symm ▸ rfl))]
    exact fin (w.heap.size + 1) w.heap.size _ (by omega) (Nat.le_refl _) (by omega) n2 n1' hb2
end
theorem list_valw {P : Program} {w : World} {a : Act} {o : Oper} {rest : List Oper} {ops : Array Oper} {Q : Exit → Act → World → Prop} {w' : World} (hw : Region.wanted o (yielded ops a.tmps) = true) {v : Value} (hr : (execOp a.eval o).run P w = .ok (.value v) w') (h : wpList P ops Q rest (a.put o.dst v) w') : wpList P ops Q (o :: rest) a w := by
  unfold wpList
  rw [if_pos hw]
  left
  unfold Oper.wp
  rw [hr]
  exact h
/-- a digest out of a block of its own, under a guard -/
theorem load_dgw {ops : Array Oper} {rest : List Oper} {o : Oper} {a : Act} {w : World} {Q : Exit → Act → World → Prop} (hw : Region.wanted o (yielded ops a.tmps) = true) (x : Operand) (ho : o.op = .load 76 x)
    (g : Nat) (l : List UInt8) (hl : l.length = 32) (hx : a.eval x = .pointer (some ⟨g, 0, none⟩)) (hr : Row w g (w8 l))
    (h : wpList Tryz.prog ops Q rest (a.put o.dst (.agg (w8 l).toArray)) w) : wpList Tryz.prog ops Q (o :: rest) a w := by
  refine list_valw hw ?_ h
  have := run_load_at w g 0 l hl (fun j v hv => by rw [Nat.zero_add, hr.cell]; exact hv)
  unfold execOp
  simp only [ho, hx, Sem.run_bind, this, Result.andThen_ok, Sem.run_pure]
/-- two digests compared, under a guard -/
theorem eql_dgw {ops : Array Oper} {rest : List Oper} {o : Oper} {a : Act} {w : World} {Q : Exit → Act → World → Prop} (hw : Region.wanted o (yielded ops a.tmps) = true) (x y : Operand) (t : TypeId) (ho : o.op = .binOp .eql 76 x y t)
    (A B : List UInt8) (lA : A.length = 32) (lB : B.length = 32) (hx : a.eval x = .agg (w8 A).toArray) (hy : a.eval y = .agg (w8 B).toArray) (r : Bool) (hr : (A == B) = r)
    (h : wpList Tryz.prog ops Q rest (a.put o.dst (.bool r)) w) : wpList Tryz.prog ops Q (o :: rest) a w := by
  subst hr
  refine list_valw hw ?_ h
  have h1 := eql_dg A B lA lB w
  have h2 := run_eqGuard_agg (P := Tryz.prog) w .eql 76 x y (w8 A).toArray (w8 B).toArray (by kernel_rfl)
  unfold execOp
  simp only [ho, hx, hy, Sem.run_bind, h1, h2, Result.andThen_ok, Sem.run_pure]
theorem ownN_below {w w' : World} {B C : Nat} {e : TypeId} {z : Nat} {v : Value} {n : Nat} {xs : List Value} (h : w.ownsRow B e z v n xs) (hb : Below C w w') (hC : w.heap.size ≤ C) : w'.ownsRow B e z v n xs := by
  refine ⟨h.1, ?_⟩
  rcases h.2 with h | ⟨g, cap, cur, rfl, h1, h2, h3⟩
  · exact .inl h
  · exact .inr ⟨g, cap, cur, rfl, h1, by rw [hb.block g (Nat.lt_of_lt_of_le (Array.getElem?_eq_some_iff.1 h2).1 hC)]; exact h2, h3⟩
/-- 'string(d[:])' -/
theorem conv_dg (w : World) (g : Nat) (l : List UInt8) (hl : l.length = 32) (hr : Row w g (w8 l)) (n : Nat) :
    (convert 35 9 (.slice (some ⟨g, 0, none⟩) 32 32)).run Tryz.prog (w.drewN n) = .ok (.string (str l)) (w.drewN n) := by
  have := conv_bytes (P := Tryz.prog) (w.drewN n) 35 9 5 g 0 32 l Tryz.underlying35 Tryz.underlying5 Tryz.underlying9 (hr.drewN n).bytes
  rw [hl] at this
  exact this
theorem run_build_32 (w : World) (a0 a1 a2 a3 a4 a5 a6 a7 a8 a9 a10 a11 a12 a13 a14 a15 a16 a17 a18 a19 a20 a21 a22 a23 a24 a25 a26 a27 a28 a29 a30 a31 : UInt8) : (Instr.buildSlice 110 1 #[(0, .agg (w8 [a0, a1, a2, a3, a4, a5, a6, a7, a8, a9, a10, a11, a12, a13, a14, a15, a16, a17, a18, a19, a20, a21, a22, a23, a24, a25, a26, a27, a28, a29, a30, a31]).toArray)]).run Tryz.prog w = .ok (.slice (some ⟨w.heap.size, 0, none⟩) 1 1) (w.alloc (.cells (w8 [a0, a1, a2, a3, a4, a5, a6, a7, a8, a9, a10, a11, a12, a13, a14, a15, a16, a17, a18, a19, a20, a21, a22, a23, a24, a25, a26, a27, a28, a29, a30, a31]).toArray 76)) := by kernel_rfl
/-- '[]Digest{d}' -/
theorem run_build_dg (w : World) (l : List UInt8) (hl : l.length = 32) :
    (Instr.buildSlice 110 1 #[(0, .agg (w8 l).toArray)]).run Tryz.prog w = .ok (.slice (some ⟨w.heap.size, 0, none⟩) 1 1) (w.alloc (.cells (w8 l).toArray 76)) :=
  match l, hl with
  | [a0, a1, a2, a3, a4, a5, a6, a7, a8, a9, a10, a11, a12, a13, a14, a15, a16, a17, a18, a19, a20, a21, a22, a23, a24, a25, a26, a27, a28, a29, a30, a31], _ => run_build_32 w a0 a1 a2 a3 a4 a5 a6 a7 a8 a9 a10 a11 a12 a13 a14 a15 a16 a17 a18 a19 a20 a21 a22 a23 a24 a25 a26 a27 a28 a29 a30 a31
theorem build_arm {ops : Array Oper} {rest : List Oper} {o : Oper} {a : Act} {w : World} {Q : Exit → Act → World → Prop} (hgd : o.guard = none) (x : Operand) (ho : o.op = .buildSlice 110 1 #[(0, x)])
    (l : List UInt8) (hl : l.length = 32) (hx : a.eval x = .agg (w8 l).toArray)
    (h : wpList Tryz.prog ops Q rest (a.put o.dst (.slice (some ⟨w.heap.size, 0, none⟩) 1 1)) (w.alloc (.cells (w8 l).toArray 76))) : wpList Tryz.prog ops Q (o :: rest) a w := by
  refine list_val hgd ?_ h
  have := run_build_dg w l hl
  unfold execOp
  simp only [ho, List.map_toArray, List.map_cons, List.map_nil, hx, Sem.run_bind, this, Result.andThen_ok, Sem.run_pure]
/-- a digest in a named result, and another result -/
theorem results_dg2 {fn : Func} {p u : Tmp} (h : fn.results = #[.cell p 76, .tmp u]) (tmps : Array Value) (w : World) (g : Nat) (l : List UInt8) (hl : l.length = 32) (v : Value)
    (hp : tmps.getD p undef = .pointer (some ⟨g, 0, none⟩)) (hu : tmps.getD u undef = v) (hr : Row w g (w8 l)) : (results fn tmps).run Tryz.prog w = .ok (.tuple #[.agg (w8 l).toArray, v]) w := by
  have h2 : (loadVar 76 ⟨g, 0, none⟩).run Tryz.prog w = .ok (.agg (w8 l).toArray) w :=
    run_loadVar_mid w g 0 _ (w8 l) _ (fun j v hv => by rw [Nat.zero_add, hr.cell]; exact hv) Tryz.underlying76 rfl (by rw [sizeDg, w8_length, hl])
  have hp' : tmps[p]?.getD undef = .pointer (some ⟨g, 0, none⟩) := by simpa using hp
  have hu' : tmps[u]?.getD undef = v := by simpa using hu
  unfold results
  rw [h]
  simp [asAddr, hp', hu', h2]
def sLen : Value → Nat
  | .slice _ n _ => n
  | _ => 0
/-- the bool in a slot -/
def bOf : Value → Bool
  | .bool b => b
  | _ => false
theorem run_loadV (w : World) (g off : Nat) (l : List UInt8) (hl : l.length = 32) (hr : w.rangeAt g off (w8 l)) :
    (loadVar 76 ⟨g, off, none⟩).run Tryz.prog w = .ok (.agg (w8 l).toArray) w :=
  run_loadVar_mid w g off _ (w8 l) _ hr Tryz.underlying76 rfl (by rw [sizeDg, w8_length, hl])
end Go.Proofs.YtlpcjiollnnmgabGreatDoor
