/-
  THE WALK OF relay.Root.
-/
import Derived.Test.YtlpcjiollnnmgabGreatDoorHRoot
import Derived.Laws.IdiomCopy
namespace Go.Proofs.YtlpcjiollnnmgabGreatDoor
open Go.RowKit Nums
theorem Row.setCells {g : Nat} : ∀ (vs : List Value) (o : Nat) (w : World) (l : List Value), Row w g l → o + vs.length ≤ l.length → Row (w.setCells g o vs) g (l.take o ++ vs ++ l.drop (o + vs.length))
  | [], o, w, l, h, _ => by rw [World.setCells]; simpa using h
  | v :: vs, o, w, l, h, hl => by
    rw [List.length_cons] at hl
    have ih := Row.setCells vs (o + 1) _ _ (h.set o v) (by rw [List.length_set]; omega)
    rw [World.setCells]
    have e1 : (l.set o v).take (o + 1) = l.take o ++ [v] := by
      rw [List.take_set, List.take_succ_eq_append_getElem (show o < l.length by omega), List.set_append_right _ _ (by simp; omega)]
      have : (l.take o).length = o := by simp; omega
      rw [this, Nat.sub_self]; rfl
    have e2 : (l.set o v).drop (o + 1 + vs.length) = l.drop (o + (v :: vs).length) := by
      rw [List.drop_set_of_lt (by omega), List.length_cons, show o + 1 + vs.length = o + (vs.length + 1) by omega]
    rw [e1, e2] at ih
    simpa using ih
/-- 'copy(d[:], s)' -/
theorem copy_str {P : Program} (w : World) (dT sT ty e : TypeId) (g c : Nat) (l : List UInt8) (hu : P.underlying dT = some (.slice e)) (hs : (P.info? e).map (·.size) = some 1) (hr : Row w g (w8 (List.replicate 32 0))) :
    (Builtin.copy_ #[dT, sT] ty #[.slice (some ⟨g, 0, none⟩) 32 c, .string (str l)]).run P w = .ok (.int .i64 ((min l.length 32 : Nat) : Int)) (w.setCells g 0 (w8 (l.take 32))) := by
  have hlen : (w8 (l.take 32)).length = min l.length 32 := by rw [w8_length, List.length_take, Nat.min_comm]
  have hst := run_storeCells_cells (P := P) g 0 (w8 (l.take 32)) 0 w (fun j hj => by
    rw [hlen] at hj
    simp only [Nat.zero_add]
    rw [hr.cell, w8_get _ _ (by simp; omega)]; rfl) (fun j _ => hr.free _) (w8_one _)
  cases hq : P.info? e with
  | none => simp [hq] at hs
  | some i =>
    have hmin : l.take (Nat.min l.length 32) = l.take 32 := by
      by_cases h : l.length ≤ 32
      · rw [show Nat.min l.length 32 = l.length from Nat.min_eq_left h, List.take_of_length_le (Nat.le_refl _), List.take_of_length_le h]
      · rw [show Nat.min l.length 32 = 32 from Nat.min_eq_right (by omega)]
    have hcells : List.take ((str l).size.min 32) (List.map (fun b => Value.int .u8 (b.toNat : Nat)) (str l).data.toList) = w8 (l.take 32) := by
      rw [str_size, ← List.map_take]
      show List.map _ (List.take _ l) = _
      rw [hmin]; rfl
    simp [Builtin.copy_, Builtin.lenOf, Builtin.firstCells, Sem.run_bind, run_underlying hu, sizeOf, typeInfo, hq, Sem.run_pure, Result.andThen_ok, goInt]
    rw [hcells, hst, str_size]
    rfl
theorem Keep.setCells {g : Nat} {w : World} : ∀ (vs : List Value) (o : Nat) (w' : World), Keep (fun k => k = g) w w' → Keep (fun k => k = g) w (w'.setCells g o vs)
  | [], _, _, h => h
  | v :: vs, o, w', h => by rw [World.setCells]; exact Keep.setCells vs (o + 1) _ (h.set ⟨g, o, none⟩ v rfl)
/-- 'copy(d[:], s)', as an operation -/
theorem copy_arm {ops : Array Oper} {rest : List Oper} {o : Oper} {a : Act} {w : World} {Q : Exit → Act → World → Prop} (hgd : o.guard = none) (x y : Operand) (ho : o.op = .call { callee := .builtin .copy, args := #[x, y], argTypes := #[35, 9] })
    (g c : Nat) (l : List UInt8) (hx : a.eval x = .slice (some ⟨g, 0, none⟩) 32 c) (hy : a.eval y = .string (str l)) (hr : Row w g (w8 (List.replicate 32 0)))
    (h : ∀ w', (l.length = 32 → Row w' g (w8 l)) → Keep (fun k => k = g) w w' → wpList Tryz.prog ops Q rest (a.put o.dst (.int .i64 ((min l.length 32 : Nat) : Int))) w') : wpList Tryz.prog ops Q (o :: rest) a w := by
  have hc := copy_str (P := Tryz.prog) w 35 9 o.type 5 g c l Tryz.underlying35 (by kernel_rfl) hr
  refine list_val hgd ?_ (h (w.setCells g 0 (w8 (l.take 32))) (fun hl => ?_) (Keep.setCells _ _ _ (Keep.refl _ w)))
  · unfold execOp
    simp only [ho, resolve, invoke, builtin, List.map_toArray, List.map_cons, List.map_nil, hx, hy, Sem.run_bind, Sem.run_pure, Result.andThen_ok, hc]
  · have := Row.setCells (w8 (l.take 32)) 0 w _ hr (by rw [w8_length, w8_length, List.length_take, hl]; simp)
    rw [List.take_of_length_le (by omega)] at this
    rw [List.take_of_length_le (by omega)]
    simpa [w8_length, hl, w8] using this
/-- are these digests? -/
def Mk.fit (ss : List (List UInt8)) : Bool := decide (0 < ss.length) && ss.all fun s => s.length == 32
def Mk.answer (ss : List (List UInt8)) : Value :=
  if Mk.fit ss then .tuple #[.string (str (Mk.root ss false).1), .bool (Mk.root ss false).2, .int .i64 0] else .tuple #[.string (str []), .bool false, .int .i64 3]
/-- a slice of texts, wherever it lies -/
def Texts (w : World) (v : Value) (ss : List (List UInt8)) : Prop :=
  (∃ a c, v = .slice a 0 c ∧ ss = []) ∨ ∃ b o c, v = .slice (some ⟨b, o, none⟩) ss.length c ∧ b < w.heap.size ∧ Parts w b o ss
theorem Texts.below {B : Nat} {v : Value} {ss : List (List UInt8)} {w w' : World} (h : Texts w v ss) (hb : Below B w w') (hB : w.heap.size ≤ B) : Texts w' v ss := by
  rcases h with h | ⟨b, o, c, h1, h2, h3⟩
  · exact .inl h
  · exact .inr ⟨b, o, c, h1, Nat.lt_of_lt_of_le h2 hb.size, h3.below hb (Nat.lt_of_lt_of_le h2 hB)⟩
theorem Mk.root_len (ss : List (List UInt8)) (h : All32 ss) (hn : 0 < ss.length) : (Mk.root ss false).1.length = 32 := by
  have : ∀ (n : Nat) (l : List (List UInt8)) (m : Bool), All32 l → 0 < l.length → (Mk.run n l m).1.length = 32 := by
    intro n
    induction n with
    | zero => intro l m h hn; cases l with | nil => simp at hn | cons x l => exact h x List.mem_cons_self
    | succ n ih =>
      intro l m h hn
      rw [Mk.run]
      split
      · cases l with | nil => simp at hn | cons x l => exact h x List.mem_cons_self
      · exact ih _ _ (Mk.up_sizes l) (by rw [Mk.up_length]; omega)
  exact this _ _ _ h hn
theorem own_lenN {w : World} {B : Nat} {e : TypeId} {z : Nat} {v : Value} {n : Nat} {xs : List Value} (h : w.ownsRow B e z v n xs) : ∃ a cap, v = .slice a n cap := by
  obtain ⟨_, ⟨rfl, rfl⟩ | ⟨g, cap, cur, rfl, _⟩⟩ := h
  · exact ⟨none, 0, rfl⟩
  · exact ⟨_, cap, rfl⟩
set_option maxRecDepth 100000 in
set_option maxHeartbeats 4000000 in
theorem rroot_calls (v : Value) (ss : List (List UInt8)) (w : World) (hT : Tabs w) (hv : Texts w v ss) (hm : ss.length ≤ 1000) :
    Calls Tryz.prog 24 #[v] w fun e w' => e = .returned (Mk.answer ss) ∧ Below w.heap.size w w' := by
  obtain ⟨i0, hi0, hz0, hz1, hz2⟩ := info_parts infoDg3
  have h1 := hT.lt
  have HT := Lib.hid hT
  have HI := Lib.hid hi0
  clear hT hi0
  rcases hv with ⟨a0, c0, rfl, rfl⟩ | ⟨b0, o0, c, rfl, had, hcs⟩
  · go_enter Tryz.func24, Tryz.ntmps24
    go_wp2_with fail
    go_loopw [5, 13] (fun lv iv wr => lv = .slice none 0 0 ∧ iv = .int .i64 0 ∧ wr = w) (fun _ _ _ => 0)
    case atStart => exact ⟨rfl, rfl, rfl⟩
    case round =>
      obtain ⟨rfl, rfl, rfl⟩ := hrel
      go_wp2_with fail
      refine bodyPost_ret (results_tmp3 rfl _ _ _) rfl ?_
      exact ⟨rfl, Below.refl _ _⟩
  · have HC := Lib.hid hcs
    clear hcs
    go_enter Tryz.func24, Tryz.ntmps24
    go_wp2_with fail
    go_loopw [5, 13] (fun lv iv wr => ∃ i : Nat, i ≤ ss.length ∧ iv = .int .i64 i ∧ All32 (ss.take i) ∧ wr.ownsRow w.heap.size 76 32 lv i (w8 (ss.take i).flatten) ∧ Below w.heap.size w wr) (fun _ iv _ => ss.length - (intOf iv).toNat)
    case atStart => exact ⟨0, by omega, rfl, fun _ h => by simp at h, World.ownsRow_nil _ _ _ _, Below.refl _ _⟩
    case round =>
      obtain ⟨i, hi, rfl, h32, hown, hB⟩ := hrel
      have B1 := Lib.hid h32
      have B2 := Lib.hid hown
      have B3 := Lib.hid hB
      have hBs := hB.size
      by_cases hlt : i < ss.length
      · have cs : wr.cell? ⟨b0, o0 + i, none⟩ = some (.string (str (ss.getD i []))) := (HC.out.below hB had) i hlt
        have htk : ss.take (i + 1) = ss.take i ++ [ss.getD i []] := by
          rw [List.take_succ_eq_append_getElem hlt, List.getD_eq_getElem?_getD, List.getElem?_eq_getElem hlt]; rfl
        have hmem : ss.getD i [] ∈ ss := by rw [List.getD_eq_getElem?_getD, List.getElem?_eq_getElem hlt]; exact List.getElem_mem hlt
        have B4 := Lib.hid htk
        have B5 := Lib.hid hmem
        clear h32 hown hB htk hmem
        generalize ss.getD i [] = s at cs B4 B5
        have hRn := Row.new wr (w8 (List.replicate 32 0)) 76
        have hBn := (Below.refl wr.heap.size wr).alloc (Nat.le_refl _) (.cells (w8 (List.replicate 32 0)).toArray 76)
        rw [Tryz.zeroDg] at hRn hBn
        have p0 : (i : Int) < (ss.length : Int) := by omega
        have hfitno : s.length ≠ 32 → Mk.answer ss = .tuple #[.string (str []), .bool false, .int .i64 3] := fun hne => by
          unfold Mk.answer
          rw [if_neg]
          intro hf
          unfold Mk.fit at hf
          simp only [Bool.and_eq_true, List.all_eq_true, beq_iff_eq] at hf
          exact hne (hf.2 s B5.out)
        have B6 := Lib.hid hfitno
        clear hfitno
        by_cases hs : s.length = 32
        · go_wp2_with (first | (refine copy_arm (o := ⟨some 19, _, _, _, _, _⟩) rfl _ _ rfl wr.heap.size 32 s rfl rfl hRn ?_; intro w2 hrow2 hk2) | (refine load_dg (o := ⟨some 27, _, _, _, _, _⟩) rfl _ rfl wr.heap.size s hs rfl (hrow2 hs) ?_) | (refine build_arm (o := ⟨some 28, _, _, _, _, _⟩) rfl _ rfl s hs rfl ?_) | (at_builtin; have hb2 : Below wr.heap.size wr w2 := hBn.trans (hk2.below _ (by simp) (fun k hk he => by have he' : k = wr.heap.size := he; omega)); have hso := hb2.size; have ow2 := (ownN_below B2.out hb2 (Nat.le_refl _)).alloc (.cells (w8 s).toArray 76); refine wpList_append_own _ rfl _ _ 110 rfl w.heap.size 76 i0 (.agg (w8 (List.replicate 32 0)).toArray) 32 32 Tryz.underlying110 HI.out hz0 hz1 hz2 rfl (by decide) _ _ _ rfl ow2 ⟨w2.heap.size, 0, none⟩ 1 1 (w8 s) rfl (by rw [w8_length, hs]) (fun j u hu => by rw [Addr.add_lit, Nat.zero_add, (Row.new w2 _ _).cell]; exact hu) (w8_one _) (by unfold maxLen; omega) (by omega) (by rw [World.size_alloc]; omega) ?_; intro uv2 w3 hown3 hgr3 _))
          have hb3 := ((B3.out.trans (hb2.mono hBs)).alloc (by omega) (.cells (w8 s).toArray 76)).trans ((Below.refl w.heap.size _).grown hgr3 (by rw [World.size_alloc]; omega) (fun k hk => (ow2.lt k hk).1))
          rw [flat_snoc, ← B4.out] at hown3
          have C1 := Lib.hid hown3
          have C2 := Lib.hid hb3
          have C3 : Hid (All32 (ss.take (i + 1))) := Lib.hid (by rw [B4.out]; exact all32_snoc B1.out hs)
          clear hown3 hgr3 hb3 hrow2 hk2 hb2 ow2
          go_roundw
          case rel => first | exact ⟨i + 1, by omega, by go_num, C3.out, C1.out, C2.out⟩ | ((repeat (apply Exists.intro)); (first | refine And.intro ?_ rfl | refine And.intro ?_ ⟨rfl, rfl⟩); exact ⟨i + 1, by omega, by go_num, C3.out, C1.out, C2.out⟩)
          case measure => simp [intOf]; omega
        · by_cases hs2 : s.length < 32
          · have hmn : min s.length 32 = s.length := Nat.min_eq_left (by omega)
            have hne : ((s.length : Int) != 32) = true := by rw [bne_iff_ne]; omega
            go_wp2_with (refine copy_arm (o := ⟨some 19, _, _, _, _, _⟩) rfl _ _ rfl wr.heap.size 32 s rfl rfl hRn ?_; intro w2 hrow2 hk2)
            refine bodyPost_ret (results_tmp3 rfl _ _ _) rfl ?_
            exact ⟨by rw [B6.out hs]; rfl, B3.out.trans ((hBn.trans (hk2.below _ (by simp) (fun k hk he => by have he' : k = wr.heap.size := he; omega))).mono hBs)⟩
          · have hmn : min s.length 32 = 32 := Nat.min_eq_right (by omega)
            have hne : ((s.length : Int) != 32) = true := by rw [bne_iff_ne]; omega
            go_wp2_with (refine copy_arm (o := ⟨some 19, _, _, _, _, _⟩) rfl _ _ rfl wr.heap.size 32 s rfl rfl hRn ?_; intro w2 hrow2 hk2)
            refine bodyPost_ret (results_tmp3 rfl _ _ _) rfl ?_
            exact ⟨by rw [B6.out hs]; rfl, B3.out.trans ((hBn.trans (hk2.below _ (by simp) (fun k hk he => by have he' : k = wr.heap.size := he; omega))).mono hBs)⟩
      · obtain rfl : i = ss.length := by omega
        rw [List.take_of_length_le (Nat.le_refl _)] at h32 hown
        by_cases h0 : ss.length = 0
        · have hans : Mk.answer ss = .tuple #[.string (str []), .bool false, .int .i64 3] := by unfold Mk.answer Mk.fit; rw [h0]; rfl
          have C1 := Lib.hid hans
          obtain ⟨a5, c5, rfl⟩ := own_lenN hown
          clear h32 hown hB hans B1 B2
          rw [h0]
          go_wp2_with fail
          refine bodyPost_ret (results_tmp3 rfl _ _ _) rfl ?_
          exact ⟨by rw [C1.out]; rfl, B3.out⟩
        · obtain ⟨g, k, rfl, hg, hgs, hdg⟩ := own_digs hown (by omega) rfl h32
          have hans : Mk.answer ss = .tuple #[.string (str (Mk.root ss false).1), .bool (Mk.root ss false).2, .int .i64 0] := by
            unfold Mk.answer
            rw [if_pos]
            unfold Mk.fit
            simp only [Bool.and_eq_true, List.all_eq_true, beq_iff_eq]
            exact ⟨by simp; omega, h32⟩
          have lD := Mk.root_len ss h32 (by omega)
          have C1 := Lib.hid hans
          have C2 := Lib.hid (hroot_calls g k ss wr (HT.out.below hB (by omega)) hgs hdg h32 (by omega) hm)
          have p0 : ¬ ((ss.length : Int) = 0) := by omega
          clear h32 hown hB hans hdg B1 B2
          generalize Mk.root ss false = R at C1 C2 lD
          obtain ⟨r1, r2⟩ := R
          go_wp2_with fail
          refine C2.out.mono ?_
          rintro e w4 ⟨rfl, hb4⟩
          have hz4 := hb4.size
          have hRn := Row.new w4 (w8 (List.replicate 32 0)) 76
          have hBn := (Below.refl w4.heap.size w4).alloc (Nat.le_refl _) (.cells (w8 (List.replicate 32 0)).toArray 76)
          rw [Tryz.zeroDg] at hRn hBn
          have hRr := hRn.setRow (w8 r1)
          have hBr := below_setRow hBn (Nat.le_refl _) (w8 r1).toArray
          have C3 := Lib.hid ((B3.out.trans (hb4.mono hBs)).trans (hBr.mono (by omega)))
          clear hb4 hBn hBr
          go_wp2_with (first | (with_reducible refine store_dg (o := ⟨none, _, _, _, _, _⟩) rfl _ _ rfl w4.heap.size (List.replicate 32 0) r1 rfl lD rfl rfl hRn ?_) | (with_reducible refine conv_arm (o := ⟨some 40, _, _, _, _, _⟩) rfl _ _ _ _ rfl w4.heap.size 0 32 32 r1 lD rfl Tryz.underlying35 Tryz.underlying5 Tryz.underlying9 hRr.bytes ?_))
          refine bodyPost_ret (results_tmp3 rfl _ _ _) rfl ?_
          exact ⟨by rw [C1.out]; rfl, C3.out⟩
end Go.Proofs.YtlpcjiollnnmgabGreatDoor
