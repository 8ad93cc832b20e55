/-
  THE WALKS OF THE REFERENCE's turn, times, above, root, primes.
-/
import Derived.Test.YtlpcjiollnnmgabGreatDoorShaTop
import Derived.Test.YtlpcjiollnnmgabGreatDoorTab
namespace Go.Proofs.YtlpcjiollnnmgabGreatDoor
open Go.RowKit Nums
/-- the numbers l -/
def wi (l : List Nat) : List Value := l.map fun (n : Nat) => Value.int .i64 (n : Int)
theorem wi_length (l : List Nat) : (wi l).length = l.length := by simp [wi]
theorem wi_get (l : List Nat) (i : Nat) (h : i < l.length) : (wi l)[i]? = some (.int .i64 (Tab.dg l i : Nat)) := by
  unfold wi Tab.dg; rw [List.getElem?_map, List.getD_eq_getElem?_getD, List.getElem?_eq_getElem h]; rfl
theorem wi_set (l : List Nat) (i n : Nat) : (wi l).set i (.int .i64 (n : Int)) = wi (l.set i n) := by
  unfold wi; rw [List.map_set]
theorem wi_one (l : List Nat) : ∀ u ∈ wi l, u.oneCell' = true := by
  intro u hu; obtain ⟨x, _, rfl⟩ := List.mem_map.1 hu; rfl
theorem Row.num {w : World} {b : Nat} {l : List Nat} (h : Row w b (wi l)) (i : Nat) (hi : i < l.length) : w.cell? ⟨b, i, none⟩ = some (.int .i64 (Tab.dg l i : Nat)) := by
  rw [h.cell, wi_get l i hi]
/-- the numbers of a slice at a block's head -/
def IC (w : World) (b : Nat) (l : List Nat) : Prop := ∀ j, j < l.length → w.cell? ⟨b, j, none⟩ = some (.int .i64 (Tab.dg l j : Nat))
theorem Row.ic {w : World} {b : Nat} {l : List Nat} (h : Row w b (wi l)) : IC w b l := fun j hj => h.num j hj
theorem IC.below {B b : Nat} {l : List Nat} {w w' : World} (h : IC w b l) (hb : Below B w w') (hB : b < B) : IC w' b l := fun j hj => by
  rw [← h j hj]; exact World.cell?_of_block (w := w) (hb.block b hB)
theorem Tryz.info3 : (Tryz.prog.info? 3).map (fun i => (i.zero, i.size, i.bytes)) = some (some (.int .i64 0), 1, 8) := by kernel_rfl
theorem own_open {w : World} {B : Nat} {e : TypeId} {v : Value} {n : Nat} {xs : List Value} (h : w.ownsRow B e 1 v n xs) (hn : 0 < n) :
    ∃ g cap, v = .slice (some ⟨g, 0, none⟩) n cap ∧ B ≤ g ∧ g < w.heap.size ∧ (∀ j, j < n → w.cell? ⟨g, j, none⟩ = xs[j]?) ∧ (∀ j, w.frozen? ⟨g, j, none⟩ = false) := by
  obtain ⟨hl, ⟨_, h0⟩ | ⟨g, cap, cur, rfl, hb, hg, _, _, _, ht⟩⟩ := h
  · omega
  · refine ⟨g, cap, rfl, hb, (Array.getElem?_eq_some_iff.1 hg).1, fun j hj => ?_, fun j => by simp [World.frozen?, hg]⟩
    rw [← ht, Nat.mul_one, List.getElem?_take_of_lt hj]
    simp [World.cell?, hg]
theorem own_row {w : World} {B : Nat} {e : TypeId} {g n : Nat} {xs : List Value} (h : w.ownsRow B e 1 (.slice (some ⟨g, 0, none⟩) n n) n xs) : Row w g xs := by
  obtain ⟨hl, ⟨h0, _⟩ | ⟨g', cap, cur, he, _, hg, _, _, hc, ht⟩⟩ := h
  · cases h0
  · cases he
    refine ⟨e, ?_⟩
    rw [hg, ← ht, List.take_of_length_le (by rw [Array.length_toList]; omega), Array.toArray_toList]
theorem made_ints (n : Nat) : (madeCells (Value.int .i64 0).cells (n * 1)).toList = wi (List.replicate n 0) := by
  unfold madeCells wi
  have h : ∀ x : Nat, (Value.int IntKind.i64 0).cells[x % (Value.int IntKind.i64 0).cells.size]! = Value.int .i64 0 := fun x => by
    show (#[Value.int .i64 0])[x % 1]! = _
    rw [Nat.mod_one]; rfl
  simp only [h]
  rw [Array.toList_map, Array.toList_range, Nat.mul_one, List.map_const', List.length_range]; simp
set_option maxRecDepth 100000 in
set_option maxHeartbeats 2000000 in
theorem times_calls (ba ca bb cb : Nat) (la lb : List Nat) (w : World) (ha : IC w ba la) (hb : IC w bb lb) (hba : ba < w.heap.size) (hbb : bb < w.heap.size)
    (hla : ∀ k, Tab.dg la k < 65536) (hlb : ∀ k, Tab.dg lb k < 65536) (hna : la.length ≤ 100) (hnb : lb.length ≤ 100) :
    Calls Tryz.prog 97 #[.slice (some ⟨ba, 0, none⟩) la.length ca, .slice (some ⟨bb, 0, none⟩) lb.length cb] w fun e w' =>
      ∃ g, e = .returned (.slice (some ⟨g, 0, none⟩) (la.length + lb.length) (la.length + lb.length)) ∧ Row w' g (wi (Tab.times la lb)) ∧ w.heap.size ≤ g ∧ Below w.heap.size w w' := by
  obtain ⟨i0, hi0, hz0, hz1, hz2⟩ := info_parts Tryz.info3
  have HA := Lib.hid ha
  have HB := Lib.hid hb
  clear ha hb
  have e16 : ((la.length : Int) + (lb.length : Int)) = ((la.length + lb.length : Nat) : Int) := by omega
  have e17 : i0.bytes * (la.length + lb.length) ≤ 281474976710656 := by rw [hz2]; omega
  have e18 : la.length + lb.length ≤ maxLen := by unfold maxLen; omega
  have E16 := Lib.hid e16
  clear e16
  go_enter Tryz.func97, Tryz.ntmps97
  go_wp2_with (at_make; refine wpList_make_full _ (o := ⟨some 17, _, _, _, _, _⟩) rfl _ _ _ rfl w.heap.size 3 i0 (.int .i64 0) 1 Tryz.underlying25 hi0 hz0 hz1 .i64 .i64 _ _ (la.length + lb.length) rfl rfl E16.out E16.out e17 e18 (Nat.le_refl _) ?_; intro w1 hown1 hgr1)
  have hR := own_row hown1
  rw [made_ints] at hR
  have hB : Below w.heap.size w w1 := (Below.refl _ _).grown hgr1 (Nat.le_refl _) (fun k hk => by cases hk)
  clear hown1 hgr1 e17 e18
  have A1 := Lib.hid hR
  have A2 := Lib.hid hB
  clear hR hB
  go_loopw [20] (fun v wr => ∃ (i : Nat) (out : List Nat), i ≤ la.length ∧ v = .int .i64 i ∧ Row wr w.heap.size (wi out) ∧ Tab.times la lb = Tab.outer lb (la.drop i) i out ∧ Tab.Outs out (la.length + lb.length) (i + lb.length) ∧ Below w.heap.size w wr) (fun v _ => la.length - (intOf v).toNat)
  case atStart => exact ⟨0, _, by omega, rfl, A1.out, rfl, Tab.zeros_outs _ _, A2.out⟩
  case round =>
    obtain ⟨i, out, hi, rfl, hR, hT, hO, hB⟩ := hrel
    by_cases hlt : i < la.length
    · have cx := (HA.out.below hB hba) i hlt
      rw [Tab.dg_drop la i hlt, Tab.outer] at hT
      have hx := hla i
      obtain ⟨x, hxe⟩ : ∃ x, x = Tab.dg la i := ⟨_, rfl⟩
      rw [← hxe] at cx hT hx
      have p0 : (0 : Int) ≤ (x : Int) := by omega
      have p1 : (x : Int) < 65536 := by omega
      have B1 := Lib.hid hR
      have B2 := Lib.hid hT
      have B3 := Lib.hid hO
      have B4 := Lib.hid hB
      clear hxe hR hT hO hB hx
      obtain ⟨wo, rfl⟩ : ∃ wo : World, wo = wr := ⟨_, rfl⟩
      go_wp2_with fail
      go_loopw [8, 27] (fun cv v wr => ∃ (j : Nat) (o2 : List Nat) (c : Nat), j ≤ lb.length ∧ v = .int .i64 j ∧ cv = .int .i64 c ∧ c < 65536 ∧ Row wr w.heap.size (wi o2) ∧ Tab.inner x i lb 0 out 0 = Tab.inner x i (lb.drop j) j o2 c ∧ Tab.Outs o2 (la.length + lb.length) (i + lb.length) ∧ Below w.heap.size w wr) (fun _ v _ => lb.length - (intOf v).toNat)
      case atStart => exact ⟨0, out, 0, by omega, rfl, rfl, by omega, B1.out, rfl, B3.out, B4.out⟩
      case round =>
        obtain ⟨j, o2, c, hj, rfl, rfl, hc, hR, hN, hO, hB⟩ := hrel
        by_cases hlj : j < lb.length
        · have cy := (HB.out.below hB hbb) j hlj
          rw [Tab.dg_drop lb j hlj, Tab.inner] at hN
          have hy := hlb j
          obtain ⟨y, hye⟩ : ∃ y, y = Tab.dg lb j := ⟨_, rfl⟩
          rw [← hye] at cy hN hy
          have co := hR.num (i + j) (by rw [hO.len]; omega)
          have zo := hR.free (i + j)
          have ho := hO.lt (i + j)
          obtain ⟨u, hue⟩ : ∃ u, u = Tab.dg o2 (i + j) := ⟨_, rfl⟩
          rw [← hue] at co hN ho
          have hxy := Tab.mul_lt (show x < 65536 by omega) hy
          have q1 : (0 : Int) ≤ (x : Int) * (y : Int) := by rw [← Int.natCast_mul]; omega
          have q2 : (x : Int) * (y : Int) ≤ 4294836225 := by rw [← Int.natCast_mul]; omega
          have q3 : (u : Int) < 65536 := by omega
          have q4 : (c : Int) < 65536 := by omega
          have q5 : (y : Int) < 65536 := by omega
          have q6 : (i : Int) + (j : Int) < ((la.length + lb.length : Nat) : Int) := by omega
          have e1 : (((u + x * y + c) % 65536 : Nat) : Int) = ((u : Int) + (x : Int) * (y : Int) + (c : Int)) % 65536 := by omega
          have e2 : (((u + x * y + c) / 65536 : Nat) : Int) = ((u : Int) + (x : Int) * (y : Int) + (c : Int)) / 65536 := by omega
          have C1 := Lib.hid (hR.set (i + j) (.int .i64 (((u + x * y + c) % 65536 : Nat) : Int)))
          have C2 := Lib.hid hN
          have C3 := Lib.hid (hO.set (i := i + j) (v := (u + x * y + c) % 65536) (by omega) (by omega))
          have C4 := Lib.hid (hB.setCell (p := ⟨w.heap.size, i + j, none⟩) (Nat.le_refl _) (.int .i64 (((u + x * y + c) % 65536 : Nat) : Int)))
          have C5 := Lib.hid e1
          have C6 := Lib.hid e2
          have hcb : (u + x * y + c) / 65536 < 65536 := by omega
          clear hye hue hR hN hO hB e1 e2 hy ho hc
          go_wp2_with fail
          rw [C5.out] at C1 C4
          refine ⟨⟨j + 1, _, _, by omega, by go_num, by rw [C6.out], hcb, ?_, C2.out, C3.out, C4.out⟩, by simp [intOf]; omega⟩
          have := C1.out
          rw [← C5.out, wi_set] at this
          rw [← C5.out]
          exact this
        · obtain rfl : j = lb.length := by omega
          rw [List.drop_of_length_le (Nat.le_refl _), Tab.inner] at hN
          have hT := B2.out
          rw [hN] at hT
          have co := hR.num (i + lb.length) (by rw [hO.len]; omega)
          have zo := hR.free (i + lb.length)
          have ho := hO.zero (i + lb.length) (Nat.le_refl _)
          rw [ho] at co
          simp only [ho, Nat.zero_add] at hT
          have q1 : (0 : Int) ≤ (i : Int) + (lb.length : Int) := by omega
          have q2 : (i : Int) + (lb.length : Int) < ((la.length + lb.length : Nat) : Int) := by omega
          have q4 : (c : Int) < 65536 := by omega
          have C1 := Lib.hid (hR.set (i + lb.length) (.int .i64 (c : Int)))
          have C2 := Lib.hid hT
          have C3 := Lib.hid ((hO.mono (show i + lb.length ≤ i + 1 + lb.length by omega)).set (i := i + lb.length) (v := c) (by omega) hc)
          have C4 := Lib.hid (hB.setCell (p := ⟨w.heap.size, i + lb.length, none⟩) (Nat.le_refl _) (.int .i64 (c : Int)))
          clear hR hN hT hO hB ho hc
          go_wp2_with fail
          refine ⟨⟨i + 1, _, by omega, by go_num, ?_, C2.out, C3.out, C4.out⟩, by simp [intOf]; omega⟩
          have := C1.out
          rw [wi_set] at this
          exact this
    · obtain rfl : i = la.length := by omega
      rw [List.drop_of_length_le (Nat.le_refl _), Tab.outer] at hT
      have C1 := Lib.hid hR
      have C2 := Lib.hid hT
      have C4 := Lib.hid hB
      clear hR hT hO hB
      go_wp2_with fail
      go_ret
      exact ⟨w.heap.size, rfl, by rw [C2.out]; exact C1.out, Nat.le_refl _, C4.out⟩
set_option maxRecDepth 100000 in
set_option maxHeartbeats 2000000 in
theorem above_calls (ba ca bb cb : Nat) (la lb : List Nat) (w : World) (ha : IC w ba la) (hb : IC w bb lb) (hna : la.length ≤ 100) (hnb : lb.length ≤ 100) :
    Calls Tryz.prog 98 #[.slice (some ⟨ba, 0, none⟩) la.length ca, .slice (some ⟨bb, 0, none⟩) lb.length cb] w fun e w' =>
      e = .returned (.bool (Tab.above la lb)) ∧ w = w' := by
  have HA := Lib.hid ha
  have HB := Lib.hid hb
  clear ha hb
  have hAB1 : la.length < lb.length → Hid (Tab.above la lb = Tab.aboveN la lb lb.length) := fun h => Lib.hid (by unfold Tab.above; rw [Nat.max_eq_right (by omega)])
  have hAB2 : ¬ la.length < lb.length → Hid (Tab.above la lb = Tab.aboveN la lb la.length) := fun h => Lib.hid (by unfold Tab.above; rw [Nat.max_eq_left (by omega)])
  by_cases hle : la.length < lb.length
  all_goals first | (have hAB := hAB1 hle) | (have hAB := hAB2 hle)
  all_goals
    clear hAB1 hAB2
    go_enter Tryz.func98, Tryz.ntmps98
    go_wp2_with fail
    clear hle
    go_loop [5] (fun v => ∃ k : Nat, k ≤ 100 ∧ v = .int .i64 ((k : Int) - 1) ∧ Tab.above la lb = Tab.aboveN la lb k) (fun v => ((intOf v) + 1).toNat)
    case atStart => exact ⟨_, by assumption, rfl, hAB.out⟩
    case round =>
      clear hAB
      obtain ⟨k, hk, rfl, hT⟩ := hrel
      by_cases h0 : k = 0
      · subst h0
        have B1 := Lib.hid hT
        clear hT
        rw [show ((0 : Nat) : Int) - 1 = -1 from rfl]
        go_wp2_with fail
        go_ret
        exact ⟨by rw [B1.out]; rfl, rfl⟩
      · obtain ⟨j, rfl⟩ : ∃ j, k = j + 1 := ⟨k - 1, by omega⟩
        rw [show ((j + 1 : Nat) : Int) - 1 = (j : Int) by omega]
        rw [Tab.aboveN] at hT
        have hA := HA.out j
        have hB := HB.out j
        have hAz : la.length ≤ j → Tab.dg la j = 0 := fun h => Tab.dg_big _ _ h
        have hBz : lb.length ≤ j → Tab.dg lb j = 0 := fun h => Tab.dg_big _ _ h
        generalize Tab.dg la j = x at hT hA hAz
        generalize Tab.dg lb j = y at hT hB hBz
        have B1 := Lib.hid hT
        clear hT
        by_cases hxy : x = y
        · have hT : Tab.above la lb = Tab.aboveN la lb j := by rw [B1.out, if_pos hxy]
          subst hxy
          have C1 := Lib.hid hT
          clear hT B1
          by_cases hja : j < la.length
          · have ca1 := hA hja
            clear hA hAz
            by_cases hjb : j < lb.length
            · have cb1 := hB hjb
              clear hB hBz
              go_wp2_with fail
              go_round
              case rel => exact ⟨j, by omega, by go_num, C1.out⟩
              case measure => simp [intOf]
            · obtain rfl := hBz (by omega)
              clear hB hBz
              go_wp2_with fail
              go_round
              case rel => exact ⟨j, by omega, by go_num, C1.out⟩
              case measure => simp [intOf]
          · obtain rfl := hAz (by omega)
            clear hA hAz
            by_cases hjb : j < lb.length
            · have cb1 := hB hjb
              clear hB hBz
              go_wp2_with fail
              go_round
              case rel => exact ⟨j, by omega, by go_num, C1.out⟩
              case measure => simp [intOf]
            · clear hB hBz
              go_wp2_with fail
              go_round
              case rel => exact ⟨j, by omega, by go_num, C1.out⟩
              case measure => simp [intOf]
        · have hT : Tab.above la lb = decide (y < x) := by rw [B1.out, if_neg hxy]
          have hne : ((x : Int) != (y : Int)) = true := by rw [bne_iff_ne]; omega
          have C1 := Lib.hid hT
          clear hT B1
          by_cases hja : j < la.length
          · have ca1 := hA hja
            clear hA hAz
            by_cases hjb : j < lb.length
            · have cb1 := hB hjb
              clear hB hBz
              go_wp2_with fail
              go_ret
              exact ⟨by rw [C1.out]; simp, rfl⟩
            · obtain rfl := hBz (by omega)
              clear hB hBz
              go_wp2_with fail
              go_ret
              exact ⟨by rw [C1.out]; simp, rfl⟩
          · obtain rfl := hAz (by omega)
            clear hA hAz
            by_cases hjb : j < lb.length
            · have cb1 := hB hjb
              clear hB hBz
              go_wp2_with fail
              go_ret
              exact ⟨by rw [C1.out]; simp, rfl⟩
            · obtain rfl := hBz (by omega)
              exact absurd rfl hxy
end Go.Proofs.YtlpcjiollnnmgabGreatDoor
