/-
  THE PARTS OF relay.Encode: slices.Contains, wire.Gaps, keyOf, short.
-/
import Derived.Test.YtlpcjiollnnmgaaDoorServeW
import Derived.Test.YtlpcjiollnnmgaaDoorSipWalk3
set_option maxRecDepth 100000
namespace Go.Proofs.YtlpcjiollnnmgaaDoor
open Go.RowKit Nums
/-- an argument of type []int -/
def IntsAt (w : World) (v : Value) (al : List Int) : Prop :=
  (∃ a cap, v = .slice a 0 cap ∧ al = []) ∨ ∃ b o cap, v = .slice (some ⟨b, o, none⟩) al.length cap ∧ b < w.heap.size ∧ ∀ j, j < al.length → w.cell? ⟨b, o + j, none⟩ = some (.int .i64 (al.getD j 0))
theorem IntsAt.below {w w' : World} {v : Value} {al : List Int} {B : Nat} (h : IntsAt w v al) (hb : Below B w w') (hB : w.heap.size ≤ B) : IntsAt w' v al := by
  rcases h with h | ⟨b, o, cap, rfl, hlt, hc⟩
  · exact .inl h
  · refine .inr ⟨b, o, cap, rfl, Nat.lt_of_lt_of_le hlt hb.size, fun j hj => ?_⟩
    rw [← hc j hj]; exact World.cell?_of_block (w := w) (hb.block b (by omega))
theorem IntsAt.form {w : World} {v : Value} {al : List Int} (h : IntsAt w v al) : ∃ a cap, v = .slice a al.length cap := by
  rcases h with ⟨a, cap, rfl, rfl⟩ | ⟨b, o, cap, rfl, _⟩
  · exact ⟨a, cap, rfl⟩
  · exact ⟨_, cap, rfl⟩
theorem IntsAt.at {w : World} {a : Option Addr} {n cap : Nat} {al : List Int} (h : IntsAt w (.slice a n cap) al) (hn : 0 < al.length) : ∃ b o, a = some ⟨b, o, none⟩ ∧ b < w.heap.size ∧ ∀ j, j < al.length → w.cell? ⟨b, o + j, none⟩ = some (.int .i64 (al.getD j 0)) := by
  rcases h with ⟨a', cap', h1, rfl⟩ | ⟨b, o, cap', h1, hb, hc⟩
  · simp at hn
  · cases h1; exact ⟨b, o, rfl, hb, hc⟩
theorem index_calls (v : Value) (al : List Int) (x : Int) (w : World) (h : IntsAt w v al) (hn : al.length ≤ 9223372036854775807) :
    Calls Tryd.prog 77 #[v, .int .i64 x] w fun e w' => ∃ r : Int, e = .returned (.int .i64 r) ∧ (0 ≤ r ↔ x ∈ al) ∧ w' = w := by
  obtain ⟨a, cap, rfl⟩ := h.form
  have H := Lib.hid h
  clear h
  go_enter Tryd.func77, Tryd.ntmps77
  go_wp2_with fail
  go_loopw [5, 8] (fun jv iv wr => ∃ i : Nat, i ≤ al.length ∧ iv = .int .i64 i ∧ (∀ j, j < i → al.getD j 0 ≠ x) ∧ wr = w) (fun _ iv _ => al.length - (intOf iv).toNat)
  case atStart => exact ⟨0, by omega, rfl, fun j hj => by omega, rfl⟩
  case round =>
    obtain ⟨i, hi, rfl, hj, rfl⟩ := hrel
    have HJ := Lib.hid hj
    clear hj
    by_cases hlt : i < al.length
    · have p1 : (i : Int) < (al.length : Int) := by omega
      obtain ⟨b, o, rfl, hb, hc⟩ := H.out.at (by omega)
      have hcx := hc i hlt
      have HM := Lib.hid (show al.getD i 0 ∈ al by rw [List.getD_eq_getElem?_getD, List.getElem?_eq_getElem hlt]; exact List.getElem_mem hlt)
      obtain ⟨y, hy⟩ : ∃ y, al.getD i 0 = y := ⟨_, rfl⟩
      have HY := Lib.hid hy
      rw [hy] at hcx HM
      clear hc hy
      by_cases he : x = y
      · subst he
        go_wp2_with fail
        go_ret
        exact ⟨i, rfl, ⟨fun _ => HM.out, fun _ => by omega⟩, rfl⟩
      · have he' : (x == y) = false := by simpa using he
        go_wp2_with fail
        go_roundw
        case rel => exact ⟨i + 1, by omega, by go_num, fun j hj => by
          by_cases h : j = i
          · subst h; rw [HY.out]; exact Ne.symm he
          · exact HJ.out j (by omega), by first | trivial | rfl⟩
        case measure => simp [intOf]; omega
    · obtain rfl : i = al.length := by omega
      go_wp2_with fail
      go_ret
      refine ⟨-1, rfl, ⟨fun h => by omega, fun h => ?_⟩, rfl⟩
      obtain ⟨j, hj, he⟩ := List.getElem_of_mem h
      exact absurd (by rw [List.getD_eq_getElem?_getD, List.getElem?_eq_getElem hj]; exact he) (HJ.out j hj)
theorem contains_calls (v : Value) (al : List Int) (x : Int) (w : World) (h : IntsAt w v al) (hn : al.length ≤ 9223372036854775807) :
    Calls Tryd.prog 46 #[v, .int .i64 x] w fun e w' => e = .returned (.bool (decide (x ∈ al))) ∧ w' = w := by
  have T1 := Lib.hid (index_calls v al x w h hn)
  clear h
  go_enter Tryd.func46, Tryd.ntmps46
  go_wp2_with fail
  refine T1.out.mono ?_
  rintro e w1 ⟨r, rfl, hr, rfl⟩
  go_wp2_with fail
  go_ret
  exact ⟨rfl, rfl⟩
/-- indexes told by gaps -/
theorem gaps_take (al : List Int) (lo : Int) (i : Nat) (h : i < al.length) : En.gaps lo (al.take (i + 1)) = En.gaps lo (al.take i) ++ [Wr.sizeB (al.getD i 0 - En.last1 lo (al.take i)).toNat] := by
  rw [List.take_succ_eq_append_getElem h, En.gaps_snoc, List.getD_eq_getElem?_getD, List.getElem?_eq_getElem h]; rfl
theorem last_take (al : List Int) (lo : Int) (i : Nat) (h : i < al.length) : En.last1 lo (al.take (i + 1)) = al.getD i 0 + 1 := by
  rw [List.take_succ_eq_append_getElem h, En.last1_snoc, List.getD_eq_getElem?_getD, List.getElem?_eq_getElem h]; rfl
theorem rise_at (n : Nat) : ∀ (al : List Int) (lo : Int) (i : Nat), En.Rise n lo al → i < al.length → En.last1 lo (al.take i) ≤ al.getD i 0 ∧ al.getD i 0 < n ∧ lo ≤ En.last1 lo (al.take i)
  | [], lo, i, _, hi => by simp at hi
  | a :: al, lo, 0, h, _ => ⟨h.1, h.2.1, Int.le_refl _⟩
  | a :: al, lo, i + 1, h, hi => by
    have := rise_at n al (a + 1) i h.2.2 (by simpa using hi)
    have h1 := h.1
    exact ⟨this.1, this.2.1, by have := this.2.2; show lo ≤ En.last1 (a + 1) (al.take i); omega⟩
set_option maxHeartbeats 1000000 in
theorem pgaps_calls (v : Value) (al : List Int) (n : Nat) (w : World) (h : IntsAt w v al) (hr : En.Rise n 0 al) (hn : n ≤ 1000) (hl : al.length ≤ 1000) :
    Calls Tryd.prog 79 #[v] w fun e w' => ∃ u, e = .returned u ∧ w'.ownsRow w.heap.size 9 1 u al.length (wt (En.gaps 0 al)) ∧ Below w.heap.size w w' := by
  obtain ⟨i0, hi0, hz0, hz1, hz2⟩ := info_parts infoStr
  have HI := Lib.hid hi0
  obtain ⟨a, cap, rfl⟩ := h.form
  have H := Lib.hid h
  have HR := Lib.hid hr
  clear h hi0 hr
  go_enter Tryd.func79, Tryd.ntmps79
  go_wp2_with fail
  go_loopw [3, 4, 6, 9] (fun sv nv xv iv wr => ∃ (i : Nat), i ≤ al.length ∧ iv = .int .i64 i ∧ nv = .int .i64 (En.last1 0 (al.take i)) ∧ wr.ownsRow w.heap.size 9 1 sv i (wt (En.gaps 0 (al.take i))) ∧ Below w.heap.size w wr) (fun _ _ _ iv _ => al.length - (intOf iv).toNat)
  case atStart => exact ⟨0, by omega, rfl, rfl, World.ownsRow_nil _ _ _ _, Below.refl _ _⟩
  case round =>
    obtain ⟨i, hi, rfl, rfl, hown, hB⟩ := hrel
    have O1 := Lib.hid hown
    have B1 := Lib.hid hB
    have hzr := hB.size
    clear hown hB
    by_cases hlt : i < al.length
    · have p1 : (i : Int) < (al.length : Int) := by omega
      obtain ⟨b, o, rfl, hb, hc⟩ := H.out.at (by omega)
      have hcx : wr.cell? ⟨b, o + i, none⟩ = some (.int .i64 (al.getD i 0)) := by
        rw [← hc i hlt]; exact World.cell?_of_block (w := w) (B1.out.block b hb)
      obtain ⟨hr1, hr2, hr3⟩ := rise_at n al 0 i HR.out hlt
      have G := Lib.hid (gaps_take al 0 i hlt)
      have L := Lib.hid (last_take al 0 i hlt)
      generalize al.getD i 0 = x at hcx hr1 hr2 G L
      generalize En.last1 0 (al.take i) = nx at hr1 hr3 G ⊢
      have q1 : wrap64 (x - nx) = x - nx := by unfold wrap64; omega
      obtain ⟨d, hd⟩ : ∃ d : Nat, x - nx = (d : Int) := ⟨(x - nx).toNat, by omega⟩
      have q2 : IntKind.u64.wrap (x - nx) = (d : Int) := by rw [hd, u64_wrap, U_nat]; omega
      have q3 : U (toU (x - nx)) = (d : Int) := by rw [hd, U_toU]; omega
      have q4 : wrap64 (x + 1) = x + 1 := by unfold wrap64; omega
      have T1 := Lib.hid (psize_calls d wr (by omega))
      rw [hd, Int.toNat_natCast] at G
      clear hd
      have hds := sizeB_short d
      clear hc hr1 hr3
      go_wp2_with fail
      refine T1.out.mono ?_
      clear T1
      generalize Wr.sizeB d = y at hds G
      rintro e w2 ⟨rfl, hb2⟩
      have O2 := Lib.hid (ownN_below O1.out hb2 (Nat.le_refl _))
      have B2 := Lib.hid (B1.out.trans (hb2.mono hzr))
      have hz2' := B2.out.size
      clear hb2 O1 B1 hcx
      go_wp2_with (at_builtin; refine wpList_append_own _ rfl _ _ 26 rfl w.heap.size 9 i0 (.string ByteArray.empty) 1 16 Tryd.underlying26 HI.out hz0 hz1 hz2 rfl (by decide) _ _ _ rfl (O2.out.alloc _) ⟨w2.heap.size, 0, none⟩ 1 1 [.string (str y)] rfl rfl (cell_one_new _ _ _) (wt_one [y]) (by unfold maxLen; omega) (by omega) (by rw [World.size_alloc]; omega) ?_; intro uv2 w3 hown3 hgr3 _; have hbl : Below w.heap.size w2 w3 := ((Below.refl w.heap.size w2).alloc hz2' _).grown hgr3 (by rw [World.size_alloc]; omega) (fun k hk => (O2.out.lt k hk).1); have H1 := Lib.hid hown3; have H2 := Lib.hid hbl; clear hown3 hgr3 hbl)
      go_roundw
      case rel => exact ⟨i + 1, by omega, by go_num, by rw [L.out, q4], by rw [G.out, ← wt_snoc]; exact H1.out, B2.out.trans H2.out⟩
      case measure => simp [intOf]; omega
    · obtain rfl : i = al.length := by omega
      go_wp2_with fail
      go_ret
      exact ⟨_, rfl, by have := O1.out; rwa [List.take_of_length_le (Nat.le_refl _)] at this, B1.out⟩
/-! ### the key -/
/-- 'string(b)', in a quiet walk -/
theorem wpQuiet_conv {ops : Array Oper} {rest : List Oper} {o : Oper} {a : Act} {C : World → Prop} {Q : Act → Prop} (hgd : o.guard = none) (src dst e : TypeId) (x : Operand) (ho : o.op = .convert src dst x)
    (g off n cap : Nat) (l : List UInt8) (hl : l.length = n) (hx : a.eval x = .slice (some ⟨g, off, none⟩) n cap) (hs : Tryd.prog.underlying src = some (.slice e)) (he : Tryd.prog.underlying e = some (.int .u8)) (hd : Tryd.prog.underlying dst = some .string)
    (hb : ∀ w, C w → Bytes w g off l) (h : wpQuiet Tryd.prog ops C Q rest (a.put o.dst (.string (str l)))) : wpQuiet Tryd.prog ops C Q (o :: rest) a := by
  subst hl
  unfold wpQuiet
  rw [if_pos (by simp [Region.wanted, hgd])]
  refine ⟨_, fun w hw => ?_, h⟩
  have := conv_bytes (P := Tryd.prog) w src dst e g off cap l hs he hd (hb w hw)
  unfold Oper.quietAt execOp
  simp only [ho, hx, Sem.run_bind, this, Result.andThen_ok, Sem.run_pure, Oper.quietUpon]
  first | trivial | exact ⟨trivial, trivial⟩ | exact ⟨rfl, rfl⟩ | exact ⟨rfl, hw⟩
theorem Bytes.part {w : World} {g : Nat} {l : List UInt8} (h : Bytes w g 0 l) (o n : Nat) (hn : o + n ≤ l.length) : Bytes w g o ((l.drop o).take n) := fun j hj => by
  rw [List.length_take, List.length_drop] at hj
  have := h (o + j) (by omega)
  rw [Nat.zero_add] at this
  rw [this]
  unfold nth
  rw [List.getD_eq_getElem?_getD, List.getD_eq_getElem?_getD, List.getElem?_take_of_lt (by omega), List.getElem?_drop]
def keyCells (d : List UInt8) : List Value := [.int .u64 (U (En.key0 d)), .int .u64 (U (En.key1 d))]
theorem info_key : (Tryd.prog.info? 93).map (·.size) = some 2 := by kernel_rfl
set_option maxHeartbeats 2000000 in
theorem keyOf_calls (h n : List UInt8) (w : World) (hT : Tabs w) (hm : h.length + n.length ≤ 1000) :
    Calls Tryd.prog 45 #[.string (str h), .string (str n)] w fun e w' => e = .returned (.agg (keyCells (Sha.sum (h ++ n))).toArray) ∧ Below w.heap.size w w' := by
  have h1 := hT.lt
  have HT := Lib.hid hT
  clear hT
  go_enter Tryd.func45, Tryd.ntmps45
  go_upto_region 1 with fail
  have rK : Row (w.alloc (.cells #[.int .u64 0, .int .u64 0] 93)) w.heap.size [.int .u64 0, .int .u64 0] := Row.new w [.int .u64 0, .int .u64 0] _
  have bK : Below w.heap.size w (w.alloc (.cells #[.int .u64 0, .int .u64 0] 93)) := (Below.refl _ _).alloc (Nat.le_refl _) _
  generalize w.alloc _ = w1 at rK bK ⊢
  have hz1 := rK.lt
  have hc := Row.new w1 [.string (str h), .string (str n)] 9
  have hB2 : Below w1.heap.size w1 (w1.alloc (.cells #[.string (str h), .string (str n)] 9)) := (Below.refl _ _).alloc (Nat.le_refl _) _
  have T1 := Lib.hid (hsum_two w1.heap.size 2 h n _ ((HT.out.below bK h1).below hB2 (by omega)) (hc.cell 0) (hc.cell 1) (by omega))
  have RK := Lib.hid rK
  have BK := Lib.hid bK
  clear hc rK bK
  go_wp2_with fail
  refine T1.out.mono ?_
  clear T1
  rintro e w2 ⟨rfl, hb2⟩
  have hz2 := hb2.size
  rw [World.size_alloc] at hz2
  have b2 : Below w1.heap.size w1 w2 := hB2.trans (hb2.mono (by rw [World.size_alloc]; omega))
  obtain ⟨d, hd⟩ : ∃ d, Sha.sum (h ++ n) = d := ⟨_, rfl⟩
  have hd32 : d.length = 32 := by rw [← hd]; exact Sha.sum32 _
  rw [hd]
  have hR3 : Row (w2.alloc (.cells (w8 (List.replicate 32 0)).toArray 56)) w2.heap.size (w8 (List.replicate 32 0)) := Row.new w2 _ _
  have hB3 := below_setRow ((Below.refl w2.heap.size w2).alloc (Nat.le_refl _) (.cells (w8 (List.replicate 32 0)).toArray 56)) (Nat.le_refl _) (w8 d).toArray
  have hR4 := hR3.setRow (w8 d)
  have RK3 := Lib.hid ((RK.out.below b2 hz1).below hB3 (by have := b2.size; omega))
  have BK3 := Lib.hid (BK.out.trans (((b2.trans (hB3.mono (by have := b2.size; omega)))).mono (by omega)))
  rw [Tryd.zeroDg] at hR3 hB3 hR4 RK3 BK3
  have HD := Lib.hid hd
  clear hb2 hB2 b2 hB3 RK BK hd
  go_upto_region 2 with (with_reducible refine store_dg (o := ⟨none, _, _, _, _, _⟩) rfl _ _ rfl w2.heap.size (List.replicate 32 0) d rfl hd32 rfl rfl hR3 ?_)
  clear hR3
  generalize World.setRow _ _ _ = w3 at hR4 RK3 BK3 ⊢
  obtain ⟨D, hD⟩ : ∃ D, w2.heap.size = D := ⟨_, rfl⟩
  rw [hD] at hR4 ⊢
  have hDw : w.heap.size < D := by omega
  clear hD hz2
  have l8 : (d.take 8).length = 8 := by rw [List.length_take]; omega
  have l8' : ((d.drop 8).take 8).length = 8 := by rw [List.length_take, List.length_drop]; omega
  haveI hne : Nonempty (Reg.Of (fun u => Row u D (w8 d))) := ⟨⟨w3, hR4⟩⟩
  refine Reg.startL [0, 1, 3, 4] 4 mixed (by kernel_rfl) rfl rfl (fun c a d v w h => by cases d <;> exact h) (by as_aux_lemma => kernel_rfl) rfl (fun u => Row u D (w8 d)) hR4.drew ?_
  show wpQuiet _ _ _ _ [_, _, _, _] _
  go_frame
  go_big_quiet_step (fail)
  refine wpQuiet_conv (o := ⟨some 11, _, _, _, _, _⟩) rfl 36 9 5 _ rfl D 0 8 32 (d.take 8) l8 rfl Tryd.underlying36 Tryd.underlying5 Tryd.underlying9 (fun w hw => by obtain ⟨u, rfl⟩ := hw; exact (u.h.bytes).part 0 8 (by omega)) ?_
  go_frame
  go_big_quiet_step (fail)
  refine wpQuiet_conv (o := ⟨some 14, _, _, _, _, _⟩) rfl 36 9 5 _ rfl D 8 8 24 ((d.drop 8).take 8) l8' rfl Tryd.underlying36 Tryd.underlying5 Tryd.underlying9 (fun w hw => by obtain ⟨u, rfl⟩ := hw; exact (u.h.bytes).part 8 8 (by omega)) ?_
  go_frame
  refine wpQuiet_nil ?_
  have r4 := hR4.drew
  have RK4 := Lib.hid RK3.out.drew
  have BK4 := Lib.hid BK3.out.drew
  clear hR4 RK3 BK3
  generalize w3.drew = w4 at r4 RK4 BK4 ⊢
  have W1 := word_calls (d.take 8) (by omega) (by omega) w4
  have W2 := word_calls ((d.drop 8).take 8) (by omega) (by omega) w4
  rw [List.take_take, Nat.min_self] at W1 W2
  have V1 := Lib.hid W1
  have V2 := Lib.hid W2
  clear W1 W2
  refine Reg.one 2 _ (by kernel_rfl) rfl rfl ?_
  try go_frame
  go_wp2_with fail
  refine V1.out.mono ?_
  rintro e w5 ⟨rfl, rfl⟩
  go_wp2_with fail
  refine ⟨Reg.cls_mk r4, ?_⟩
  refine Reg.one 5 _ (by kernel_rfl) rfl rfl ?_
  try go_frame
  go_wp2_with fail
  refine V2.out.mono ?_
  rintro e w5 ⟨rfl, rfl⟩
  go_wp2_with fail
  refine ⟨Reg.cls_mk r4, ?_⟩
  refine Reg.one 6 _ (by kernel_rfl) rfl rfl ?_
  try go_frame
  go_wp2_with fail
  refine ⟨Reg.cls_mk r4, ?_⟩
  refine Reg.one 7 _ (by kernel_rfl) rfl rfl ?_
  have r5 := r4.setOther (g := w.heap.size) (by omega) (keyCells d).toArray
  have K5 := RK4.out.setRow (keyCells d)
  have B5 := Lib.hid (below_setRow BK4.out (Nat.le_refl _) (keyCells d).toArray)
  have hrk := RK4.out
  refine store_cells (o := ⟨none, _, _, _, _, _⟩) rfl _ _ _ rfl w.heap.size [.int .u64 0, .int .u64 0] (keyCells d) rfl rfl hrk (info_key.trans rfl) rfl rfl ?_
  refine ⟨Reg.cls_mk r5, ?_⟩
  refine wpAnyH_done (by kernel_rfl) ?_ 0
  go_wp2_with fail
  obtain ⟨T2, hT2⟩ := K5
  exact bodyPost_ret (v := .agg (keyCells d).toArray) (results_cell_row (fn := Tryd.f45) rfl _ _ w.heap.size T2 _ (0, 0) _ rfl hT2 Tryd.underlying93 rfl (info_key.trans rfl)) rfl ⟨by rw [HD.out], B5.out⟩
theorem make6 (w : World) : (Instr.makeSlice 36 (.int .i64 (6 : Nat)) (.int .i64 (6 : Nat))).run Tryd.prog w = .ok (.slice (some ⟨w.heap.size, 0, none⟩) 6 6) (w.alloc (.cells (w8 (List.replicate 6 0)).toArray 5)) := by kernel_rfl
set_option maxHeartbeats 2000000 in
theorem pshort_calls (kd d : List UInt8) (w : World) (hd : d.length = 32) :
    Calls Tryd.prog 47 #[.agg (keyCells kd).toArray, .agg (w8 d).toArray] w fun e w' => e = .returned (.string (str (En.six (Sip.sip (En.key0 kd) (En.key1 kd) d)))) ∧ Below w.heap.size w w' := by
  have rK : Row ((w.alloc (.cells (keyCells kd).toArray 93)).alloc (.cells (w8 d).toArray 56)) w.heap.size (keyCells kd) := (Row.new w (keyCells kd) _).alloc _
  have rD : Row ((w.alloc (.cells (keyCells kd).toArray 93)).alloc (.cells (w8 d).toArray 56)) (w.heap.size + 1) (w8 d) := by
    have := Row.new (w.alloc (.cells (keyCells kd).toArray 93)) (w8 d) 56
    rwa [World.size_alloc] at this
  have hB : Below w.heap.size w ((w.alloc (.cells (keyCells kd).toArray 93)).alloc (.cells (w8 d).toArray 56)) := ((Below.refl _ _).alloc (Nat.le_refl _) _).alloc (by simp) _
  go_enter Tryd.func47, Tryd.ntmps47
  go_upto_region 1 with fail
  generalize (w.alloc _).alloc _ = w1 at rK rD hB ⊢
  obtain ⟨K, hK⟩ : ∃ K, w.heap.size = K := ⟨_, rfl⟩
  rw [hK] at rK rD ⊢
  have hu0 : ∀ u : Reg.Of (fun u => Row u K (keyCells kd) ∧ Row u (K + 1) (w8 d)), u.w.cell? ⟨K, 0, none⟩ = some (.int .u64 (U (En.key0 kd))) := fun u => u.h.1.cell 0
  have hu1 : ∀ u : Reg.Of (fun u => Row u K (keyCells kd) ∧ Row u (K + 1) (w8 d)), u.w.cell? ⟨K, 1, none⟩ = some (.int .u64 (U (En.key1 kd))) := fun u => u.h.1.cell 1
  haveI hne : Nonempty (Reg.Of (fun u => Row u K (keyCells kd) ∧ Row u (K + 1) (w8 d))) := ⟨⟨w1, rK, rD⟩⟩
  refine Reg.startL [0, 1, 2, 3, 4, 5] 2 mixed (by kernel_rfl) rfl rfl (fun c a d v w h => by cases d <;> exact h) (by as_aux_lemma => kernel_rfl) rfl (fun u => Row u K (keyCells kd) ∧ Row u (K + 1) (w8 d)) ⟨rK.drew, rD.drew⟩ ?_
  show wpQuiet _ _ _ _ [_, _, _, _, _, _] _
  iterate 5 (go_big_quiet_step (fail))
  refine wpQuiet_conv (o := ⟨some 13, _, _, _, _, _⟩) rfl 36 9 5 _ rfl (K + 1) 0 32 32 d hd rfl Tryd.underlying36 Tryd.underlying5 Tryd.underlying9 (fun w hw => by obtain ⟨u, rfl⟩ := hw; exact u.h.2.bytes) ?_
  go_frame
  refine wpQuiet_nil ?_
  have r4 := rK.drew
  have r5 := rD.drew
  have B4 := Lib.hid hB.drew
  have T1 := Lib.hid (hsip_calls (En.key0 kd) (En.key1 kd) d (by omega) w1.drew)
  have hzK := r5.lt
  clear hu0 hu1 rK rD hB
  generalize w1.drew = w4 at r4 r5 B4 T1 hzK ⊢
  refine Reg.one 6 _ (by kernel_rfl) rfl rfl ?_
  try go_frame
  go_wp2_with fail
  refine T1.out.mono ?_
  clear T1
  rintro e w5 ⟨rfl, hb5⟩
  have B5 := Lib.hid (B4.out.trans (hb5.mono B4.out.size))
  have r6 := r4.below hb5 (by omega)
  have r7 := r5.below hb5 hzK
  clear hb5 r4 r5 B4 hzK
  obtain ⟨x, hx⟩ : ∃ x, Sip.sip (En.key0 kd) (En.key1 kd) d = x := ⟨_, rfl⟩
  have HX := Lib.hid hx
  rw [hx]
  clear hx
  go_wp2_with fail
  refine ⟨Reg.cls_mk ⟨r6, r7⟩, ?_⟩
  refine Reg.one 7 _ (by kernel_rfl) rfl rfl ?_
  try go_frame
  go_wp2_with fail
  refine ⟨Reg.cls_mk ⟨r6, r7⟩, ?_⟩
  refine wpAnyH_done (by kernel_rfl) ?_ 0
  have hR : Row (w5.alloc (.cells (w8 [0, 0, 0, 0, 0, 0]).toArray 5)) w5.heap.size (w8 [0, 0, 0, 0, 0, 0]) := Row.new w5 _ _
  have hB : Below w5.heap.size w5 (w5.alloc (.cells (w8 [0, 0, 0, 0, 0, 0]).toArray 5)) := (Below.refl _ _).alloc (Nat.le_refl _) _
  have hmk : ∀ w : World, (Instr.makeSlice 36 (.int .i64 6) (.int .i64 6)).run Tryd.prog w = .ok (.slice (some ⟨w.heap.size, 0, none⟩) 6 6) (w.alloc (.cells (w8 [0, 0, 0, 0, 0, 0]).toArray 5)) := make6
  clear r6 r7
  go_wp2_with fail
  generalize w5.alloc _ = w6 at hR hB ⊢
  have H1 := Lib.hid hR
  have H2 := Lib.hid hB
  clear hR hB hmk
  go_loopw [7, 18] (fun jv iv wr => ∃ (i : Nat) (L : List UInt8), i ≤ 6 ∧ iv = .int .i64 i ∧ L.length = 6 ∧ Row wr w5.heap.size (w8 L) ∧ Below w5.heap.size w5 wr ∧ ∀ j, j < i → nth L j = nth (Wr.low x.toNat 6) j) (fun _ iv _ => 6 - (intOf iv).toNat)
  case atStart => exact ⟨0, [0, 0, 0, 0, 0, 0], by omega, rfl, rfl, H1.out, H2.out, fun j hj => by omega⟩
  case round =>
    clear H1 H2
    obtain ⟨i, L, hi, rfl, hL, hR, hB, hj⟩ := hrel
    by_cases hlt : i < 6
    · have p1 : (i : Int) < 6 := by omega
      have h8 : 0 ≤ 8 * (i : Int) := by omega
      have e1 := low_byte' x i
      have e2 := Wr.low_get x.toNat 6 i hlt
      have hc0 := hR.cell i
      rw [w8_get L i (by omega)] at hc0
      have hz := hR.free i
      obtain ⟨y, hy⟩ : ∃ y, (shr x (8 * i)).toUInt8 = y := ⟨_, rfl⟩
      rw [hy] at e1
      rw [← e1] at e2
      have S1 := Lib.hid (show Row (wr.setCell ⟨w5.heap.size, i, none⟩ (.int .u8 (Y y))) w5.heap.size (w8 (L.set i y)) from by rw [← w8_set]; exact hR.set i _)
      have S2 := Lib.hid (show Below w5.heap.size w5 (wr.setCell ⟨w5.heap.size, i, none⟩ (.int .u8 (Y y))) from hB.setCell (Nat.le_refl _) _)
      have S3 := Lib.hid (show ∀ j, j < i + 1 → nth (L.set i y) j = nth (Wr.low x.toNat 6) j from fun j hj' => by
        rw [nth_set L i j y (by omega)]
        split
        · rename_i h; subst h; rw [e2]
        · exact hj j (by omega))
      subst hy
      clear hR hB hj e2 e1
      go_wp2_with fail
      go_roundw
      case rel => exact ⟨i + 1, L.set i _, by omega, by go_num, by rw [List.length_set]; exact hL, S1.out, S2.out, S3.out⟩
      case measure => simp [intOf]; omega
    · obtain rfl : i = 6 := by omega
      have hbt := hR.bytes
      have e := low_ext L x.toNat 6 hL hj
      subst e
      have B6 := Lib.hid (B5.out.trans (hB.mono B5.out.size))
      clear hB hR hj
      go_wp2_with (with_reducible refine conv_arm (o := ⟨some 31, _, _, _, _, _⟩) rfl _ _ _ _ rfl w5.heap.size 0 6 6 (Wr.low x.toNat 6) (Wr.low_length _ _) rfl Tryd.underlying36 Tryd.underlying5 Tryd.underlying9 hbt ?_)
      go_ret
      exact ⟨by rw [HX.out]; rfl, B6.out⟩
end Go.Proofs.YtlpcjiollnnmgaaDoor
