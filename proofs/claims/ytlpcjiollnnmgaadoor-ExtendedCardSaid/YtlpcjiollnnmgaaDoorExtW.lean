/-
  THE WALK OF compactkeep.Extended.
-/
import Derived.Test.YtlpcjiollnnmgaaDoorKeep
import Derived.Test.YtlpcjiollnnmgaaDoorExt
import Derived.Test.YtlpcjiollnnmgaaDoorRefMk
import Derived.Maps.AppendAt
import Derived.Laws.OwnMore
import Derived.Test.YtlpcjiollnnmgaaDoorRegion3
set_option maxRecDepth 100000
namespace Go.Proofs.YtlpcjiollnnmgaaDoor
open Go.RowKit Nums
theorem kept_own {w w' : World} {B C n : Nat} {e : TypeId} {z : Nat} {v : Value} {xs : List Value} (h : w.ownsRow B e z v n xs) (hb : Below C w w') (hC : w.heap.size ≤ C) : w'.ownsRow B e z v n xs := ownN_below h hb hC
/-- two own rows of texts, apart -/
def Two (w : World) (B : Nat) (av bv : Value) (la lb : List (List UInt8)) : Prop :=
  w.ownsRow B 9 1 av la.length (wt la) ∧ w.ownsRow B 9 1 bv lb.length (wt lb) ∧ ∀ g, av.ownBlock = some g → bv.ownBlock ≠ some g
theorem Two.below {w w' : World} {B C : Nat} {av bv : Value} {la lb : List (List UInt8)} (h : Two w B av bv la lb) (hb : Below C w w') (hC : w.heap.size ≤ C) : Two w' B av bv la lb :=
  ⟨ownN_below h.1 hb hC, ownN_below h.2.1 hb hC, h.2.2⟩
theorem own_pos {w : World} {B n : Nat} {e : TypeId} {z : Nat} {v : Value} {xs : List Value} (h : w.ownsRow B e z v n xs) (hn : 0 < n) : ∃ g cap, v = .slice (some ⟨g, 0, none⟩) n cap := by
  rcases h.2 with ⟨_, h⟩ | ⟨g, cap, cur, h, _⟩
  · omega
  · exact ⟨g, cap, h⟩
theorem Two.swap {w : World} {B : Nat} {av bv : Value} {la lb : List (List UInt8)} (h : Two w B av bv la lb) : Two w B bv av lb la := ⟨h.2.1, h.1, fun g hg hg' => h.2.2 g hg' hg⟩
/-- the first grown, by an append behind an alloc -/
theorem Two.left {w w' : World} {B : Nat} {av av' bv : Value} {x : List UInt8} {la lb : List (List UInt8)} {o : Obj} (h : Two w B av bv la lb) (ho : w'.ownsRow B 9 1 av' (la.length + 1) (wt la ++ [.string (str x)])) (hg : (w.alloc o).grownBy w' av.ownBlock)
    (hb : av'.ownBlock = av.ownBlock ∨ av'.ownBlock = some (w.alloc o).heap.size) : Two w' B av' bv (la ++ [x]) lb := by
  refine ⟨by rw [← wt_snoc, List.length_append]; exact ho, (h.2.1.alloc o).kept hg ?_, fun g hg' hbv => ?_⟩
  · cases hbv : bv.ownBlock with
    | none => exact .inl rfl
    | some g => exact .inr fun e => h.2.2 g e.symm hbv
  · rcases hb with e | e
    · exact h.2.2 g (e ▸ hg') hbv
    · have := (h.2.1.lt g hbv).2
      rw [e, World.size_alloc] at hg'
      cases hg'; omega
theorem wt_set (l : List (List UInt8)) (i : Nat) (x : List UInt8) : (wt l).set i (.string (str x)) = wt (l.set i x) := by
  simp [wt, List.map_set]
/-- one of the second's texts written anew -/
theorem Two.set {w : World} {B g cap : Nat} {av : Value} {la lb : List (List UInt8)} (h : Two w B av (.slice (some ⟨g, 0, none⟩) lb.length cap) la lb) (i : Nat) (x : List UInt8) :
    Two (w.setCell ⟨g, i, none⟩ (.string (str x))) B av (.slice (some ⟨g, 0, none⟩) lb.length cap) la (lb.set i x) := by
  have hs := World.ownsRow.stored h.2.1 i (.string (str x))
  rw [wt_set] at hs
  refine ⟨ownsRow_setCell_other h.1 (fun e => h.2.2 g e rfl) _, by rw [List.length_set]; exact hs.1, h.2.2⟩
theorem all32_set {l : List (List UInt8)} (h : All32 l) (i : Nat) {x : List UInt8} (hx : x.length = 32) : All32 (l.set i x) := fun d hd => by
  rcases List.mem_or_eq_of_mem_set hd with h' | h'
  · exact h d h'
  · rw [h']; exact hx
/-- a row's cells, as an append reads them -/
def Src1 (w : World) (g : Nat) (xs : List Value) : Prop := ∀ (j : Nat) (u : Value), xs[j]? = some u → w.cell? (Addr.add ⟨g, 0, none⟩ j) = some u
theorem src_own {w : World} {B n g cap : Nat} {e : TypeId} {xs : List Value} (h : w.ownsRow B e 1 (.slice (some ⟨g, 0, none⟩) n cap) n xs) : Src1 w g xs := h.cells rfl
theorem Src1.below {w w' : World} {g C : Nat} {xs : List Value} (h : Src1 w g xs) (hb : Below C w w') (hg : g < C) : Src1 w' g xs := fun j u hu => by
  have := h j u hu
  rw [Addr.add_lit] at this ⊢
  exact (World.cell?_of_block (w := w) (hb.block g hg)).trans this
theorem wt_append (a b : List (List UInt8)) : wt a ++ wt b = wt (a ++ b) := by simp [wt]
theorem all32_append {a b : List (List UInt8)} (ha : All32 a) (hb : All32 b) : All32 (a ++ b) := fun d hd => by
  rcases List.mem_append.1 hd with h | h
  · exact ha d h
  · exact hb d h
theorem own_le {w : World} {B C n : Nat} {e : TypeId} {z : Nat} {v : Value} {xs : List Value} (h : w.ownsRow B e z v n xs) (hC : C ≤ B) : w.ownsRow C e z v n xs :=
  ⟨h.1, h.2.imp id fun ⟨g, cap, cur, h1, h2, h3⟩ => ⟨g, cap, cur, h1, Nat.le_trans hC h2, h3⟩⟩
theorem answer_ok {ss : List (List UInt8)} (h : All32 ss) (hn : 0 < ss.length) : Mk.answer ss = .tuple #[.string (str (Mk.root ss false).1), .bool (Mk.root ss false).2, .int .i64 0] := by
  have hf : Mk.fit ss = true := by
    unfold Mk.fit; simp only [Bool.and_eq_true, decide_eq_true_eq, List.all_eq_true, beq_iff_eq]; exact ⟨hn, h⟩
  unfold Mk.answer; rw [if_pos hf]
set_option maxHeartbeats 4000000 in
theorem extended_calls (seed n : Int) (w : World) (hT : Tabs w) (_ : -9223372036854775808 ≤ seed ∧ seed < 9223372036854775808) (hn : -9223372036854775808 ≤ n ∧ n < 9223372036854775808) :
    Calls Tryd.prog 5 #[.int .i64 seed, .int .i64 n] w fun e w' => e = .returned (.bool true) ∧ Below w.heap.size w w' := by
  obtain ⟨i0, hi0, hz0, hz1, hz2⟩ := info_parts infoStr
  have HI := Lib.hid hi0
  have h1 := hT.lt
  have HT := Lib.hid hT
  clear hT hi0
  have hp := Keeps.pick_lt n 5 (by omega)
  have H1 := Lib.hid (pick_calls n 5 w (by omega) (by omega) hn)
  obtain ⟨p, hpe, hp5⟩ : ∃ p : Nat, Keeps.pick n 5 = (p : Int) ∧ p < 5 := ⟨(Keeps.pick n 5).toNat, by omega, by omega⟩
  rw [hpe] at H1
  clear hpe hp
  go_enter Tryd.func5, Tryd.ntmps5
  go_wp2_with fail
  refine H1.out.mono ?_
  rintro e1 w1 ⟨rfl, rfl⟩
  clear H1
  go_wp2_with fail
  have hN : wrap64 (2 ^ p) = ((2 ^ p : Nat) : Int) := by
    rcases p with _ | _ | _ | _ | _ | p
    all_goals first | omega | (unfold wrap64; rfl)
  have hN1 : 0 < 2 ^ p := Nat.pow_pos (by decide)
  have hN2 : 2 ^ p ≤ 2 ^ 4 := Nat.pow_le_pow_right (by decide) (by omega)
  rw [hN]
  have HP : ∃ q, 2 ^ p = 2 ^ q := ⟨p, rfl⟩
  clear hN hp5
  generalize 2 ^ p = N at hN1 hN2 HP ⊢
  go_loopw [5, 6, 26] (fun av bv iv wr => ∃ (k : Nat) (la lb : List (List UInt8)), k ≤ N ∧ iv = .int .i64 k ∧ la.length = k ∧ lb.length = k ∧ All32 la ∧ All32 lb ∧ Two wr w1.heap.size av bv la lb ∧ Below w1.heap.size w1 wr) (fun _ _ iv _ => N - (intOf iv).toNat)
  case atStart => exact ⟨0, [], [], by omega, rfl, rfl, rfl, (by intro d hd; cases hd), (by intro d hd; cases hd), ⟨World.ownsRow_nil _ _ _ _, World.ownsRow_nil _ _ _ _, fun g hg => by cases hg⟩, Below.refl _ _⟩
  case round =>
    obtain ⟨k, la, lb, hk, rfl, hla, hlb, ha32, hb32, hT2, hB⟩ := hrel
    have A1 := Lib.hid ha32
    have A2 := Lib.hid hb32
    have A3 := Lib.hid hT2
    have A4 := Lib.hid hB
    clear ha32 hb32 hT2 hB
    by_cases hlt : k < N
    · have p1 : (k : Int) < (N : Int) := by omega
      go_wp2_with fail
      refine (bytes_calls 3 _ wr (by omega)).mono ?_
      rintro e2 w2 ⟨rfl, hb2⟩
      have B2 := Lib.hid (A4.out.trans (hb2.mono A4.out.size))
      have B3 := Lib.hid (A3.out.below hb2 (Nat.le_refl _))
      clear hb2
      generalize hA1 : Keeps.bytes 3 _ = s1
      have l1 : s1.length = 3 := by rw [← hA1, Keeps.bytes_length]
      clear hA1
      go_wp2_with fail
      refine (bytes_calls 2 _ w2 (by omega)).mono ?_
      rintro e3 w3 ⟨rfl, hb3⟩
      have C2 := Lib.hid (B2.out.trans (hb3.mono B2.out.size))
      have C3 := Lib.hid (B3.out.below hb3 (Nat.le_refl _))
      clear hb3 B2 B3
      generalize hA1 : Keeps.bytes 2 _ = s2
      have l2 : s2.length = 2 := by rw [← hA1, Keeps.bytes_length]
      clear hA1
      go_wp2_with fail
      refine (relaySum_calls _ w3 (HT.out.below C2.out h1) (by simp; omega)).mono ?_
      rintro e4 w4 ⟨rfl, hb4⟩
      have D2 := Lib.hid (C2.out.trans (hb4.mono C2.out.size))
      have D3 := Lib.hid (C3.out.below hb4 (Nat.le_refl _))
      have D2s := D2.out.size
      clear hb4 C2 C3
      generalize hA1 : Sha.sum _ = x
      have lx : x.length = 32 := by rw [← hA1, Sha.sum32]
      clear hA1 l1 l2 
      go_wp2_with (at_builtin; refine wpList_append_own_at _ rfl _ _ 26 rfl w1.heap.size 9 i0 (.string ByteArray.empty) 1 16 Tryd.underlying26 HI.out hz0 hz1 hz2 rfl (by decide) _ _ _ rfl (D3.out.1.alloc _) ⟨w4.heap.size, 0, none⟩ 1 1 [.string (str x)] rfl rfl (cell_one_new _ _ _) (wt_one [x]) (by unfold maxLen; omega) (by omega) (by rw [World.size_alloc]; omega) ?_; intro av2 w5 hown5 hgr5 _ hob5)
      have D5 := Lib.hid (D3.out.left hown5 hgr5 hob5)
      have D6 := Lib.hid ((D2.out.alloc D2s _).grown hgr5 (by rw [World.size_alloc]; omega) (fun k hk => (D3.out.1.lt k hk).1))
      clear hown5 hgr5 hob5 D2 D3
      go_wp2_with fail
      refine (bytes_calls 3 _ w5 (by omega)).mono ?_
      rintro e6 w6 ⟨rfl, hb2⟩
      have B2 := Lib.hid (D6.out.trans (hb2.mono D6.out.size))
      have B3 := Lib.hid (D5.out.below hb2 (Nat.le_refl _))
      clear hb2
      generalize hA1 : Keeps.bytes 3 _ = s3
      have l3 : s3.length = 3 := by rw [← hA1, Keeps.bytes_length]
      clear hA1
      go_wp2_with fail
      refine (bytes_calls 2 _ w6 (by omega)).mono ?_
      rintro e7 w7 ⟨rfl, hb3⟩
      have C2 := Lib.hid (B2.out.trans (hb3.mono B2.out.size))
      have C3 := Lib.hid (B3.out.below hb3 (Nat.le_refl _))
      clear hb3 B2 B3
      generalize hA1 : Keeps.bytes 2 _ = s4
      have l4 : s4.length = 2 := by rw [← hA1, Keeps.bytes_length]
      clear hA1
      go_wp2_with fail
      refine (relaySum_calls _ w7 (HT.out.below C2.out h1) (by simp; omega)).mono ?_
      rintro e8 w8 ⟨rfl, hb4⟩
      have D2 := Lib.hid (C2.out.trans (hb4.mono C2.out.size))
      have D3 := Lib.hid (C3.out.below hb4 (Nat.le_refl _))
      have D2s := D2.out.size
      clear hb4 C2 C3
      generalize hA1 : Sha.sum _ = y
      have ly : y.length = 32 := by rw [← hA1, Sha.sum32]
      clear hA1 l3 l4 
      by_cases h5 : seed.tmod 5 = 0
      · by_cases h3 : (k : Int) % 3 = 2
        · have h3' : ((k : Int) % 3 == 2) = true := by simp [h3]
          go_wp2_with (
            at_builtin
            refine wpList_append_own_at _ rfl _ _ 26 rfl w1.heap.size 9 i0 (.string ByteArray.empty) 1 16 Tryd.underlying26 HI.out hz0 hz1 hz2 rfl (by decide) _ _ _ rfl (D3.out.swap.1.alloc _) ⟨w8.heap.size, 0, none⟩ 1 1 [.string (str y)] rfl rfl (cell_one_new _ _ _) (wt_one [y]) (by unfold maxLen; omega) (by omega) (by rw [World.size_alloc]; omega) ?_
            intro bv2 w9 hown5 hgr5 _ hob5
            have E5 := Lib.hid (D3.out.swap.left hown5 hgr5 hob5).swap
            have E6 := Lib.hid ((D2.out.alloc D2s _).grown hgr5 (by rw [World.size_alloc]; omega) (fun k hk => (D3.out.swap.1.lt k hk).1))
            clear hown5 hgr5 hob5 D2 D3 D5 D6
            have hE := E5.out.2.1
            obtain ⟨g, cap, hbv⟩ := own_pos hE (by simp)
            subst hbv
            obtain ⟨lc, hlc⟩ : ∃ lc, lc = lb ++ [y] := ⟨_, rfl⟩
            have hcl : lc.length = k + 1 := by rw [hlc]; simp [hlb]
            have hc32 : All32 lc := hlc ▸ all32_snoc A2.out ly
            rw [← hlc] at hE E5 ⊢
            have cA : w9.cell? ⟨g, k - 1, none⟩ = some (.string (str (lc.getD (k - 1) []))) := by
              have := hE.cells (g := g) rfl (k - 1) _ (wt_get lc (k - 1) (by omega))
              rwa [Addr.add_lit, Nat.zero_add] at this
            have cB : w9.cell? ⟨g, k, none⟩ = some (.string (str (lc.getD k []))) := by
              have := hE.cells (g := g) rfl k _ (wt_get lc k (by omega))
              rwa [Addr.add_lit, Nat.zero_add] at this
            have hfz := World.ownsRow.frozenAt hE k
            have q1 : (0 : Int) ≤ (k : Int) - 1 := by omega
            have q2 : (k : Int) - 1 < (lc.length : Int) := by omega
            have q3 : ((k : Int) - 1).toNat = k - 1 := by omega
            have q4 : (k : Int) < (lc.length : Int) := by omega
            have F1 := Lib.hid (E5.out.set k (lc.getD (k - 1) []))
            have F2 := Lib.hid (E6.out.setCell (p := ⟨g, k, none⟩) ((hE.lt g rfl).1) (.string (str (lc.getD (k - 1) []))))
            have F3 := Lib.hid (all32_set hc32 k (hc32.get (k - 1) (by omega)))
            have F4 : (lc.set k (lc.getD (k - 1) [])).length = k + 1 := by simp [hcl]
            clear hE E5 E6 hc32 hlc hcl)
          go_roundw
          case rel => exact ⟨k + 1, la ++ [x], lc.set k (lc.getD (k - 1) []), by omega, by go_num, by simp [hla], F4, all32_snoc A1.out lx, F3.out, F1.out, F2.out⟩
          case measure => simp [intOf]; omega
        · have h3' : ((k : Int) % 3 == 2) = false := by simp [h3]
          go_wp2_with (at_builtin; refine wpList_append_own_at _ rfl _ _ 26 rfl w1.heap.size 9 i0 (.string ByteArray.empty) 1 16 Tryd.underlying26 HI.out hz0 hz1 hz2 rfl (by decide) _ _ _ rfl (D3.out.swap.1.alloc _) ⟨w8.heap.size, 0, none⟩ 1 1 [.string (str y)] rfl rfl (cell_one_new _ _ _) (wt_one [y]) (by unfold maxLen; omega) (by omega) (by rw [World.size_alloc]; omega) ?_; intro bv2 w9 hown5 hgr5 _ hob5)
          have E5 := Lib.hid (D3.out.swap.left hown5 hgr5 hob5).swap
          have E6 := Lib.hid ((D2.out.alloc D2s _).grown hgr5 (by rw [World.size_alloc]; omega) (fun k hk => (D3.out.swap.1.lt k hk).1))
          clear hown5 hgr5 hob5 D2 D3 D5 D6
          go_roundw
          case rel => exact ⟨k + 1, la ++ [x], lb ++ [y], by omega, by go_num, by simp [hla], by simp [hlb], all32_snoc A1.out lx, all32_snoc A2.out ly, E5.out, E6.out⟩
          case measure => simp [intOf]; omega
      · 
        go_wp2_with (at_builtin; refine wpList_append_own_at _ rfl _ _ 26 rfl w1.heap.size 9 i0 (.string ByteArray.empty) 1 16 Tryd.underlying26 HI.out hz0 hz1 hz2 rfl (by decide) _ _ _ rfl (D3.out.swap.1.alloc _) ⟨w8.heap.size, 0, none⟩ 1 1 [.string (str y)] rfl rfl (cell_one_new _ _ _) (wt_one [y]) (by unfold maxLen; omega) (by omega) (by rw [World.size_alloc]; omega) ?_; intro bv2 w9 hown5 hgr5 _ hob5)
        have E5 := Lib.hid (D3.out.swap.left hown5 hgr5 hob5).swap
        have E6 := Lib.hid ((D2.out.alloc D2s _).grown hgr5 (by rw [World.size_alloc]; omega) (fun k hk => (D3.out.swap.1.lt k hk).1))
        clear hown5 hgr5 hob5 D2 D3 D5 D6
        go_roundw
        case rel => exact ⟨k + 1, la ++ [x], lb ++ [y], by omega, by go_num, by simp [hla], by simp [hlb], all32_snoc A1.out lx, all32_snoc A2.out ly, E5.out, E6.out⟩
        case measure => simp [intOf]; omega
    · obtain rfl : k = N := by omega
      obtain ⟨g1, c1, hav⟩ := own_pos A3.out.1 (by omega)
      obtain ⟨g2, c2, hbv⟩ := own_pos A3.out.2.1 (by omega)
      subst hav hbv
      have hb0 := A2.out.get 0 (by omega)
      have ha0 := A1.out.get 0 (by omega)
      have cA0 := (A3.out.1.cells (g := g1) rfl 0 _ (wt_get la 0 (by omega)))
      have cB0 := (A3.out.2.1.cells (g := g2) rfl 0 _ (wt_get lb 0 (by omega)))
      rw [Addr.add_lit] at cA0 cB0
      have hg1 := (A3.out.1.lt g1 rfl).2
      have hg2 := (A3.out.2.1.lt g2 rfl).2
      have tA : Texts wr (.slice (some ⟨g1, 0, none⟩) la.length c1) la := own_texts A3.out.1 rfl
      have tB : Texts wr (.slice (some ⟨g2, 0, none⟩) lb.length c2) lb := own_texts A3.out.2.1 rfl
      have wsz := A4.out.size
      have hla1 : (0 : Int) < (la.length : Int) := by omega
      have hlb1 : (0 : Int) < (lb.length : Int) := by omega
      have hone : k = 1 → la.getD 0 [] = (Mk.root la false).1 ∧ (Mk.root la false).2 = false := fun h1 => by
        rw [Mk.root_one la false (by omega)]; exact ⟨by cases la <;> simp_all, rfl⟩
      obtain ⟨b0, hb0e⟩ : ∃ b0, b0 = lb.getD 0 [] := ⟨_, rfl⟩
      obtain ⟨a0, ha0e⟩ : ∃ a0, a0 = la.getD 0 [] := ⟨_, rfl⟩
      rw [← hb0e] at hb0 cB0
      rw [← ha0e] at ha0 cA0 hone
      have hb0' : (str b0).size = 32 := by rw [str_size, hb0]
      rw [hla] at tA hla1
      rw [hlb] at tB hlb1
      rw [Nat.add_zero] at cA0 cB0
      have R1 := Lib.hid (rroot_calls _ la wr (HT.out.below A4.out h1) tA (by omega))
      rw [answer_ok A1.out (by omega)] at R1
      clear hb0e
      have SA := src_own A3.out.1
      have SB := src_own A3.out.2.1
      go_wp2_with fail
      refine R1.out.mono ?_
      rintro e2 w2 ⟨rfl, hb2⟩
      have B2 := Lib.hid hb2
      have R2 := Lib.hid (rroot_calls _ lb w2 (HT.out.below (A4.out.trans (hb2.mono wsz)) h1) (tB.below hb2 (Nat.le_refl _)) (by omega))
      rw [answer_ok A2.out (by omega)] at R2
      clear hb2 R1
      go_wp2_with fail
      refine R2.out.mono ?_
      rintro e3 w3 ⟨rfl, hb3⟩
      have B3 := Lib.hid (B2.out.trans (hb3.mono B2.out.size))
      have B3s := B3.out.size
      clear hb3 R2
      have SA3 := SA.below B3.out hg1
      have SB3 := SB.below B3.out hg2
      go_wp2_with (first
        | (at_builtin; refine wpList_append_own _ rfl _ _ 26 rfl w3.heap.size 9 i0 (.string ByteArray.empty) 1 16 Tryd.underlying26 HI.out hz0 hz1 hz2 rfl (by decide) _ _ _ rfl hown4 ⟨g2, 0, none⟩ k c2 (wt lb) rfl (by rw [wt_length]; omega) SB4 (wt_one _) (by unfold maxLen; omega) (by omega) hbz4 ?_
           intro v5 w5 hown5 hgr5 _
           have hb5 := hb4.trans ((Below.refl w3.heap.size _).grown hgr5 hbz4 (fun k hk => (hown4.lt k hk).1))
           clear hown4 hgr5 hb4 hbz4 SB4)
        | (at_builtin; refine wpList_append_own _ rfl _ _ 26 rfl w3.heap.size 9 i0 (.string ByteArray.empty) 1 16 Tryd.underlying26 HI.out hz0 hz1 hz2 rfl (by decide) _ 0 [] rfl (World.ownsRow_nil _ _ _ _) ⟨g1, 0, none⟩ k c1 (wt la) rfl (by rw [wt_length]; omega) SA3 (wt_one _) (by unfold maxLen; omega) (by omega) (Nat.le_refl _) ?_
           intro v4 w4 hown4 hgr4 _
           have hb4 := (Below.refl w3.heap.size w3).grown hgr4 (Nat.le_refl _) (fun k hk => by cases hk)
           have SB4 := SB3.below hb4 (by omega)
           have hbz4 := hb4.size
           clear hgr4))
      rw [List.nil_append, wt_append] at hown5
      have hn5 : 0 + k + k = (la ++ lb).length := by simp; omega
      have tAB : Texts w5 v5 (la ++ lb) := own_texts hown5 hn5
      have B5 := Lib.hid (B3.out.trans (hb5.mono B3s))
      have R3 := Lib.hid (rroot_calls _ (la ++ lb) w5 (HT.out.below (A4.out.trans (B5.out.mono wsz)) h1) tAB (by simp; omega))
      obtain ⟨q, hq⟩ := HP
      rw [answer_ok (all32_append A1.out A2.out) (by simp; omega), Mk.root_two q la lb (by omega) (by omega)] at R3
      have Heven := Lib.hid (show k ≠ 1 → k % 2 = 0 from fun hne => by
        rcases q with _ | q
        · exact absurd hq hne
        · rw [hq, Nat.pow_succ]; omega)
      clear hb5 hown5 hn5 tAB hq ha0e q SA3 SB3 tA tB
      have lra : (Mk.root la false).1.length = 32 := Mk.root_len la A1.out (by omega)
      have lrb : (Mk.root lb false).1.length = 32 := Mk.root_len lb A2.out (by omega)
      generalize (Mk.root la false).1 = ra at lra hone R3 ⊢
      generalize (Mk.root la false).2 = sa at hone R3 ⊢
      generalize (Mk.root lb false).1 = rb at lrb R3 ⊢
      generalize (Mk.root lb false).2 = sb at R3 ⊢
      refine R3.out.mono ?_
      rintro e6 w6 ⟨rfl, hb6⟩
      have B6 := Lib.hid (B5.out.trans (hb6.mono B5.out.size))
      clear hb6 R3 B5
      have cA6 := (World.cell?_of_block (w := wr) (B6.out.block g1 hg1)).trans cA0
      have Hone := Lib.hid hone
      clear hone
      go_upto_region 16 with fail
      go_cut [119] from 96 (fun tv wx => tv = .bool false ∧ wx = w6)
      case first =>
        by_cases hk1 : k = 1
        · obtain ⟨e1, e2⟩ := Hone.out hk1
          subst e1 e2
          have hkb : ((k : Int) == 1) = true := by simp [hk1]
          clear hk1
          go_wp2_with fail
          go_meet
          case rel => exact ⟨by simp, rfl⟩
        · have hkb : ((k : Int) == 1) = false := by simp; omega
          clear hk1
          go_wp2_with fail
          go_meet
          case rel => exact ⟨rfl, rfl⟩
      case rest =>
        obtain ⟨rfl, rfl⟩ := hcut
        have htw : Mk.twice (ra ++ rb) = Sha.sum (Sha.sum (ra ++ rb)) := rfl
        obtain ⟨cc, hcc⟩ : ∃ cc, (ra == rb) = cc := ⟨_, rfl⟩
        have Hcc := Lib.hid hcc
        obtain ⟨X2, hX2⟩ : ∃ X2, Sha.sum (Sha.sum (ra ++ rb)) = X2 := ⟨_, rfl⟩
        rw [htw, hX2, hcc]
        have HX2 := Lib.hid hX2
        have HTc := HT.out.below (A4.out.trans (B6.out.mono wsz)) h1
        have B6s := B6.out.size
        clear htw hcc hX2
        have hlr : (ra ++ rb).length = 64 := by simp; omega
        go_upto_region 18 with fail
        go_cut [139] from 120 (fun tv wx => tv = .bool false ∧ Below wr.heap.size wr wx)
        case first =>
          go_wp2_with fail
          refine (relaySum_calls (ra ++ rb) wc HTc (by omega)).mono ?_
          rintro e7 w7 ⟨rfl, hb7⟩
          have hlX : (Sha.sum (ra ++ rb)).length = 32 := Sha.sum32 _
          have HTd := HTc.below hb7 (by omega)
          go_wp2_with fail
          refine (relaySum_calls (Sha.sum (ra ++ rb)) w7 HTd (by omega)).mono ?_
          rintro e8 w8 ⟨rfl, hb8⟩
          have B8 := (B6.out.trans (hb7.mono B6s)).trans (hb8.mono (Nat.le_trans B6s hb7.size))
          rw [HX2.out]
          have B9 := Lib.hid B8
          clear hb7 hb8 B8 HTd hlX
          cases sa <;> cases sb <;> cases cc
          all_goals
            go_wp2_with fail
            go_meet
            case rel => exact ⟨by first | rfl | (rw [Hcc.out]; done) | (rw [Hcc.out]; rfl), B9.out⟩
        case rest =>
          obtain ⟨rfl, B7⟩ := hcut
          clear B6 Hcc HX2 HTc Hone
          have B7s := B7.size
          have cB7 := (World.cell?_of_block (w := wr) (B7.block g2 hg2)).trans cB0
          have SA7 := SA.below B7 hg1
          have B8 := Lib.hid B7
          clear B7
          go_upto_region 20 with fail
          go_cut [17] from 140 (fun ov wx => Below wr.heap.size wr wx ∧ wx.ownsRow wr.heap.size 9 1 ov (k + 1) (wt (la ++ [b0])))
          case first =>
            have hu : ∀ u : Reg.Of (fun u => u.cell? ⟨g2, 0, none⟩ = some (.string (str b0))), u.w.cell? ⟨g2, 0, none⟩ = some (.string (str b0)) := fun u => u.h
            haveI hne : Nonempty (Reg.Of (fun u => u.cell? ⟨g2, 0, none⟩ = some (.string (str b0)))) := ⟨⟨wc, cB7⟩⟩
            refine Reg.startL [0, 2, 3, 4] 4 mixed (by kernel_rfl) rfl rfl (fun c a d v w h => by cases d <;> exact h) (by as_aux_lemma => kernel_rfl) rfl (fun u => u.cell? ⟨g2, 0, none⟩ = some (.string (str b0))) cB7 ?_
            show wpQuiet _ _ _ _ [_, _, _, _] _
            repeat (go_big_quiet_step (fail))
            refine wpQuiet_nil ?_
            have hb5 := B8.out.drew
            have cL5 : wc.drew.cell? ⟨g2, 0, none⟩ = some (.string (str b0)) := cB7
            have SA5 : Src1 wc.drew g1 (wt la) := SA7
            have hz5 : wr.heap.size ≤ wc.drew.heap.size := B7s
            clear hu hne cB7 SA7 B8 B7s
            generalize wc.drew = w5 at hb5 cL5 SA5 hz5 ⊢
            have had1 : g1 < w5.heap.size := by omega
            have had2 : g2 < w5.heap.size := by omega
            have hSB : ∀ w', Below w5.heap.size w5 w' → Reg.cls (fun u => u.cell? ⟨g2, 0, none⟩ = some (.string (str b0))) w' := fun w' hw' => Reg.cls_mk (by rw [← cL5]; exact World.cell?_of_block (w := w5) (hw'.block _ had2))
            refine Reg.two 1 5 _ _ (by kernel_rfl) rfl rfl rfl rfl ?_ ?_
            · (refine wpList_append_own _ rfl _ _ 26 rfl w5.heap.size 9 i0 (.string ByteArray.empty) 1 16 Tryd.underlying26 HI.out hz0 hz1 hz2 rfl (by decide) _ 0 [] rfl (World.ownsRow_nil _ _ _ _) ⟨g1, 0, none⟩ k c1 (wt la) rfl (by rw [wt_length]; omega) SA5 (wt_one _) (by unfold maxLen; omega) (by omega) (Nat.le_refl _) ?_; intro v1 w6 hown6 hgr6 _)
              have hb6 : Below w5.heap.size w5 w6 := (Below.refl _ _).grown hgr6 (Nat.le_refl _) (fun k hk => by cases hk)
              rw [List.nil_append] at hown6
              refine ⟨hSB _ hb6, ?_⟩
              refine Reg.one 5 _ (by kernel_rfl) rfl rfl ?_
              go_frame
              go_wp2_with fail
              have hs7 : (w6.alloc (.cells #[.string (str b0)] 9)).heap.size = w6.heap.size + 1 := by simp
              have hb7 := hb6.alloc hb6.size (.cells #[.string (str b0)] 9)
              refine ⟨hSB _ hb7, ?_⟩
              refine Reg.one 6 _ (by kernel_rfl) rfl rfl ?_
              refine wpList_append_own _ rfl _ _ 26 rfl w5.heap.size 9 i0 (.string ByteArray.empty) 1 16 Tryd.underlying26 HI.out hz0 hz1 hz2 rfl (by decide) _ _ _ rfl (hown6.alloc _) ⟨w6.heap.size, 0, none⟩ 1 1 [.string (str b0)] rfl rfl (cell_one_new _ _ _) (wt_one [b0]) (by unfold maxLen; omega) (by omega) (by have := hb6.size; omega) ?_
              intro v2 w8 hown8 hgr8 _
              have hb8 := hb7.trans ((Below.refl w5.heap.size _).grown hgr8 (by have := hb6.size; omega) (fun k hk => (hown6.lt k hk).1))
              refine ⟨hSB _ hb8, ?_⟩
              refine Reg.one 7 _ (by kernel_rfl) rfl rfl ?_
              go_frame
              go_wp2_with fail
              refine ⟨hSB _ hb8, ?_⟩
              refine wpAnyH_done (by kernel_rfl) ?_ 0
              rw [wt_snoc, Nat.zero_add] at hown8
              go_wp2_with fail
              go_meet
              case rel => exact ⟨hb5.trans (hb8.mono hz5), own_le hown8 hz5⟩
            · go_wp2_with fail
              have hs7 : (w5.alloc (.cells #[.string (str b0)] 9)).heap.size = w5.heap.size + 1 := by simp
              have hb7 := (Below.refl w5.heap.size w5).alloc (Nat.le_refl _) (.cells #[.string (str b0)] 9)
              have SA8 := SA5.below hb7 had1
              have cL7 := (Row.new w5 [.string (str b0)] 9).cell 0
              refine ⟨hSB _ hb7, ?_⟩
              refine Reg.one 1 _ (by kernel_rfl) rfl rfl ?_
              refine wpList_append_own _ rfl _ _ 26 rfl (w5.heap.size + 1) 9 i0 (.string ByteArray.empty) 1 16 Tryd.underlying26 HI.out hz0 hz1 hz2 rfl (by decide) _ 0 [] rfl (World.ownsRow_nil _ _ _ _) ⟨g1, 0, none⟩ k c1 (wt la) rfl (by rw [wt_length]; omega) SA8 (wt_one _) (by unfold maxLen; omega) (by omega) (by omega) ?_
              intro v1 w6 hown6 hgr6 _
              have hb67 : Below (w5.heap.size + 1) (w5.alloc (.cells #[.string (str b0)] 9)) w6 := (Below.refl _ _).grown hgr6 (by omega) (fun k hk => by cases hk)
              have hb6 := hb7.trans (hb67.mono (by omega))
              rw [List.nil_append] at hown6
              refine ⟨hSB _ hb6, ?_⟩
              refine Reg.one 6 _ (by kernel_rfl) rfl rfl ?_
              refine wpList_append_own _ rfl _ _ 26 rfl (w5.heap.size + 1) 9 i0 (.string ByteArray.empty) 1 16 Tryd.underlying26 HI.out hz0 hz1 hz2 rfl (by decide) _ _ _ rfl hown6 ⟨w5.heap.size, 0, none⟩ 1 1 [.string (str b0)] rfl rfl (fun j u hu => by
                cases j with
                | zero =>
                  simp at hu; rw [← hu]
                  exact (World.cell?_of_block (w := w5.alloc (.cells #[.string (str b0)] 9)) (hb67.block _ (by show w5.heap.size < _; omega))).trans cL7
                | succ j => simp at hu) (wt_one [b0]) (by unfold maxLen; omega) (by omega) (by have := hb67.size; omega) ?_
              intro v2 w8 hown8 hgr8 _
              have hb8 := hb6.trans ((Below.refl w5.heap.size _).grown hgr8 (by have := hb6.size; omega) (fun k hk => by have := (hown6.lt k hk).1; omega))
              refine ⟨hSB _ hb8, ?_⟩
              refine Reg.one 7 _ (by kernel_rfl) rfl rfl ?_
              go_frame
              go_wp2_with fail
              refine ⟨hSB _ hb8, ?_⟩
              refine wpAnyH_done (by kernel_rfl) ?_ 0
              rw [wt_snoc, Nat.zero_add] at hown8
              go_wp2_with fail
              go_meet
              case rel => exact ⟨hb5.trans (hb8.mono hz5), own_le hown8 (by omega)⟩
          case rest =>
            obtain ⟨B9, hodd⟩ := hcut
            have B9' := Lib.hid B9
            have B9s := B9.size
            have HO9 := Lib.hid hodd
            have cB9 := (World.cell?_of_block (w := wr) (B9.block g2 hg2)).trans cB0
            clear B9 hodd cB7 SA7 B8
            go_upto_if 148 with fail
            go_cut [17] from 148 (fun ov wx => ∃ ls : List (List UInt8), 1 < ls.length ∧ ls.length ≤ 20 ∧ ls.length % 2 = 1 ∧ All32 ls ∧ Below wr.heap.size wr wx ∧ wx.ownsRow wr.heap.size 9 1 ov ls.length (wt ls))
            case first =>
              by_cases hk1 : k = 1
              · have hkb : ((k : Int) == 1) = true := by simp [hk1]
                have hl1 : (la ++ [b0] ++ [b0.tail ++ [120]]).length = 3 := by simp; omega
                have h32' := all32_snoc (all32_snoc A1.out hb0) (show (b0.tail ++ [120]).length = 32 by simp; omega)
                have hkl : k + 1 + 1 = 3 := by omega
                clear hk1
                go_wp2_with (at_builtin; refine wpList_append_own _ rfl _ _ 26 rfl wr.heap.size 9 i0 (.string ByteArray.empty) 1 16 Tryd.underlying26 HI.out hz0 hz1 hz2 rfl (by decide) _ _ _ rfl (HO9.out.alloc _) ⟨wc.heap.size, 0, none⟩ 1 1 [.string (str (b0.tail ++ [120]))] rfl rfl (cell_one_new _ _ _) (wt_one [b0.tail ++ [120]]) (by unfold maxLen; omega) (by omega) (by rw [World.size_alloc]; omega) ?_; intro v10 w10 hown10 hgr10 _)
                rw [wt_snoc, hkl, ← hl1] at hown10
                have hb10 := (B9'.out.alloc B9s _).grown hgr10 (by rw [World.size_alloc]; omega) (fun k hk => (HO9.out.lt k hk).1)
                go_meet
                case rel => exact ⟨_, by omega, by omega, by omega, h32', hb10, hown10⟩
              · have hkb : ((k : Int) == 1) = false := by simp; omega
                have hkk := Heven.out hk1
                have h32' := all32_snoc A1.out hb0
                have hl1 : (la ++ [b0]).length = k + 1 := by simp; omega
                have HO := HO9.out
                rw [← hl1] at HO
                clear hk1
                go_wp2_with fail
                go_meet
                case rel => exact ⟨la ++ [b0], by omega, by omega, by omega, h32', B9'.out, HO⟩
            case rest =>
              obtain ⟨ls, hls1, hls2, hls3, hls32, hB10, hO10⟩ := hcut
              obtain ⟨go, co, hov⟩ := own_pos hO10 (by omega)
              subst hov
              have hlo := (hO10.lt go rfl).2
              obtain ⟨L, hLe⟩ : ∃ L, L = ls.getD (ls.length - 1) [] := ⟨_, rfl⟩
              have hL32 : L.length = 32 := hLe ▸ hls32.get (ls.length - 1) (by omega)
              have cL := hO10.cells (g := go) rfl (ls.length - 1) _ (wt_get ls (ls.length - 1) (by omega))
              rw [Addr.add_lit, Nat.zero_add, ← hLe] at cL
              have SO := src_own hO10
              have tO : Texts wc (.slice (some ⟨go, 0, none⟩) ls.length co) ls := own_texts hO10 rfl
              have HR := Lib.hid (rroot_calls _ ls wc (HT.out.below (A4.out.trans (hB10.mono wsz)) h1) tO (by omega))
              rw [answer_ok hls32 (by omega)] at HR
              have Hodd := Lib.hid (Mk.root_odd ls hls3 hls1)
              rw [← hLe] at Hodd
              have Ha32 := Lib.hid (all32_snoc hls32 hL32)
              have HB := Lib.hid hB10
              have HBs := hB10.size
              clear hO10 tO hLe hB10 hls32 HO9 B9' cB9 hls3
              go_wp2_with fail
              refine HR.out.mono ?_
              rintro e11 w11 ⟨rfl, hb11⟩
              have HB11 := Lib.hid (HB.out.trans (hb11.mono HBs))
              have cL11 := (World.cell?_of_block (w := wc) (hb11.block go hlo)).trans cL
              have SO11 := SO.below hb11 hlo
              have hlo11 : go < w11.heap.size := by have := hb11.size; omega
              have HBs11 := HB11.out.size
              clear hb11 HR HB SO cL
              go_upto_region 24 with fail
              have hu : ∀ u : Reg.Of (fun u => u.cell? ⟨go, ls.length - 1, none⟩ = some (.string (str L))), u.w.cell? ⟨go, ls.length - 1, none⟩ = some (.string (str L)) := fun u => u.h
              haveI hne : Nonempty (Reg.Of (fun u => u.cell? ⟨go, ls.length - 1, none⟩ = some (.string (str L)))) := ⟨⟨w11, cL11⟩⟩
              have q1 : (0 : Int) ≤ (ls.length : Int) - 1 := by omega
              have q2 : (ls.length : Int) - 1 < (ls.length : Int) := by omega
              have q3 : ((ls.length : Int) - 1).toNat = ls.length - 1 := by omega
              refine Reg.startL [0, 2, 3, 4, 5, 6, 7] 11 mixed (by kernel_rfl) rfl rfl (fun c a d v w h => by cases d <;> exact h) (by as_aux_lemma => kernel_rfl) rfl (fun u => u.cell? ⟨go, ls.length - 1, none⟩ = some (.string (str L))) cL11 ?_
              show wpQuiet _ _ _ _ [_, _, _, _, _, _, _] _
              repeat (go_big_quiet_step (fail))
              refine wpQuiet_nil ?_
              have hb5 := HB11.out.drew
              have cL5 : w11.drew.cell? ⟨go, ls.length - 1, none⟩ = some (.string (str L)) := cL11
              have SA5 : Src1 w11.drew go (wt ls) := SO11
              have hz5 : wr.heap.size ≤ w11.drew.heap.size := HBs11
              have had2 : go < w11.drew.heap.size := hlo11
              clear cL11 SO11 HBs11 HB11 hlo11
              generalize w11.drew = w5 at hb5 cL5 SA5 hz5 had2 ⊢
              have hSB : ∀ w', Below w5.heap.size w5 w' → Reg.cls (fun u => u.cell? ⟨go, ls.length - 1, none⟩ = some (.string (str L))) w' := fun w' hw' => Reg.cls_mk (by rw [← cL5]; exact World.cell?_of_block (w := w5) (hw'.block _ had2))
              refine Reg.two 1 8 _ _ (by kernel_rfl) rfl rfl rfl rfl ?_ ?_
              · (refine wpList_append_own _ rfl _ _ 26 rfl w5.heap.size 9 i0 (.string ByteArray.empty) 1 16 Tryd.underlying26 HI.out hz0 hz1 hz2 rfl (by decide) _ 0 [] rfl (World.ownsRow_nil _ _ _ _) ⟨go, 0, none⟩ ls.length co (wt ls) rfl (by rw [wt_length]; omega) SA5 (wt_one _) (by unfold maxLen; omega) (by omega) (Nat.le_refl _) ?_; intro v1 w6 hown6 hgr6 _)
                have hb6 : Below w5.heap.size w5 w6 := (Below.refl _ _).grown hgr6 (Nat.le_refl _) (fun k hk => by cases hk)
                rw [List.nil_append, Nat.zero_add] at hown6
                refine ⟨hSB _ hb6, ?_⟩
                refine Reg.one 8 _ (by kernel_rfl) rfl rfl ?_
                go_frame
                go_wp2_with fail
                have hs7 : (w6.alloc (.cells #[.string (str L)] 9)).heap.size = w6.heap.size + 1 := by simp
                have hb7 := hb6.alloc hb6.size (.cells #[.string (str L)] 9)
                refine ⟨hSB _ hb7, ?_⟩
                refine Reg.one 9 _ (by kernel_rfl) rfl rfl ?_
                refine wpList_append_own _ rfl _ _ 26 rfl w5.heap.size 9 i0 (.string ByteArray.empty) 1 16 Tryd.underlying26 HI.out hz0 hz1 hz2 rfl (by decide) _ _ _ rfl (hown6.alloc _) ⟨w6.heap.size, 0, none⟩ 1 1 [.string (str L)] rfl rfl (cell_one_new _ _ _) (wt_one [L]) (by unfold maxLen; omega) (by omega) (by have := hb6.size; omega) ?_
                intro v2 w8 hown8 hgr8 _
                have hb8 := hb7.trans ((Below.refl w5.heap.size _).grown hgr8 (by have := hb6.size; omega) (fun k hk => (hown6.lt k hk).1))
                rw [wt_snoc] at hown8
                refine ⟨hSB _ hb8, ?_⟩
                have tO2 : Texts w8 v2 (ls ++ [L]) := own_texts hown8 (by rw [List.length_append]; rfl)
                have HR := Lib.hid (rroot_calls _ (ls ++ [L]) w8 (HT.out.below (A4.out.trans ((hb5.trans (hb8.mono hz5)).mono wsz)) h1) tO2 (by simp; omega))
                rw [answer_ok Ha32.out (by simp), Hodd.out.1, Hodd.out.2] at HR
                refine Reg.one 10 _ (by kernel_rfl) rfl rfl ?_
                go_frame
                go_wp2_with fail
                refine HR.out.mono ?_
                rintro e12 w12 ⟨rfl, hb12⟩
                have hb13 := hb8.trans (hb12.mono hb8.size)
                have HBf := Lib.hid (A4.out.trans ((hb5.trans (hb13.mono hz5)).mono wsz))
                go_wp2_with fail
                refine ⟨hSB _ hb13, ?_⟩
                refine Reg.restL [11, 12, 13, 14, 15, 16, 17] 0 (by rfl) (by kernel_rfl) (by rfl) (fun c a d v w h => by cases d <;> exact h) (by as_aux_lemma => kernel_rfl) (by rfl) (hSB _ hb13) ?_
                show wpQuiet _ _ _ _ [_, _, _, _, _, _, _] _
                clear hu hSB
                repeat (go_big_quiet_step (fail))
                refine wpQuiet_nil ?_
                refine wpAnyH_done (by kernel_rfl) ?_ 0
                go_wp2_with fail
                go_ret
                exact ⟨by simp, HBf.out⟩
              · go_wp2_with fail
                have hs7 : (w5.alloc (.cells #[.string (str L)] 9)).heap.size = w5.heap.size + 1 := by simp
                have hb7 := (Below.refl w5.heap.size w5).alloc (Nat.le_refl _) (.cells #[.string (str L)] 9)
                have SA8 := SA5.below hb7 had2
                have cL7 := (Row.new w5 [.string (str L)] 9).cell 0
                refine ⟨hSB _ hb7, ?_⟩
                refine Reg.one 1 _ (by kernel_rfl) rfl rfl ?_
                refine wpList_append_own _ rfl _ _ 26 rfl (w5.heap.size + 1) 9 i0 (.string ByteArray.empty) 1 16 Tryd.underlying26 HI.out hz0 hz1 hz2 rfl (by decide) _ 0 [] rfl (World.ownsRow_nil _ _ _ _) ⟨go, 0, none⟩ ls.length co (wt ls) rfl (by rw [wt_length]; omega) SA8 (wt_one _) (by unfold maxLen; omega) (by omega) (by omega) ?_
                intro v1 w6 hown6 hgr6 _
                have hb67 : Below (w5.heap.size + 1) (w5.alloc (.cells #[.string (str L)] 9)) w6 := (Below.refl _ _).grown hgr6 (by omega) (fun k hk => by cases hk)
                have hb6 := hb7.trans (hb67.mono (by omega))
                rw [List.nil_append, Nat.zero_add] at hown6
                refine ⟨hSB _ hb6, ?_⟩
                refine Reg.one 9 _ (by kernel_rfl) rfl rfl ?_
                refine wpList_append_own _ rfl _ _ 26 rfl (w5.heap.size + 1) 9 i0 (.string ByteArray.empty) 1 16 Tryd.underlying26 HI.out hz0 hz1 hz2 rfl (by decide) _ _ _ rfl hown6 ⟨w5.heap.size, 0, none⟩ 1 1 [.string (str L)] rfl rfl (fun j u hu => by
                  cases j with
                  | zero =>
                    simp at hu; rw [← hu]
                    exact (World.cell?_of_block (w := w5.alloc (.cells #[.string (str L)] 9)) (hb67.block _ (by show w5.heap.size < _; omega))).trans cL7
                  | succ j => simp at hu) (wt_one [L]) (by unfold maxLen; omega) (by omega) (by have := hb67.size; omega) ?_
                intro v2 w8 hown8 hgr8 _
                have hb8 := hb6.trans ((Below.refl w5.heap.size _).grown hgr8 (by have := hb6.size; omega) (fun k hk => by have := (hown6.lt k hk).1; omega))
                rw [wt_snoc] at hown8
                refine ⟨hSB _ hb8, ?_⟩
                have tO2 : Texts w8 v2 (ls ++ [L]) := own_texts hown8 (by rw [List.length_append]; rfl)
                have HR := Lib.hid (rroot_calls _ (ls ++ [L]) w8 (HT.out.below (A4.out.trans ((hb5.trans (hb8.mono hz5)).mono wsz)) h1) tO2 (by simp; omega))
                rw [answer_ok Ha32.out (by simp), Hodd.out.1, Hodd.out.2] at HR
                refine Reg.one 10 _ (by kernel_rfl) rfl rfl ?_
                go_frame
                go_wp2_with fail
                refine HR.out.mono ?_
                rintro e12 w12 ⟨rfl, hb12⟩
                have hb13 := hb8.trans (hb12.mono hb8.size)
                have HBf := Lib.hid (A4.out.trans ((hb5.trans (hb13.mono hz5)).mono wsz))
                go_wp2_with fail
                refine ⟨hSB _ hb13, ?_⟩
                refine Reg.restL [11, 12, 13, 14, 15, 16, 17] 0 (by rfl) (by kernel_rfl) (by rfl) (fun c a d v w h => by cases d <;> exact h) (by as_aux_lemma => kernel_rfl) (by rfl) (hSB _ hb13) ?_
                show wpQuiet _ _ _ _ [_, _, _, _, _, _, _] _
                clear hu hSB
                repeat (go_big_quiet_step (fail))
                refine wpQuiet_nil ?_
                refine wpAnyH_done (by kernel_rfl) ?_ 0
                go_wp2_with fail
                go_ret
                exact ⟨by simp, HBf.out⟩
end Go.Proofs.YtlpcjiollnnmgaaDoor
