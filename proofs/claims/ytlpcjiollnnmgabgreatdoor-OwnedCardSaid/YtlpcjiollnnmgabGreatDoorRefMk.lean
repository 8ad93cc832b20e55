/-
  THE WALKS OF THE REFERENCE's Twice, Root.
-/
import Derived.Test.YtlpcjiollnnmgabGreatDoorTexts
import Derived.Test.YtlpcjiollnnmgabGreatDoorRefSum
import Derived.Test.YtlpcjiollnnmgabGreatDoorRRoot
namespace Go.Proofs.YtlpcjiollnnmgabGreatDoor
open Go.RowKit Nums
theorem Tbl.below {B t hb hc kb kc : Nat} {w w' : World} (h : Tbl w t hb hc kb kc) (hB : Below B w w') (h1 : t < B) (h2 : hb < B) (h3 : kb < B) : Tbl w' t hb hc kb kc :=
  ⟨(hB.cell (p := ⟨t, 0, none⟩) h1).trans h.h, (hB.cell (p := ⟨t, 1, none⟩) h1).trans h.k, h.hl.below hB h2, h.kl.below hB h3⟩
/-- the tables, all below the heap's end -/
structure TB (w : World) (t : Nat) : Prop where
  ex : ∃ hb hc kb kc, Tbl w t hb hc kb kc ∧ hb < w.heap.size ∧ kb < w.heap.size
  lt : t < w.heap.size
theorem TB.below {t : Nat} {w w' : World} (h : TB w t) (hB : Below w.heap.size w w') : TB w' t := by
  obtain ⟨hb, hc, kb, kc, h1, h2, h3⟩ := h.ex
  exact ⟨⟨hb, hc, kb, kc, h1.below hB h.lt h2 h3, Nat.lt_of_lt_of_le h2 hB.size, Nat.lt_of_lt_of_le h3 hB.size⟩, Nat.lt_of_lt_of_le h.lt hB.size⟩
theorem TB.sum {t : Nat} {w : World} (h : TB w t) (l : List UInt8) (hm : l.length ≤ 35184372088832) :
    Calls Tryz.prog 125 #[.pointer (some ⟨t, 0, none⟩), .string (str l)] w fun e w' => e = .returned (.string (str (Sha.sum l))) ∧ Below w.heap.size w w' := by
  obtain ⟨hb, hc, kb, kc, h1, h2, h3⟩ := h.ex
  exact rsum_calls t hb hc kb kc l w h1 h2 h3 hm
theorem newT_calls (w : World) : Calls Tryz.prog 27 #[] w fun e w' => ∃ t, e = .returned (.pointer (some ⟨t, 0, none⟩)) ∧ TB w' t ∧ Below w.heap.size w w' :=
  (newTables_calls w).mono fun e w' ⟨t, hb, hc, kb, kc, he, hT, _, _, _, hB⟩ => ⟨t, he, ⟨⟨hb, hc, kb, kc, hT, hT.hl.lt (by decide), hT.kl.lt (by decide)⟩, block_lt_of_cell hT.h⟩, hB⟩
theorem rtwice_calls (t : Nat) (l : List UInt8) (w : World) (hT : TB w t) (hm : l.length ≤ 35184372088832) :
    Calls Tryz.prog 101 #[.pointer (some ⟨t, 0, none⟩), .string (str l)] w fun e w' => e = .returned (.string (str (Mk.twice l))) ∧ Below w.heap.size w w' := by
  have h1 := hT.sum l hm
  have hl := Sha.sum32 l
  have H1 := Lib.hid h1
  have H2 := Lib.hid hT
  clear h1 hT
  go_enter Tryz.func101, Tryz.ntmps101
  go_wp2_with fail
  refine H1.out.mono ?_
  rintro e w2 ⟨rfl, hB⟩
  have h2 := (H2.out.below hB).sum (Sha.sum l) (by omega)
  have H3 := Lib.hid h2
  have H4 := Lib.hid hB
  clear h2 hB
  go_wp2_with fail
  refine H3.out.mono ?_
  rintro e w3 ⟨rfl, hB3⟩
  have H5 := Lib.hid (H4.out.trans (hB3.mono H4.out.size))
  clear hB3
  go_wp2_with fail
  go_ret
  exact ⟨rfl, H5.out⟩
theorem own_texts {w : World} {B n : Nat} {e : TypeId} {v : Value} {l : List (List UInt8)} (h : w.ownsRow B e 1 v n (wt l)) (hn : n = l.length) : Texts w v l := by
  by_cases h0 : n = 0
  · obtain ⟨a, c, rfl⟩ := own_lenN h
    exact .inl ⟨a, c, by rw [h0], List.length_eq_zero_iff.1 (by omega)⟩
  · obtain ⟨g, cap, rfl, _, hg, hc, _⟩ := own_open h (by omega)
    exact .inr ⟨g, 0, cap, by rw [hn], hg, fun j hj => by rw [Nat.zero_add, hc j (by omega), wt_get l j hj]⟩
theorem Texts.open {w : World} {v : Value} {ss : List (List UInt8)} (h : Texts w v ss) (hn : 0 < ss.length) :
    ∃ b o c, v = .slice (some ⟨b, o, none⟩) ss.length c ∧ b < w.heap.size ∧ Parts w b o ss := by
  rcases h with ⟨_, _, _, rfl⟩ | h
  · simp at hn
  · exact h
theorem src_texts {w : World} {b o : Nat} {ss : List (List UInt8)} (h : Parts w b o ss) : ∀ (j : Nat) (u : Value), (wt ss)[j]? = some u → w.cell? (Addr.add ⟨b, o, none⟩ j) = some u := fun j u hu => by
  have hj : j < ss.length := by have := (List.getElem?_eq_some_iff.1 hu).1; rwa [wt_length] at this
  rw [Addr.add_lit, h j hj, ← hu, wt_get ss j hj]
set_option maxRecDepth 100000 in
set_option maxHeartbeats 4000000 in
theorem rroot2_calls (t : Nat) (v : Value) (ss : List (List UInt8)) (w : World) (hT : TB w t) (hv : Texts w v ss) (h32 : All32 ss) (hn : 0 < ss.length) (hm : ss.length ≤ 1000) :
    Calls Tryz.prog 133 #[.pointer (some ⟨t, 0, none⟩), v] w fun e w' =>
      e = .returned (.tuple #[.string (str (Mk.root ss false).1), .bool (Mk.root ss false).2]) ∧ Below w.heap.size w w' := by
  obtain ⟨i0, hi0, hz0, hz1, hz2⟩ := info_parts infoStr
  have HT := Lib.hid hT
  have HV := Lib.hid hv
  have H32 := Lib.hid h32
  have HI := Lib.hid hi0
  clear hT hv h32 hi0
  go_enter Tryz.func133, Tryz.ntmps133
  go_wp2_with fail
  go_loopw [1, 6] (fun lv mv wr => ∃ (gb go k : Nat) (ls : List (List UInt8)), 0 < ls.length ∧ ls.length ≤ ss.length ∧ lv = .slice (some ⟨gb, go, none⟩) ls.length k ∧ mv = .bool (bOf mv) ∧ gb < wr.heap.size ∧ Parts wr gb go ls ∧ All32 ls ∧ Mk.root ss false = Mk.root ls (bOf mv) ∧ Below w.heap.size w wr) (fun lv _ _ => sLen lv)
  case atStart =>
    obtain ⟨gb, go, k, hv1, hv2, hv3⟩ := HV.out.open hn
    exact ⟨gb, go, k, ss, hn, Nat.le_refl _, hv1, rfl, hv2, hv3, H32.out, rfl, Below.refl _ _⟩
  case round =>
    obtain ⟨gb, go, k, ls, hls, hle, rfl, hmv, had, hcs, ha32, hroot, hB⟩ := hrel
    obtain ⟨m, rfl⟩ : ∃ m, u6 = .bool m := ⟨_, hmv⟩
    replace hroot : Mk.root ss false = Mk.root ls m := hroot
    clear hmv
    have B1 := Lib.hid hcs
    have B2 := Lib.hid ha32
    have B3 := Lib.hid hroot
    have B4 := Lib.hid hB
    have hBs := hB.size
    by_cases hl1 : 1 < ls.length
    · have p0 : (1 : Int) < (ls.length : Int) := by omega
      clear hcs ha32 hroot hB
      go_wp2_with fail
      obtain ⟨wo, rfl⟩ : ∃ wo : World, wo = wr := ⟨_, rfl⟩
      go_loopw [6, 7] (fun mv iv wr => ∃ (q : Nat), 2 * q ≤ ls.length + 1 ∧ iv = .int .i64 ((2 * q : Nat) : Int) ∧ mv = .bool (bOf mv) ∧ (m || Mk.twin ls) = (bOf mv || Mk.twin (ls.drop (2 * q))) ∧ ∃ z, wr = wo.drewN z) (fun _ iv _ => ls.length + 1 - (intOf iv).toNat)
      case atStart => exact ⟨0, by omega, rfl, rfl, rfl, 0, rfl⟩
      case round =>
        obtain ⟨q, hq, rfl, hmv, htw, z, rfl⟩ := hrel
        obtain ⟨m', rfl⟩ : ∃ m', u6 = .bool m' := ⟨_, hmv⟩
        replace htw : (m || Mk.twin ls) = (m' || Mk.twin (ls.drop (2 * q))) := htw
        clear hmv
        by_cases hlt : 2 * q + 1 < ls.length
        · have p1 : 2 * (q : Int) + 1 < (ls.length : Int) := by omega
          have p2 : (0 : Int) ≤ 2 * (q : Int) := by omega
          have p3 : (0 : Int) ≤ 2 * (q : Int) + 1 := by omega
          have p4 : 2 * (q : Int) < (ls.length : Int) := by omega
          have cA := B1.out (2 * q) (by omega)
          have cB := B1.out (2 * q + 1) hlt
          have ht2 := Mk.twin_pair ls (2 * q) hlt
          rw [ht2] at htw
          have C1 := Lib.hid htw
          clear htw ht2
          generalize ls.getD (2 * q) [] = A at cA C1
          generalize ls.getD (2 * q + 1) [] = B at cB C1
          cases m'
          · go_wp2_with fail
            go_quiet (fail)
            go_wp2_with fail
            go_roundw
            case rel => exact ⟨q + 1, by omega, by go_num, rfl, by rw [C1.out]; simp [bOf]; rfl, _, rfl⟩
            case measure => simp [intOf]; omega
          · go_wp2_with fail
            go_quiet (fail)
            go_wp2_with fail
            go_roundw
            case rel => exact ⟨q + 1, by omega, by go_num, rfl, by rw [C1.out]; simp [bOf], _, rfl⟩
            case measure => simp [intOf]; omega
        · have p1 : ¬ (2 * (q : Int) + 1 < (ls.length : Int)) := by omega
          rw [Mk.twin_end ls (2 * q) (by omega), Bool.or_false] at htw
          have D0 := Lib.hid htw
          clear htw
          by_cases hodd : ls.length % 2 = 1
          · have p2 : (ls.length : Int) % 2 = 1 := by omega
            have p5 : (0 : Int) ≤ (ls.length : Int) - 1 := by omega
            have p6 : (ls.length : Int) - 1 < (ls.length : Int) := by omega
            have p7 : ((ls.length : Int) - 1).toNat = ls.length - 1 := by omega
            have cL := B1.out (ls.length - 1) (by omega)
            have hu2 := Mk.up_odd ls hodd
            have lL := B2.out.get (ls.length - 1) (by omega)
            generalize ls.getD (ls.length - 1) [] = L at cL hu2 lL
            have D1 := Lib.hid hu2
            have D2 := Lib.hid (all32_snoc B2.out lL)
            clear hu2
            go_wp2_with fail
            have cL0 : (wo.drewN z).cell? ⟨gb, go + (ls.length - 1), none⟩ = some (.string (str L)) := cL
            have cP0 : Parts (wo.drewN z) gb go ls := B1.out
            have had0 : gb < (wo.drewN z).heap.size := had
            have hb0 : Below wo.heap.size wo (wo.drewN z) := below_drewN (Below.refl _ _) z
            generalize wo.drewN z = wz at cL0 cP0 had0 hb0 ⊢
            have hu : ∀ u : Reg.Of (fun u => u.cell? ⟨gb, go + (ls.length - 1), none⟩ = some (.string (str L))), u.w.cell? ⟨gb, go + (ls.length - 1), none⟩ = some (.string (str L)) := fun u => u.h
            haveI hne : Nonempty (Reg.Of (fun u => u.cell? ⟨gb, go + (ls.length - 1), none⟩ = some (.string (str L)))) := ⟨⟨wz, cL0⟩⟩
            refine Reg.startL [0, 2, 3, 4, 5, 6, 7] 4 mixed (by kernel_rfl) rfl rfl (fun c a d v w h => by cases d <;> exact h) (by as_aux_lemma => kernel_rfl) rfl (fun u => u.cell? ⟨gb, go + (ls.length - 1), none⟩ = some (.string (str L))) cL0 ?_
            show wpQuiet _ _ _ _ [_, _, _, _, _, _, _] _
            repeat (go_big_quiet_step (fail))
            refine wpQuiet_nil ?_
            have hb5 := hb0.drew
            have cP5 : Parts wz.drew gb go ls := cP0
            have cL5 : wz.drew.cell? ⟨gb, go + (ls.length - 1), none⟩ = some (.string (str L)) := cL0
            have had5 : gb < wz.drew.heap.size := had0
            clear hu hne cP0 cL0 had0 hb0
            generalize wz.drew = w5 at hb5 cP5 cL5 had5 ⊢
            have hSB : ∀ w', Below w5.heap.size w5 w' → Reg.cls (fun u => u.cell? ⟨gb, go + (ls.length - 1), none⟩ = some (.string (str L))) w' := fun w' hw' => Reg.cls_mk (by rw [← cL5]; exact World.cell?_of_block (w := w5) (hw'.block _ had5))
            refine Reg.two 1 8 _ _ (by kernel_rfl) rfl rfl rfl rfl ?_ ?_
            · (refine wpList_append_own _ rfl _ _ 28 rfl w5.heap.size 9 i0 (.string ByteArray.empty) 1 16 Tryz.underlying28 HI.out hz0 hz1 hz2 rfl (by decide) _ 0 [] rfl (World.ownsRow_nil _ _ _ _) ⟨gb, go, none⟩ ls.length k (wt ls) rfl (by rw [wt_length]; omega) (src_texts cP5) (wt_one _) (by unfold maxLen; omega) (by omega) (Nat.le_refl _) ?_; intro v1 w6 hown6 hgr6 _)
              have hb6 : Below w5.heap.size w5 w6 := (Below.refl _ _).grown hgr6 (Nat.le_refl _) (fun k hk => by cases hk)
              rw [List.nil_append] at hown6
              refine ⟨hSB _ hb6, ?_⟩
              refine Reg.one 8 _ (by kernel_rfl) rfl rfl ?_
              go_frame
              go_wp2_with fail
              have hs7 : (w6.alloc (.cells #[.string (str L)] 9)).heap.size = w6.heap.size + 1 := by simp
              have hb7 := hb6.alloc hb6.size (.cells #[.string (str L)] 9)
              refine ⟨hSB _ hb7, ?_⟩
              refine Reg.one 9 _ (by kernel_rfl) rfl rfl ?_
              refine wpList_append_own _ rfl _ _ 28 rfl w5.heap.size 9 i0 (.string ByteArray.empty) 1 16 Tryz.underlying28 HI.out hz0 hz1 hz2 rfl (by decide) _ _ _ rfl (hown6.alloc _) ⟨w6.heap.size, 0, none⟩ 1 1 [.string (str L)] rfl rfl (cell_one_new _ _ _) (wt_one [L]) (by unfold maxLen; omega) (by omega) (by have := hb6.size; omega) ?_
              intro v2 w8 hown8 hgr8 _
              have hb8 := hb7.trans ((Below.refl w5.heap.size _).grown hgr8 (by have := hb6.size; omega) (fun k hk => (hown6.lt k hk).1))
              refine ⟨hSB _ hb8, ?_⟩
              refine Reg.one 10 _ (by kernel_rfl) rfl rfl ?_
              go_frame
              go_wp2_with fail
              refine ⟨hSB _ hb8, ?_⟩
              refine wpAnyH_done (by kernel_rfl) ?_ 0
              rw [wt_snoc] at hown8
              obtain ⟨b2, o2, c2, hv2, hb2, hP⟩ := (own_texts hown8 (by rw [List.length_append]; simp)).open (by simp)
              subst hv2
              have hbW := hb5.trans (hb8.mono hb5.size)
              have a32 := D2.out
              have hup := D1.out
              have hev : (ls ++ [L]).length % 2 = 0 := by rw [List.length_append]; simp; omega
              have hl2 : (ls ++ [L]).length ≤ ls.length + 1 := by simp
              have hl3 : (ls ++ [L]).length + ls.length % 2 ≥ ls.length := by simp; omega
              generalize ls ++ [L] = ls2 at hP a32 hup hev hl2 hl3 hb2 ⊢
              clear hown6 hown8 hgr6 hgr8 hb6 hb7 hb8 hSB cP5 cL5 had5 hb5 D1 D2
              obtain ⟨wl, rfl⟩ : ∃ wl : World, wl = w8 := ⟨_, rfl⟩
              have Z1 := Lib.hid hP
              have Z2 := Lib.hid a32
              have Z3 := Lib.hid hup
              have Z4 := Lib.hid hbW
              have Z5 := Lib.hid (B4.out.trans (hbW.mono hBs))
              have hwl := hbW.size
              clear hP a32 hup hbW
              go_wp2_with fail
              go_loopw [8, 9] (fun uv iv wr => ∃ (p : Nat) (us : List (List UInt8)), 2 * p ≤ ls2.length ∧ iv = .int .i64 ((2 * p : Nat) : Int) ∧ us.length = p ∧ All32 us ∧ wr.ownsRow wl.heap.size 9 1 uv p (wt us) ∧ Mk.up ls2 = us ++ Mk.up (ls2.drop (2 * p)) ∧ Below wl.heap.size wl wr) (fun _ iv _ => ls2.length - (intOf iv).toNat)
              case atStart => exact ⟨0, [], by omega, rfl, rfl, fun _ h => by simp at h, World.ownsRow_nil _ _ _ _, rfl, Below.refl _ _⟩
              case round =>
                obtain ⟨p, us, hp, rfl, hul, hu32, hown, hup, hBl⟩ := hrel
                have Y1 := Lib.hid hown
                have Y2 := Lib.hid hup
                have Y3 := Lib.hid hu32
                have Y4 := Lib.hid hBl
                have hzl := hBl.size
                by_cases hlt : 2 * p < ls2.length
                · have hlt1 : 2 * p + 1 < ls2.length := by omega
                  have q1 : 2 * (p : Int) + 1 < (ls2.length : Int) := by omega
                  have q2 : (0 : Int) ≤ 2 * (p : Int) := by omega
                  have q3 : (0 : Int) ≤ 2 * (p : Int) + 1 := by omega
                  have q4 : 2 * (p : Int) < (ls2.length : Int) := by omega
                  have cA := (Z1.out.below hBl hb2) (2 * p) hlt
                  have cB := (Z1.out.below hBl hb2) (2 * p + 1) hlt1
                  have lA := Z2.out.get (2 * p) hlt
                  have lB := Z2.out.get (2 * p + 1) hlt1
                  have hu2 := Mk.up_pair ls2 (2 * p) hlt1
                  clear hown hup hu32 hBl
                  generalize ls2.getD (2 * p) [] = A at cA lA hu2
                  generalize ls2.getD (2 * p + 1) [] = B at cB lB hu2
                  have Y5 := Lib.hid hu2
                  clear hu2
                  go_wp2_with fail
                  refine Reg.tail2 1 12 mixed (by as_aux_lemma => kernel_rfl) rfl rfl (fun c a d v w h => by cases d <;> exact h) ?_
                  simp only [List.take_succ_cons, List.take_zero, List.drop_succ_cons, List.drop_zero, List.foldl, Reg.moved]
                  change wpQuiet _ _ _ _ _ (Act.put _ (some 53) u8)
                  go_frame
                  repeat (go_big_quiet_step (fail))
                  refine wpQuiet_nil ?_
                  have X1 := Y1.out.drew
                  have X2 := Y4.out.drew
                  generalize wr.drew = wx at X1 X2 ⊢
                  have hzx := X2.size
                  have X3 := Lib.hid (rtwice_calls t (A ++ B) wx (HT.out.below (Z5.out.trans (X2.mono (by have := B4.out.size; omega)))) (by rw [List.length_append]; omega))
                  have X4 := Lib.hid X1
                  have X5 := Lib.hid X2
                  clear X1 X2
                  go_wp2_with fail
                  refine X3.out.mono ?_
                  rintro e wy ⟨rfl, hby⟩
                  have hzy := hby.size
                  have W1 := (ownN_below X4.out hby (Nat.le_refl _)).alloc (.cells #[.string (str (Mk.twice (A ++ B)))] 9)
                  have W2 := (X5.out.trans (hby.mono hzx)).alloc (by omega) (.cells #[.string (str (Mk.twice (A ++ B)))] 9)
                  have W3 := Lib.hid W1
                  have W4 := Lib.hid W2
                  clear W1 W2 hby
                  go_wp2_with (at_builtin; refine wpList_append_own _ rfl _ _ 28 rfl wl.heap.size 9 i0 (.string ByteArray.empty) 1 16 Tryz.underlying28 HI.out hz0 hz1 hz2 rfl (by decide) _ _ _ rfl W3.out ⟨wy.heap.size, 0, none⟩ 1 1 [.string (str (Mk.twice (A ++ B)))] rfl rfl (cell_one_new _ _ _) (wt_one [Mk.twice (A ++ B)]) (by unfold maxLen; omega) (by omega) (by rw [World.size_alloc]; omega) ?_; intro uv2 wv hownv hgrv _)
                  have hbv := W4.out.trans ((Below.refl wl.heap.size _).grown hgrv (by rw [World.size_alloc]; omega) (fun k hk => (W3.out.lt k hk).1))
                  rw [wt_snoc] at hownv
                  have V1 := Lib.hid hownv
                  have V2 := Lib.hid hbv
                  have V3 : Hid (Mk.up ls2 = (us ++ [Mk.twice (A ++ B)]) ++ Mk.up (ls2.drop (2 * (p + 1)))) := Lib.hid (by rw [Y2.out, Y5.out, List.append_assoc]; rfl)
                  have V4 := Lib.hid (all32_snoc Y3.out (Mk.twice_length (A ++ B)))
                  clear hownv hgrv hbv W3 W4
                  go_roundw
                  case rel => first | exact ⟨p + 1, us ++ [Mk.twice (A ++ B)], by omega, by go_num, by rw [List.length_append, hul]; rfl, V4.out, V1.out, V3.out, V2.out⟩ | ((repeat (apply Exists.intro)); (first | refine And.intro ?_ rfl | refine And.intro ?_ ⟨rfl, rfl⟩); exact ⟨p + 1, us ++ [Mk.twice (A ++ B)], by omega, by go_num, by rw [List.length_append, hul]; rfl, V4.out, V1.out, V3.out, V2.out⟩)
                  case measure => simp [intOf]; omega
                · have hpe : 2 * p = ls2.length := by omega
                  have hdn : ls2.drop (2 * p) = [] := List.drop_of_length_le (by omega)
                  rw [hdn] at hup
                  have hus : us = Mk.up ls := by rw [← Z3.out, hup]; simp [Mk.up]
                  subst hus
                  have hlen := Mk.up_length ls
                  obtain ⟨g3, o3, c3, hv3, hg3, hP3⟩ := (own_texts hown hul.symm).open (by omega)
                  subst hv3
                  have hro2 : Mk.root ss false = Mk.root (Mk.up ls) m' := by rw [B3.out, Mk.root_up ls m hl1, D0.out]
                  have P1 := Lib.hid hP3
                  have P2 := Lib.hid hro2
                  have P4 := Lib.hid (Z5.out.trans (hBl.mono (by omega)))
                  have q4 : ¬ (2 * (p : Int) < (ls2.length : Int)) := by omega
                  clear hown hup hBl hdn hP3 hro2 Y1 Y2 Y4 Z1 Z2 Z3 Z4 Z5
                  go_wp2_with fail
                  go_roundw
                  case rel => first | exact ⟨g3, o3, c3, Mk.up ls, by omega, by omega, by simp [hul], rfl, hg3, P1.out, Y3.out, P2.out, P4.out⟩ | ((repeat (apply Exists.intro)); (first | refine And.intro ?_ rfl | refine And.intro ?_ ⟨rfl, rfl⟩); exact ⟨g3, o3, c3, Mk.up ls, by omega, by omega, by simp [hul], rfl, hg3, P1.out, Y3.out, P2.out, P4.out⟩)
                  case measure => (simp only [sLen]; omega)
            · go_wp2_with fail
              have hs7 : (w5.alloc (.cells #[.string (str L)] 9)).heap.size = w5.heap.size + 1 := by simp
              have hb7 := (Below.refl w5.heap.size w5).alloc (Nat.le_refl _) (.cells #[.string (str L)] 9)
              have cP7 := cP5.below hb7 had5
              have cL7 := (Row.new w5 [.string (str L)] 9).cell 0
              refine ⟨hSB _ hb7, ?_⟩
              refine Reg.one 1 _ (by kernel_rfl) rfl rfl ?_
              refine wpList_append_own _ rfl _ _ 28 rfl (w5.heap.size + 1) 9 i0 (.string ByteArray.empty) 1 16 Tryz.underlying28 HI.out hz0 hz1 hz2 rfl (by decide) _ 0 [] rfl (World.ownsRow_nil _ _ _ _) ⟨gb, go, none⟩ ls.length k (wt ls) rfl (by rw [wt_length]; omega) (src_texts cP7) (wt_one _) (by unfold maxLen; omega) (by omega) (by omega) ?_
              intro v1 w6 hown6 hgr6 _
              have hb67 : Below (w5.heap.size + 1) (w5.alloc (.cells #[.string (str L)] 9)) w6 := (Below.refl _ _).grown hgr6 (by omega) (fun k hk => by cases hk)
              have hb6 := hb7.trans (hb67.mono (by omega))
              rw [List.nil_append] at hown6
              refine ⟨hSB _ hb6, ?_⟩
              refine Reg.one 9 _ (by kernel_rfl) rfl rfl ?_
              refine wpList_append_own _ rfl _ _ 28 rfl (w5.heap.size + 1) 9 i0 (.string ByteArray.empty) 1 16 Tryz.underlying28 HI.out hz0 hz1 hz2 rfl (by decide) _ _ _ rfl hown6 ⟨w5.heap.size, 0, none⟩ 1 1 [.string (str L)] rfl rfl (fun j u hu => by
                cases j with
                | zero =>
                  simp at hu; rw [← hu]
                  exact (World.cell?_of_block (w := w5.alloc (.cells #[.string (str L)] 9)) (hb67.block _ (by show w5.heap.size < _; omega))).trans cL7
                | succ j => simp at hu) (wt_one [L]) (by unfold maxLen; omega) (by omega) (by have := hb67.size; omega) ?_
              intro v2 w8 hown8 hgr8 _
              have hb8 := hb6.trans ((Below.refl w5.heap.size _).grown hgr8 (by have := hb6.size; omega) (fun k hk => by have := (hown6.lt k hk).1; omega))
              refine ⟨hSB _ hb8, ?_⟩
              refine Reg.one 10 _ (by kernel_rfl) rfl rfl ?_
              go_frame
              go_wp2_with fail
              refine ⟨hSB _ hb8, ?_⟩
              refine wpAnyH_done (by kernel_rfl) ?_ 0
              rw [wt_snoc] at hown8
              obtain ⟨b2, o2, c2, hv2, hb2, hP⟩ := (own_texts hown8 (by rw [List.length_append]; simp)).open (by simp)
              subst hv2
              have hbW := hb5.trans (hb8.mono hb5.size)
              have a32 := D2.out
              have hup := D1.out
              have hev : (ls ++ [L]).length % 2 = 0 := by rw [List.length_append]; simp; omega
              have hl2 : (ls ++ [L]).length ≤ ls.length + 1 := by simp
              have hl3 : (ls ++ [L]).length + ls.length % 2 ≥ ls.length := by simp; omega
              generalize ls ++ [L] = ls2 at hP a32 hup hev hl2 hl3 hb2 ⊢
              clear hown6 hown8 hgr6 hgr8 hb6 hb67 cP7 cL7 hb7 hb8 hSB cP5 cL5 had5 hb5 D1 D2
              obtain ⟨wl, rfl⟩ : ∃ wl : World, wl = w8 := ⟨_, rfl⟩
              have Z1 := Lib.hid hP
              have Z2 := Lib.hid a32
              have Z3 := Lib.hid hup
              have Z4 := Lib.hid hbW
              have Z5 := Lib.hid (B4.out.trans (hbW.mono hBs))
              have hwl := hbW.size
              clear hP a32 hup hbW
              go_wp2_with fail
              go_loopw [8, 9] (fun uv iv wr => ∃ (p : Nat) (us : List (List UInt8)), 2 * p ≤ ls2.length ∧ iv = .int .i64 ((2 * p : Nat) : Int) ∧ us.length = p ∧ All32 us ∧ wr.ownsRow wl.heap.size 9 1 uv p (wt us) ∧ Mk.up ls2 = us ++ Mk.up (ls2.drop (2 * p)) ∧ Below wl.heap.size wl wr) (fun _ iv _ => ls2.length - (intOf iv).toNat)
              case atStart => exact ⟨0, [], by omega, rfl, rfl, fun _ h => by simp at h, World.ownsRow_nil _ _ _ _, rfl, Below.refl _ _⟩
              case round =>
                obtain ⟨p, us, hp, rfl, hul, hu32, hown, hup, hBl⟩ := hrel
                have Y1 := Lib.hid hown
                have Y2 := Lib.hid hup
                have Y3 := Lib.hid hu32
                have Y4 := Lib.hid hBl
                have hzl := hBl.size
                by_cases hlt : 2 * p < ls2.length
                · have hlt1 : 2 * p + 1 < ls2.length := by omega
                  have q1 : 2 * (p : Int) + 1 < (ls2.length : Int) := by omega
                  have q2 : (0 : Int) ≤ 2 * (p : Int) := by omega
                  have q3 : (0 : Int) ≤ 2 * (p : Int) + 1 := by omega
                  have q4 : 2 * (p : Int) < (ls2.length : Int) := by omega
                  have cA := (Z1.out.below hBl hb2) (2 * p) hlt
                  have cB := (Z1.out.below hBl hb2) (2 * p + 1) hlt1
                  have lA := Z2.out.get (2 * p) hlt
                  have lB := Z2.out.get (2 * p + 1) hlt1
                  have hu2 := Mk.up_pair ls2 (2 * p) hlt1
                  clear hown hup hu32 hBl
                  generalize ls2.getD (2 * p) [] = A at cA lA hu2
                  generalize ls2.getD (2 * p + 1) [] = B at cB lB hu2
                  have Y5 := Lib.hid hu2
                  clear hu2
                  go_wp2_with fail
                  refine Reg.tail2 1 12 mixed (by as_aux_lemma => kernel_rfl) rfl rfl (fun c a d v w h => by cases d <;> exact h) ?_
                  simp only [List.take_succ_cons, List.take_zero, List.drop_succ_cons, List.drop_zero, List.foldl, Reg.moved]
                  change wpQuiet _ _ _ _ _ (Act.put _ (some 53) u8)
                  go_frame
                  repeat (go_big_quiet_step (fail))
                  refine wpQuiet_nil ?_
                  have X1 := Y1.out.drew
                  have X2 := Y4.out.drew
                  generalize wr.drew = wx at X1 X2 ⊢
                  have hzx := X2.size
                  have X3 := Lib.hid (rtwice_calls t (A ++ B) wx (HT.out.below (Z5.out.trans (X2.mono (by have := B4.out.size; omega)))) (by rw [List.length_append]; omega))
                  have X4 := Lib.hid X1
                  have X5 := Lib.hid X2
                  clear X1 X2
                  go_wp2_with fail
                  refine X3.out.mono ?_
                  rintro e wy ⟨rfl, hby⟩
                  have hzy := hby.size
                  have W1 := (ownN_below X4.out hby (Nat.le_refl _)).alloc (.cells #[.string (str (Mk.twice (A ++ B)))] 9)
                  have W2 := (X5.out.trans (hby.mono hzx)).alloc (by omega) (.cells #[.string (str (Mk.twice (A ++ B)))] 9)
                  have W3 := Lib.hid W1
                  have W4 := Lib.hid W2
                  clear W1 W2 hby
                  go_wp2_with (at_builtin; refine wpList_append_own _ rfl _ _ 28 rfl wl.heap.size 9 i0 (.string ByteArray.empty) 1 16 Tryz.underlying28 HI.out hz0 hz1 hz2 rfl (by decide) _ _ _ rfl W3.out ⟨wy.heap.size, 0, none⟩ 1 1 [.string (str (Mk.twice (A ++ B)))] rfl rfl (cell_one_new _ _ _) (wt_one [Mk.twice (A ++ B)]) (by unfold maxLen; omega) (by omega) (by rw [World.size_alloc]; omega) ?_; intro uv2 wv hownv hgrv _)
                  have hbv := W4.out.trans ((Below.refl wl.heap.size _).grown hgrv (by rw [World.size_alloc]; omega) (fun k hk => (W3.out.lt k hk).1))
                  rw [wt_snoc] at hownv
                  have V1 := Lib.hid hownv
                  have V2 := Lib.hid hbv
                  have V3 : Hid (Mk.up ls2 = (us ++ [Mk.twice (A ++ B)]) ++ Mk.up (ls2.drop (2 * (p + 1)))) := Lib.hid (by rw [Y2.out, Y5.out, List.append_assoc]; rfl)
                  have V4 := Lib.hid (all32_snoc Y3.out (Mk.twice_length (A ++ B)))
                  clear hownv hgrv hbv W3 W4
                  go_roundw
                  case rel => first | exact ⟨p + 1, us ++ [Mk.twice (A ++ B)], by omega, by go_num, by rw [List.length_append, hul]; rfl, V4.out, V1.out, V3.out, V2.out⟩ | ((repeat (apply Exists.intro)); (first | refine And.intro ?_ rfl | refine And.intro ?_ ⟨rfl, rfl⟩); exact ⟨p + 1, us ++ [Mk.twice (A ++ B)], by omega, by go_num, by rw [List.length_append, hul]; rfl, V4.out, V1.out, V3.out, V2.out⟩)
                  case measure => simp [intOf]; omega
                · have hpe : 2 * p = ls2.length := by omega
                  have hdn : ls2.drop (2 * p) = [] := List.drop_of_length_le (by omega)
                  rw [hdn] at hup
                  have hus : us = Mk.up ls := by rw [← Z3.out, hup]; simp [Mk.up]
                  subst hus
                  have hlen := Mk.up_length ls
                  obtain ⟨g3, o3, c3, hv3, hg3, hP3⟩ := (own_texts hown hul.symm).open (by omega)
                  subst hv3
                  have hro2 : Mk.root ss false = Mk.root (Mk.up ls) m' := by rw [B3.out, Mk.root_up ls m hl1, D0.out]
                  have P1 := Lib.hid hP3
                  have P2 := Lib.hid hro2
                  have P4 := Lib.hid (Z5.out.trans (hBl.mono (by omega)))
                  have q4 : ¬ (2 * (p : Int) < (ls2.length : Int)) := by omega
                  clear hown hup hBl hdn hP3 hro2 Y1 Y2 Y4 Z1 Z2 Z3 Z4 Z5
                  go_wp2_with fail
                  go_roundw
                  case rel => first | exact ⟨g3, o3, c3, Mk.up ls, by omega, by omega, by simp [hul], rfl, hg3, P1.out, Y3.out, P2.out, P4.out⟩ | ((repeat (apply Exists.intro)); (first | refine And.intro ?_ rfl | refine And.intro ?_ ⟨rfl, rfl⟩); exact ⟨g3, o3, c3, Mk.up ls, by omega, by omega, by simp [hul], rfl, hg3, P1.out, Y3.out, P2.out, P4.out⟩)
                  case measure => (simp only [sLen]; omega)
          · have p2 : (ls.length : Int) % 2 = 0 := by omega
            · have hP : Parts (wo.drewN z) gb go ls := B1.out
              have hb2 : gb < (wo.drewN z).heap.size := had
              have hbW : Below wo.heap.size wo (wo.drewN z) := below_drewN (Below.refl _ _) z
              have a32 := B2.out
              have hup : Mk.up ls = Mk.up ls := rfl
              have hev : ls.length % 2 = 0 := by omega
              obtain ⟨ls2, hls2⟩ : ∃ ls2, ls2 = ls := ⟨_, rfl⟩
              have hl2 : ls2.length ≤ ls.length + 1 := by rw [hls2]; omega
              have hl3 : ls2.length + ls.length % 2 ≥ ls.length := by rw [hls2]; omega
              rw [← hls2] at hP a32 hev
              replace hup : Mk.up ls2 = Mk.up ls := by rw [hls2]
              have hle2 : ls2.length = ls.length := by rw [hls2]
              rw [← hle2] at p2
              rw [← hle2]
              clear hls2
              generalize wo.drewN z = wl at hP hb2 hbW ⊢
              have Z1 := Lib.hid hP
              have Z2 := Lib.hid a32
              have Z3 := Lib.hid hup
              have Z4 := Lib.hid hbW
              have Z5 := Lib.hid (B4.out.trans (hbW.mono hBs))
              have hwl := hbW.size
              clear hP a32 hup hbW
              go_wp2_with fail
              go_loopw [8, 9] (fun uv iv wr => ∃ (p : Nat) (us : List (List UInt8)), 2 * p ≤ ls2.length ∧ iv = .int .i64 ((2 * p : Nat) : Int) ∧ us.length = p ∧ All32 us ∧ wr.ownsRow wl.heap.size 9 1 uv p (wt us) ∧ Mk.up ls2 = us ++ Mk.up (ls2.drop (2 * p)) ∧ Below wl.heap.size wl wr) (fun _ iv _ => ls2.length - (intOf iv).toNat)
              case atStart => exact ⟨0, [], by omega, rfl, rfl, fun _ h => by simp at h, World.ownsRow_nil _ _ _ _, rfl, Below.refl _ _⟩
              case round =>
                obtain ⟨p, us, hp, rfl, hul, hu32, hown, hup, hBl⟩ := hrel
                have Y1 := Lib.hid hown
                have Y2 := Lib.hid hup
                have Y3 := Lib.hid hu32
                have Y4 := Lib.hid hBl
                have hzl := hBl.size
                by_cases hlt : 2 * p < ls2.length
                · have hlt1 : 2 * p + 1 < ls2.length := by omega
                  have q1 : 2 * (p : Int) + 1 < (ls2.length : Int) := by omega
                  have q2 : (0 : Int) ≤ 2 * (p : Int) := by omega
                  have q3 : (0 : Int) ≤ 2 * (p : Int) + 1 := by omega
                  have q4 : 2 * (p : Int) < (ls2.length : Int) := by omega
                  have cA := (Z1.out.below hBl hb2) (2 * p) hlt
                  have cB := (Z1.out.below hBl hb2) (2 * p + 1) hlt1
                  have lA := Z2.out.get (2 * p) hlt
                  have lB := Z2.out.get (2 * p + 1) hlt1
                  have hu2 := Mk.up_pair ls2 (2 * p) hlt1
                  clear hown hup hu32 hBl
                  generalize ls2.getD (2 * p) [] = A at cA lA hu2
                  generalize ls2.getD (2 * p + 1) [] = B at cB lB hu2
                  have Y5 := Lib.hid hu2
                  clear hu2
                  go_wp2_with fail
                  refine Reg.tail2 1 12 mixed (by as_aux_lemma => kernel_rfl) rfl rfl (fun c a d v w h => by cases d <;> exact h) ?_
                  simp only [List.take_succ_cons, List.take_zero, List.drop_succ_cons, List.drop_zero, List.foldl, Reg.moved]
                  change wpQuiet _ _ _ _ _ (Act.put _ (some 53) u8)
                  go_frame
                  repeat (go_big_quiet_step (fail))
                  refine wpQuiet_nil ?_
                  have X1 := Y1.out.drew
                  have X2 := Y4.out.drew
                  generalize wr.drew = wx at X1 X2 ⊢
                  have hzx := X2.size
                  have X3 := Lib.hid (rtwice_calls t (A ++ B) wx (HT.out.below (Z5.out.trans (X2.mono (by have := B4.out.size; omega)))) (by rw [List.length_append]; omega))
                  have X4 := Lib.hid X1
                  have X5 := Lib.hid X2
                  clear X1 X2
                  go_wp2_with fail
                  refine X3.out.mono ?_
                  rintro e wy ⟨rfl, hby⟩
                  have hzy := hby.size
                  have W1 := (ownN_below X4.out hby (Nat.le_refl _)).alloc (.cells #[.string (str (Mk.twice (A ++ B)))] 9)
                  have W2 := (X5.out.trans (hby.mono hzx)).alloc (by omega) (.cells #[.string (str (Mk.twice (A ++ B)))] 9)
                  have W3 := Lib.hid W1
                  have W4 := Lib.hid W2
                  clear W1 W2 hby
                  go_wp2_with (at_builtin; refine wpList_append_own _ rfl _ _ 28 rfl wl.heap.size 9 i0 (.string ByteArray.empty) 1 16 Tryz.underlying28 HI.out hz0 hz1 hz2 rfl (by decide) _ _ _ rfl W3.out ⟨wy.heap.size, 0, none⟩ 1 1 [.string (str (Mk.twice (A ++ B)))] rfl rfl (cell_one_new _ _ _) (wt_one [Mk.twice (A ++ B)]) (by unfold maxLen; omega) (by omega) (by rw [World.size_alloc]; omega) ?_; intro uv2 wv hownv hgrv _)
                  have hbv := W4.out.trans ((Below.refl wl.heap.size _).grown hgrv (by rw [World.size_alloc]; omega) (fun k hk => (W3.out.lt k hk).1))
                  rw [wt_snoc] at hownv
                  have V1 := Lib.hid hownv
                  have V2 := Lib.hid hbv
                  have V3 : Hid (Mk.up ls2 = (us ++ [Mk.twice (A ++ B)]) ++ Mk.up (ls2.drop (2 * (p + 1)))) := Lib.hid (by rw [Y2.out, Y5.out, List.append_assoc]; rfl)
                  have V4 := Lib.hid (all32_snoc Y3.out (Mk.twice_length (A ++ B)))
                  clear hownv hgrv hbv W3 W4
                  go_roundw
                  case rel => first | exact ⟨p + 1, us ++ [Mk.twice (A ++ B)], by omega, by go_num, by rw [List.length_append, hul]; rfl, V4.out, V1.out, V3.out, V2.out⟩ | ((repeat (apply Exists.intro)); (first | refine And.intro ?_ rfl | refine And.intro ?_ ⟨rfl, rfl⟩); exact ⟨p + 1, us ++ [Mk.twice (A ++ B)], by omega, by go_num, by rw [List.length_append, hul]; rfl, V4.out, V1.out, V3.out, V2.out⟩)
                  case measure => simp [intOf]; omega
                · have hpe : 2 * p = ls2.length := by omega
                  have hdn : ls2.drop (2 * p) = [] := List.drop_of_length_le (by omega)
                  rw [hdn] at hup
                  have hus : us = Mk.up ls := by rw [← Z3.out, hup]; simp [Mk.up]
                  subst hus
                  have hlen := Mk.up_length ls
                  obtain ⟨g3, o3, c3, hv3, hg3, hP3⟩ := (own_texts hown hul.symm).open (by omega)
                  subst hv3
                  have hro2 : Mk.root ss false = Mk.root (Mk.up ls) m' := by rw [B3.out, Mk.root_up ls m hl1, D0.out]
                  have P1 := Lib.hid hP3
                  have P2 := Lib.hid hro2
                  have P4 := Lib.hid (Z5.out.trans (hBl.mono (by omega)))
                  have q4 : ¬ (2 * (p : Int) < (ls2.length : Int)) := by omega
                  clear hown hup hBl hdn hP3 hro2 Y1 Y2 Y4 Z1 Z2 Z3 Z4 Z5
                  go_wp2_with fail
                  go_roundw
                  case rel => first | exact ⟨g3, o3, c3, Mk.up ls, by omega, by omega, by simp [hul], rfl, hg3, P1.out, Y3.out, P2.out, P4.out⟩ | ((repeat (apply Exists.intro)); (first | refine And.intro ?_ rfl | refine And.intro ?_ ⟨rfl, rfl⟩); exact ⟨g3, o3, c3, Mk.up ls, by omega, by omega, by simp [hul], rfl, hg3, P1.out, Y3.out, P2.out, P4.out⟩)
                  case measure => (simp only [sLen]; omega)
    · have p0 : ¬ ((1 : Int) < (ls.length : Int)) := by omega
      obtain ⟨d, hd1⟩ := List.length_eq_one_iff.1 (show ls.length = 1 by omega)
      have c0 : wr.cell? ⟨gb, go, none⟩ = some (.string (str (ls.getD 0 []))) := hcs 0 (by omega)
      subst hd1
      have hroot2 : Mk.root ss false = (d, m) := by rw [hroot, Mk.root_one _ _ (by simp)]; rfl
      have D1 := Lib.hid hroot2
      clear hcs ha32 hroot hB hroot2
      go_wp2_with fail
      refine bodyPost_ret (results_tmp2 rfl _ _ _) rfl ?_
      exact ⟨by rw [D1.out]; rfl, B4.out⟩
end Go.Proofs.YtlpcjiollnnmgabGreatDoor
