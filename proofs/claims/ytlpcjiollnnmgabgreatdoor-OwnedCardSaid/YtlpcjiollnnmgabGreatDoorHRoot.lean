/-
  THE WALK OF hash.Root.
-/
import Derived.Test.YtlpcjiollnnmgabGreatDoorDg
import Derived.Test.YtlpcjiollnnmgabGreatDoorRoot
import Derived.Deep.RegionHeld3
import Derived.Outline
import Derived.LoopTactic
namespace Go.Proofs.YtlpcjiollnnmgabGreatDoor
open Go.RowKit Nums
set_option maxRecDepth 100000 in
set_option maxHeartbeats 4000000 in
theorem hroot_calls (b c : Nat) (ds : List (List UInt8)) (w : World) (hT : Tabs w) (hb : b < w.heap.size) (hd : Digs w b ds) (h32 : All32 ds) (hn : 0 < ds.length) (hm : ds.length ≤ 1000) :
    Calls Tryz.prog 51 #[.slice (some ⟨b, 0, none⟩) ds.length c] w fun e w' =>
      e = .returned (.tuple #[.agg (w8 (Mk.root ds false).1).toArray, .bool (Mk.root ds false).2]) ∧ Below w.heap.size w w' := by
  obtain ⟨i0, hi0, hz0, hz1, hz2⟩ := info_parts infoDg3
  have h1 := hT.lt
  have hR : Row (w.alloc (.cells (w8 (List.replicate 32 0)).toArray 76)) w.heap.size (w8 (List.replicate 32 0)) := Row.new w _ _
  have hB : Below w.heap.size w (w.alloc (.cells (w8 (List.replicate 32 0)).toArray 76)) := (Below.refl _ _).alloc (Nat.le_refl _) _
  have hZ : (w.alloc (.cells (w8 (List.replicate 32 0)).toArray 76)).heap.size = w.heap.size + 1 := by simp
  rw [Tryz.zeroDg] at hR hB hZ
  have HT := Lib.hid hT
  have HD := Lib.hid hd
  have H32 := Lib.hid h32
  clear hT hd h32
  go_enter Tryz.func51, Tryz.ntmps51
  go_wp2_with fail
  generalize w.alloc _ = w1 at hR hB hZ ⊢
  have A1 := Lib.hid hR
  have A2 := Lib.hid hB
  have hZ' : w.heap.size < w1.heap.size := by omega
  clear hR hB hZ
  go_loopw [0, 3] (fun lv mv wr => ∃ (g k : Nat) (ls : List (List UInt8)), 0 < ls.length ∧ ls.length ≤ ds.length ∧ lv = .slice (some ⟨g, 0, none⟩) ls.length k ∧ mv = .bool (bOf mv) ∧ g < wr.heap.size ∧ Digs wr g ls ∧ All32 ls ∧ Mk.root ds false = Mk.root ls (bOf mv) ∧ Row wr w.heap.size (w8 (List.replicate 32 0)) ∧ g ≠ w.heap.size ∧ Below w.heap.size w wr) (fun lv _ _ => sLen lv)
  case atStart => exact ⟨b, c, ds, hn, Nat.le_refl _, rfl, rfl, by omega, HD.out.below A2.out hb, H32.out, rfl, A1.out, by omega, A2.out⟩
  case round =>
    clear A1 A2
    obtain ⟨g, k, ls, hls, hle, rfl, hmv, hg, hdg, ha32, hroot, hR, hne, hB⟩ := hrel
    obtain ⟨m, rfl⟩ : ∃ m, u3 = .bool m := ⟨_, hmv⟩
    replace hroot : Mk.root ds false = Mk.root ls m := hroot
    clear hmv
    by_cases hl1 : 1 < ls.length
    · have p0 : (1 : Int) < (ls.length : Int) := by omega
      have B1 := Lib.hid hdg
      have B2 := Lib.hid ha32
      have B3 := Lib.hid hroot
      have B4 := Lib.hid hR
      have B5 := Lib.hid hB
      clear hdg ha32 hroot hR hB
      go_wp2_with fail
      obtain ⟨wo, rfl⟩ : ∃ wo : World, wo = wr := ⟨_, rfl⟩
      go_loopw [3, 4, 5] (fun mv uv iv wr => ∃ (q : Nat) (us : List (List UInt8)), 2 * q ≤ ls.length + 1 ∧ iv = .int .i64 ((2 * q : Nat) : Int) ∧ mv = .bool (bOf mv) ∧ us.length = q ∧ All32 us ∧ wr.ownsRow wo.heap.size 76 32 uv q (w8 us.flatten) ∧ Mk.up ls = us ++ Mk.up (ls.drop (2 * q)) ∧ (m || Mk.twin ls) = (bOf mv || Mk.twin (ls.drop (2 * q))) ∧ Below wo.heap.size wo wr) (fun _ _ iv _ => ls.length + 1 - (intOf iv).toNat)
      case atStart => exact ⟨0, [], by omega, rfl, rfl, rfl, fun _ h => by simp at h, World.ownsRow_nil _ _ _ _, rfl, rfl, Below.refl _ _⟩
      case round =>
        obtain ⟨q, us, hq, rfl, hmv, hul, hu32, hown, hup, htw, hB⟩ := hrel
        obtain ⟨m', rfl⟩ : ∃ m', u3 = .bool m' := ⟨_, hmv⟩
        replace htw : (m || Mk.twin ls) = (m' || Mk.twin (ls.drop (2 * q))) := htw
        clear hmv
        by_cases hlt : 2 * q < ls.length
        · have p1 : ((2 * q : Nat) : Int) < (ls.length : Int) := by omega
          have HI := Lib.hid hi0
          clear hi0
          have G1 := Lib.hid hown
          have G2 := Lib.hid hB
          have G3 := Lib.hid hup
          have G4 := Lib.hid htw
          have G5 := Lib.hid hu32
          clear hown hup htw hu32
          by_cases hpair : 2 * q + 1 < ls.length
          · have rA : wr.rangeAt g (2 * q * 32) (w8 (ls.getD (2 * q) [])) := by rw [Nat.mul_comm]; exact B1.out.below hB hg (2 * q) hlt
            have rB : wr.rangeAt g ((2 * q + 1) * 32) (w8 (ls.getD (2 * q + 1) [])) := by rw [Nat.mul_comm]; exact B1.out.below hB hg (2 * q + 1) hpair
            have lA := B2.out.get (2 * q) hlt
            have lB := B2.out.get (2 * q + 1) hpair
            clear hB
            have hu2 := Mk.up_pair ls (2 * q) hpair
            have ht2 := Mk.twin_pair ls (2 * q) hpair
            generalize ls.getD (2 * q) [] = A at rA lA hu2 ht2
            generalize ls.getD (2 * q + 1) [] = B at rB lB hu2 ht2
            have M1 := Lib.hid hu2
            have M2 := Lib.hid ht2
            clear hu2 ht2
            have p2 : 2 * (q : Int) < (ls.length : Int) := by omega
            have p3 : (0 : Int) ≤ 2 * (q : Int) := by omega
            have p4 : ¬ ((ls.length : Int) - 1 < 2 * (q : Int) + 1) := by omega
            have p5 : 2 * (q : Int) + 1 < (ls.length : Int) := by omega
            go_wp2_with fail
            haveI hne : Nonempty (Reg.Of (fun u => u.rangeAt g (2 * q * 32) (w8 A) ∧ u.rangeAt g ((2 * q + 1) * 32) (w8 B))) := ⟨⟨wr, rA, rB⟩⟩
            refine Reg.startN 13 4 mixed (by kernel_rfl) rfl (fun c a d v w h => by cases d <;> exact h) (by as_aux_lemma => kernel_rfl) rfl (fun u => u.rangeAt g (2 * q * 32) (w8 A) ∧ u.rangeAt g ((2 * q + 1) * 32) (w8 B)) ⟨rA, rB⟩ ?_
            simp only [List.take_succ_cons, List.take_zero]
            iterate 3 (go_big_quiet_step (fail))
            refine wpQuiet_load (o := ⟨some 24, _, _, _, _, _⟩) rfl _ rfl g (2 * q * 32) A lA rfl (fun w' ⟨u, hu⟩ => by rw [hu]; exact u.h.1) ?_
            go_frame
            iterate 8 (go_big_quiet_step (fail))
            refine wpQuiet_load (o := ⟨some 33, _, _, _, _, _⟩) rfl _ rfl g ((2 * q + 1) * 32) B lB rfl (fun w' ⟨u, hu⟩ => by rw [hu]; exact u.h.2) ?_
            go_frame
            refine wpQuiet_nil ?_
            have rA2 : wr.drew.rangeAt g (2 * q * 32) (w8 A) := rA
            have rB2 : wr.drew.rangeAt g ((2 * q + 1) * 32) (w8 B) := rB
            have hwb : Below wo.heap.size wo wr.drew := G2.out.drew
            have hg5 : g < wr.drew.heap.size := Nat.lt_of_lt_of_le hg hwb.size
            have K0 := G1.out.drew
            clear rA rB
            generalize wr.drew = w5 at rA2 rB2 hwb hg5 K0 ⊢
            refine news 13 14 15 16 6 7 (.tmp 24) (.tmp 33) _ _ _ _ (by kernel_rfl) (by kernel_rfl) (by kernel_rfl) (by kernel_rfl) (by kernel_rfl) (by kernel_rfl) rfl rfl rfl rfl rfl rfl rfl rfl rfl rfl rfl rfl rfl rfl rfl rfl (by decide) (by decide) (by exact Nat.le_of_ble_eq_true rfl) (by exact Nat.le_of_ble_eq_true rfl) A B lA lB (fun _ _ => rfl) (fun _ _ => rfl)
              (fun w' hw' => Reg.cls_mk ⟨rangeAt_of_block rA2 (hw'.block g (by omega)), rangeAt_of_block rB2 (hw'.block g (by omega))⟩) ?_
            intro b6 b7 w6 h6 h7 hb67 hr6 hr7 hbw
            go_frame
            have J1 := Lib.hid hr6
            have J2 := Lib.hid hr7
            have J3 := Lib.hid (hwb.trans (hbw.mono hwb.size))
            have J4 := Lib.hid (ownN_below K0 hbw (Nat.le_refl _))
            cases hr : (A == B)
            all_goals
              go_wp2_with (first | (refine load_dgw (o := ⟨some 40, _, _, _, _, _⟩) rfl _ rfl b6 A lA rfl J1.out ?_) | (refine load_dgw (o := ⟨some 41, _, _, _, _, _⟩) rfl _ rfl b7 B lB rfl J2.out ?_) | (refine eql_dgw (o := ⟨some 42, _, _, _, _, _⟩) rfl _ _ _ rfl A B lA lB rfl rfl _ hr ?_))
              have hcA := conv_dg w6 b6 A lA J1.out
              have hcB := conv_dg w6 b7 B lB J2.out
              refine Reg.tail2 1 5 mixed (by as_aux_lemma => kernel_rfl) rfl rfl (fun c a d v w h => by cases d <;> exact h) ?_
              simp only [List.take_succ_cons, List.take_zero, List.drop_succ_cons, List.drop_zero, List.foldl, Reg.moved]
              change wpQuiet _ _ _ _ _ (Act.put _ (some 44) u4)
              go_frame
              repeat (go_big_quiet_step (fail))
              refine wpQuiet_nil ?_
              have K1 := J3.out.drew
              have K2 := J4.out.drew
              generalize w6.drew = w7 at K1 K2 ⊢
              have hz7 := K1.size
              have hs8 : (w7.alloc (.cells #[.string (str A), .string (str B)] 9)).heap.size = w7.heap.size + 1 := by simp
              have hT8 := HT.out.below ((B5.out.trans (K1.mono B5.out.size)).alloc (by have := B5.out.size; omega) (.cells #[.string (str A), .string (str B)] 9)) h1
              have c80 : (w7.alloc (.cells #[.string (str A), .string (str B)] 9)).cell? ⟨w7.heap.size, 0, none⟩ = some (.string (str A)) := (Row.new w7 [.string (str A), .string (str B)] _).cell 0
              have c81 : (w7.alloc (.cells #[.string (str A), .string (str B)] 9)).cell? ⟨w7.heap.size, 1, none⟩ = some (.string (str B)) := (Row.new w7 [.string (str A), .string (str B)] _).cell 1
              have K3 := Lib.hid (K1.alloc K1.size (.cells #[.string (str A), .string (str B)] 9))
              have K4 := Lib.hid (K2.alloc (.cells #[.string (str A), .string (str B)] 9))
              have K5 := Lib.hid hT8
              have K6 := Lib.hid c80
              have K7 := Lib.hid c81
              clear hT8 c80 c81 K1 K2
              go_wp2_with fail
              refine (htwice_two w7.heap.size 2 A B _ K5.out K6.out K7.out (by omega)).mono ?_
              rintro e w9 ⟨rfl, hb9⟩
              have K8 := K3.out.trans (hb9.mono K3.out.size)
              have K9 := ownN_below K4.out hb9 (Nat.le_refl _)
              have hz9 : wo.heap.size ≤ w9.heap.size := K8.size
              have lD := Mk.twice_length (A ++ B)
              have hnw : ∀ j u, (w8 (Mk.twice (A ++ B)))[j]? = some u → (w9.alloc (.cells (w8 (Mk.twice (A ++ B))).toArray 76)).cell? (Addr.add ⟨w9.heap.size, 0, none⟩ j) = some u := fun j u hu => by
                rw [Addr.add_lit, Nat.zero_add, (Row.new w9 _ _).cell]; exact hu
              have L1 := Lib.hid hnw
              have L2 := Lib.hid (K9.alloc (.cells (w8 (Mk.twice (A ++ B))).toArray 76))
              have L3 := Lib.hid (K8.alloc K8.size (.cells (w8 (Mk.twice (A ++ B))).toArray 76))
              clear K3 K4 K5 K6 K7 K8 K9 hnw hb9 hs8
              go_wp2_with (first | (refine build_arm (o := ⟨some 51, _, _, _, _, _⟩) rfl _ rfl (Mk.twice (A ++ B)) lD rfl ?_) | (at_builtin; refine wpList_append_own _ rfl _ _ 110 rfl wo.heap.size 76 i0 (.agg (w8 (List.replicate 32 0)).toArray) 32 32 Tryz.underlying110 HI.out hz0 hz1 hz2 rfl (by decide) _ _ _ rfl L2.out ⟨w9.heap.size, 0, none⟩ 1 1 (w8 (Mk.twice (A ++ B))) rfl (by rw [w8_length, lD]) L1.out (w8_one _) (by unfold maxLen; omega) (by omega) (by rw [World.size_alloc]; omega) ?_; intro uv2 w10 hown10 hgr10 _))
              have N1 := L3.out.trans ((Below.refl wo.heap.size _).grown hgr10 (by rw [World.size_alloc]; omega) (fun k hk => (L2.out.lt k hk).1))
              rw [flat_snoc] at hown10
              have N2 := Lib.hid hown10
              have N3 := Lib.hid N1
              have N4 : Hid (Mk.up ls = (us ++ [Mk.twice (A ++ B)]) ++ Mk.up (ls.drop (2 * (q + 1)))) := Lib.hid (by rw [G3.out, M1.out, List.append_assoc]; rfl)
              have N5 : Hid ((m || Mk.twin ls) = (m' || (A == B || Mk.twin (ls.drop (2 * (q + 1)))))) := Lib.hid (by rw [G4.out, M2.out]; rfl)
              have N6 := Lib.hid (all32_snoc G5.out lD)
              clear hown10 hgr10 N1 L1 L2 L3
              go_roundw
              case rel => ((repeat (apply Exists.intro)); (first | refine And.intro ?_ rfl | refine And.intro ?_ ⟨rfl, rfl, rfl⟩); exact ⟨q + 1, by omega, by go_num, rfl, us ++ [Mk.twice (A ++ B)], by rw [List.length_append, hul]; rfl, N6.out, N2.out, N4.out, by rw [N5.out, hr]; simp [bOf], N3.out⟩)
              case measure => simp [intOf]; omega
          · have rA : wr.rangeAt g (2 * q * 32) (w8 (ls.getD (2 * q) [])) := by rw [Nat.mul_comm]; exact B1.out.below hB hg (2 * q) hlt
            have rB : wr.rangeAt g ((ls.length - 1) * 32) (w8 (ls.getD (2 * q) [])) := by rw [show ls.length - 1 = 2 * q by omega]; exact rA
            have lA := B2.out.get (2 * q) hlt
            have lB := lA
            clear hB
            have hu2 := Mk.up_last ls (2 * q) (by omega)
            have ht2 := Mk.twin_end ls (2 * q) (by omega)
            generalize ls.getD (2 * q) [] = A at rA lA rB lB hu2
            obtain ⟨B, hBA⟩ : ∃ B, B = A := ⟨_, rfl⟩
            rw [show w8 A = w8 B by rw [hBA]] at rB
            rw [← hBA] at lB
            have hu3 : Mk.up (ls.drop (2 * q)) = Mk.twice (A ++ B) :: Mk.up (ls.drop (2 * q + 2)) := by rw [hBA]; exact hu2
            clear hu2 hBA
            have M1 := Lib.hid hu3
            have M2 := Lib.hid ht2
            clear hu3 ht2
            have p2 : 2 * (q : Int) < (ls.length : Int) := by omega
            have p3 : (0 : Int) ≤ 2 * (q : Int) := by omega
            have p4 : (ls.length : Int) - 1 < 2 * (q : Int) + 1 := by omega
            have p5 : ¬ (2 * (q : Int) + 1 < (ls.length : Int)) := by omega
            have p7 : (0 : Int) ≤ (ls.length : Int) - 1 := by omega
            have p8 : ((ls.length : Int) - 1).toNat = ls.length - 1 := by omega
            go_wp2_with fail
            haveI hne : Nonempty (Reg.Of (fun u => u.rangeAt g (2 * q * 32) (w8 A) ∧ u.rangeAt g ((ls.length - 1) * 32) (w8 B))) := ⟨⟨wr, rA, rB⟩⟩
            refine Reg.startN 13 4 mixed (by kernel_rfl) rfl (fun c a d v w h => by cases d <;> exact h) (by as_aux_lemma => kernel_rfl) rfl (fun u => u.rangeAt g (2 * q * 32) (w8 A) ∧ u.rangeAt g ((ls.length - 1) * 32) (w8 B)) ⟨rA, rB⟩ ?_
            simp only [List.take_succ_cons, List.take_zero]
            iterate 3 (go_big_quiet_step (fail))
            refine wpQuiet_load (o := ⟨some 24, _, _, _, _, _⟩) rfl _ rfl g (2 * q * 32) A lA rfl (fun w' ⟨u, hu⟩ => by rw [hu]; exact u.h.1) ?_
            go_frame
            iterate 8 (go_big_quiet_step (fail))
            refine wpQuiet_load (o := ⟨some 33, _, _, _, _, _⟩) rfl _ rfl g ((ls.length - 1) * 32) B lB rfl (fun w' ⟨u, hu⟩ => by rw [hu]; exact u.h.2) ?_
            go_frame
            refine wpQuiet_nil ?_
            have rA2 : wr.drew.rangeAt g (2 * q * 32) (w8 A) := rA
            have rB2 : wr.drew.rangeAt g ((ls.length - 1) * 32) (w8 B) := rB
            have hwb : Below wo.heap.size wo wr.drew := G2.out.drew
            have hg5 : g < wr.drew.heap.size := Nat.lt_of_lt_of_le hg hwb.size
            have K0 := G1.out.drew
            clear rA rB
            generalize wr.drew = w5 at rA2 rB2 hwb hg5 K0 ⊢
            refine news 13 14 15 16 6 7 (.tmp 24) (.tmp 33) _ _ _ _ (by kernel_rfl) (by kernel_rfl) (by kernel_rfl) (by kernel_rfl) (by kernel_rfl) (by kernel_rfl) rfl rfl rfl rfl rfl rfl rfl rfl rfl rfl rfl rfl rfl rfl rfl rfl (by decide) (by decide) (by exact Nat.le_of_ble_eq_true rfl) (by exact Nat.le_of_ble_eq_true rfl) A B lA lB (fun _ _ => rfl) (fun _ _ => rfl)
              (fun w' hw' => Reg.cls_mk ⟨rangeAt_of_block rA2 (hw'.block g (by omega)), rangeAt_of_block rB2 (hw'.block g (by omega))⟩) ?_
            intro b6 b7 w6 h6 h7 hb67 hr6 hr7 hbw
            go_frame
            have J1 := Lib.hid hr6
            have J2 := Lib.hid hr7
            have J3 := Lib.hid (hwb.trans (hbw.mono hwb.size))
            have J4 := Lib.hid (ownN_below K0 hbw (Nat.le_refl _))
            all_goals
              go_wp2_with fail
              have hcA := conv_dg w6 b6 A lA J1.out
              have hcB := conv_dg w6 b7 B lB J2.out
              refine Reg.tail2 1 5 mixed (by as_aux_lemma => kernel_rfl) rfl rfl (fun c a d v w h => by cases d <;> exact h) ?_
              simp only [List.take_succ_cons, List.take_zero, List.drop_succ_cons, List.drop_zero, List.foldl, Reg.moved]
              change wpQuiet _ _ _ _ _ (Act.put _ (some 44) u4)
              go_frame
              repeat (go_big_quiet_step (fail))
              refine wpQuiet_nil ?_
              have K1 := J3.out.drew
              have K2 := J4.out.drew
              generalize w6.drew = w7 at K1 K2 ⊢
              have hz7 := K1.size
              have hs8 : (w7.alloc (.cells #[.string (str A), .string (str B)] 9)).heap.size = w7.heap.size + 1 := by simp
              have hT8 := HT.out.below ((B5.out.trans (K1.mono B5.out.size)).alloc (by have := B5.out.size; omega) (.cells #[.string (str A), .string (str B)] 9)) h1
              have c80 : (w7.alloc (.cells #[.string (str A), .string (str B)] 9)).cell? ⟨w7.heap.size, 0, none⟩ = some (.string (str A)) := (Row.new w7 [.string (str A), .string (str B)] _).cell 0
              have c81 : (w7.alloc (.cells #[.string (str A), .string (str B)] 9)).cell? ⟨w7.heap.size, 1, none⟩ = some (.string (str B)) := (Row.new w7 [.string (str A), .string (str B)] _).cell 1
              have K3 := Lib.hid (K1.alloc K1.size (.cells #[.string (str A), .string (str B)] 9))
              have K4 := Lib.hid (K2.alloc (.cells #[.string (str A), .string (str B)] 9))
              have K5 := Lib.hid hT8
              have K6 := Lib.hid c80
              have K7 := Lib.hid c81
              clear hT8 c80 c81 K1 K2
              go_wp2_with fail
              refine (htwice_two w7.heap.size 2 A B _ K5.out K6.out K7.out (by omega)).mono ?_
              rintro e w9 ⟨rfl, hb9⟩
              have K8 := K3.out.trans (hb9.mono K3.out.size)
              have K9 := ownN_below K4.out hb9 (Nat.le_refl _)
              have hz9 : wo.heap.size ≤ w9.heap.size := K8.size
              have lD := Mk.twice_length (A ++ B)
              have hnw : ∀ j u, (w8 (Mk.twice (A ++ B)))[j]? = some u → (w9.alloc (.cells (w8 (Mk.twice (A ++ B))).toArray 76)).cell? (Addr.add ⟨w9.heap.size, 0, none⟩ j) = some u := fun j u hu => by
                rw [Addr.add_lit, Nat.zero_add, (Row.new w9 _ _).cell]; exact hu
              have L1 := Lib.hid hnw
              have L2 := Lib.hid (K9.alloc (.cells (w8 (Mk.twice (A ++ B))).toArray 76))
              have L3 := Lib.hid (K8.alloc K8.size (.cells (w8 (Mk.twice (A ++ B))).toArray 76))
              clear K3 K4 K5 K6 K7 K8 K9 hnw hb9 hs8
              go_wp2_with (first | (refine build_arm (o := ⟨some 51, _, _, _, _, _⟩) rfl _ rfl (Mk.twice (A ++ B)) lD rfl ?_) | (at_builtin; refine wpList_append_own _ rfl _ _ 110 rfl wo.heap.size 76 i0 (.agg (w8 (List.replicate 32 0)).toArray) 32 32 Tryz.underlying110 HI.out hz0 hz1 hz2 rfl (by decide) _ _ _ rfl L2.out ⟨w9.heap.size, 0, none⟩ 1 1 (w8 (Mk.twice (A ++ B))) rfl (by rw [w8_length, lD]) L1.out (w8_one _) (by unfold maxLen; omega) (by omega) (by rw [World.size_alloc]; omega) ?_; intro uv2 w10 hown10 hgr10 _))
              have N1 := L3.out.trans ((Below.refl wo.heap.size _).grown hgr10 (by rw [World.size_alloc]; omega) (fun k hk => (L2.out.lt k hk).1))
              rw [flat_snoc] at hown10
              have N2 := Lib.hid hown10
              have N3 := Lib.hid N1
              have N4 : Hid (Mk.up ls = (us ++ [Mk.twice (A ++ B)]) ++ Mk.up (ls.drop (2 * (q + 1)))) := Lib.hid (by rw [G3.out, M1.out, List.append_assoc]; rfl)
              have N5 : Hid ((m || Mk.twin ls) = m') := Lib.hid (by rw [G4.out, M2.out, Bool.or_false])
              have N7 : Hid (Mk.twin (ls.drop (2 * (q + 1))) = false) := Lib.hid (Mk.twin_end _ _ (by omega))
              have N6 := Lib.hid (all32_snoc G5.out lD)
              clear hown10 hgr10 N1 L1 L2 L3
              go_roundw
              case rel => ((repeat (apply Exists.intro)); (first | refine And.intro ?_ rfl | refine And.intro ?_ ⟨rfl, rfl, rfl⟩); exact ⟨q + 1, by omega, by go_num, rfl, us ++ [Mk.twice (A ++ B)], by rw [List.length_append, hul]; rfl, N6.out, N2.out, N4.out, by rw [N5.out, N7.out]; simp [bOf], N3.out⟩)
              case measure => simp [intOf]; omega
        · have hdn : ls.drop (2 * q) = [] := List.drop_of_length_le (by omega)
          rw [hdn] at hup htw
          have hus : us = Mk.up ls := by rw [hup]; simp [Mk.up]
          have htw2 : (m || Mk.twin ls) = m' := by rw [htw]; simp [Mk.twin]
          subst hus
          have hlen := Mk.up_length ls
          obtain ⟨g2, k2, rfl, hg2, hg2s, hdg2⟩ := own_digs hown (by omega) hul.symm hu32
          have hRl := B4.out.lt
          have hro2 : Mk.root ds false = Mk.root (Mk.up ls) m' := by rw [B3.out, Mk.root_up ls m hl1, htw2]
          have P1 := Lib.hid hdg2
          have P2 := Lib.hid hro2
          have P3 := Lib.hid (B4.out.below hB hRl)
          have P4 := Lib.hid (B5.out.trans (hB.mono B5.out.size))
          have P5 := Lib.hid hu32
          have hq2 : q = (Mk.up ls).length := hul.symm
          subst hq2
          clear hown hup htw hB hdn htw2 hdg2 hro2 hu32 hul B1 B2 B3 B4 B5
          have p9 : ¬ (2 * ((Mk.up ls).length : Int) < (ls.length : Int)) := by omega
          go_wp2_with fail
          go_roundw
          case rel => exact ⟨g2, k2, Mk.up ls, by omega, by omega, rfl, rfl, hg2s, P1.out, P5.out, P2.out, P3.out, by omega, P4.out⟩
          case measure => (simp only [sLen]; omega)
    · obtain ⟨d, hd1⟩ := List.length_eq_one_iff.1 (show ls.length = 1 by omega)
      subst hd1
      have hroot2 : Mk.root ds false = (d, m) := by rw [hroot, Mk.root_one _ _ (by simp)]; rfl
      have B7 := Lib.hid hroot2
      have lD := ha32 d (by simp)
      have rD : wr.rangeAt g 0 (w8 d) := hdg 0 (by simp)
      have B4 := Lib.hid hR
      have B5 := Lib.hid hB
      have B6 := Lib.hid rD
      clear hdg ha32 hroot hroot2 hR hB rD
      go_wp2_with (first | (refine load_at (o := ⟨some 56, _, _, _, _, _⟩) rfl _ rfl g 0 d lD rfl B6.out ?_) | (with_reducible refine store_dg (o := ⟨none, _, _, _, _, _⟩) rfl _ _ rfl w.heap.size (List.replicate 32 0) d rfl lD rfl rfl B4.out ?_))
      have hfin := below_setRow B5.out (Nat.le_refl _) (w8 d).toArray
      exact bodyPost_ret (v := .tuple #[.agg (w8 d).toArray, .bool m]) (results_dg2 (fn := Tryz.f51) rfl _ _ w.heap.size d lD _ rfl rfl (B4.out.setRow (w8 d))) rfl ⟨by rw [B7.out], hfin⟩
end Go.Proofs.YtlpcjiollnnmgabGreatDoor
