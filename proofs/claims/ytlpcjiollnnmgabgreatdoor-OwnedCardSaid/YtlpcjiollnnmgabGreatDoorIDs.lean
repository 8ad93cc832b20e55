/-
  THE WALK OF (*Pool).IDs.
-/
import Derived.Test.YtlpcjiollnnmgabGreatDoorPoolW
import Derived.Test.YtlpcjiollnnmgabGreatDoorSortLay
import Derived.Sort.KeysCollected
import Derived.Sort.OwnSorted
set_option maxRecDepth 100000
namespace Go.Proofs.YtlpcjiollnnmgabGreatDoor
open Nums
open Go.RowKit
theorem len64_zero (w : World) : Calls Tryz.prog 147 #[.int .u64 0] w fun e w' => e = .returned (.int .i64 0) ∧ w' = w := by
  go_enter Tryz.func147, Tryz.ntmps147
  go_wp2_with fail
  go_ret
  exact ⟨congrArg (fun z => Ending.returned (.int .i64 z)) (show wrap64 (wrap64 (Lib.len8 0)) = 0 by decide +kernel), rfl⟩
theorem len_zero (w : World) : Calls Tryz.prog 120 #[.int .u64 0] w fun e w' => e = .returned (.int .i64 0) ∧ w' = w := by
  go_enter Tryz.func120, Tryz.ntmps120
  go_wp2_with fail
  refine (len64_zero w).mono ?_
  rintro e w1 ⟨rfl, rfl⟩
  go_wp2_with fail
  go_ret
  exact ⟨rfl, rfl⟩
theorem insnil (w : World) : Calls Tryz.prog 137 #[.slice none 0 0, .int .i64 0, .int .i64 0] w fun e w' => e = .returned (.tuple #[]) ∧ w' = w := by
  go_enter Tryz.func137, Tryz.ntmps137
  go_wp2_with fail
  refine wp_loop_rounds 1 ?_
  rw [rounds_succ]
  go_wp2_with fail
  go_end0
  exact ⟨rfl, rfl⟩
theorem pdq_nil (w : World) : Calls Tryz.prog 119 #[.slice none 0 0, .int .i64 0, .int .i64 0, .int .i64 0] w fun e w' => e = .returned (.tuple #[]) ∧ w' = w := by
  go_enter Tryz.func119, Tryz.ntmps119
  go_wp2_with fail
  refine wp_loop_rounds 1 ?_
  rw [rounds_succ]
  go_wp2_with fail
  refine (insnil _).mono ?_
  rintro e w1 ⟨rfl, rfl⟩
  go_wp2_with fail
  refine bodyPost_ret (results_none rfl _ _ _) rfl ?_
  exact ⟨rfl, rfl⟩
theorem sortnil_calls (w : World) : Calls Tryz.prog 85 #[.slice none 0 0] w fun e w' => e = .returned (.tuple #[]) ∧ w' = w := by
  go_enter Tryz.func85, Tryz.ntmps85
  go_wp2_with fail
  rw [show U (toU 0) = 0 by decide +kernel]
  refine (len_zero w).mono ?_
  rintro e w1 ⟨rfl, rfl⟩
  go_wp2_with fail
  refine (pdq_nil _).mono ?_
  rintro e w1 ⟨rfl, rfl⟩
  go_wp2_with fail
  go_end0
  exact ⟨rfl, rfl⟩
theorem mapM_all {α β : Type} {f : α → Option β} : ∀ {l : List α} {r : List β}, l.mapM f = some r → ∀ x ∈ l, ∃ y, f x = some y
  | [], _, _, x, hx => by cases hx
  | a :: l, r, h, x, hx => by
    rw [List.mapM_cons] at h
    cases ha : f a with
    | none => rw [ha] at h; cases h
    | some y =>
      rw [ha] at h
      cases hl : l.mapM f with
      | none => rw [hl] at h; cases h
      | some r' =>
        rcases List.mem_cons.1 hx with rfl | hx
        · exact ⟨y, ha⟩
        · exact mapM_all hl x hx
def byteOf : Value → UInt8
  | .int _ n => UInt8.ofNat n.toNat
  | _ => 0
theorem u8_inv {d : Nat} {c : Value} {ls : List Lit} (h : Tryz.prog.keyLits (d + 1) 5 [c] = some ls) : c = .int .u8 (Y (byteOf c)) := by
  unfold Program.keyLits at h
  simp only [Tryz.underlying5] at h
  cases c <;> try (simp at h; done)
  rename_i k n
  dsimp only at h
  split at h
  · rename_i hk
    obtain ⟨rfl, hw⟩ := hk
    have hn : 0 ≤ n ∧ n ≤ 255 := by
      simp [Lit.wf, IntKind.min, IntKind.max, IntKind.signed, IntKind.bits] at hw; omega
    have : Y (byteOf (.int .u8 n)) = n := by
      unfold byteOf Y
      simp only [UInt8.toNat_ofNat']
      omega
    rw [this]
  · cases h
/-- what reads as a key is a digest -/
theorem key_inv {v : Value} {kl : Lit} (h : keyOf Tryz.prog 76 v = some kl) : ∃ d : List UInt8, d.length = 32 ∧ v = .agg (w8 d).toArray ∧ kl = .string d := by
  have h0 := h
  obtain ⟨n, hn⟩ : ∃ n, Tryz.prog.types.size + 1 = n + 2 := ⟨Tryz.prog.types.size - 1, by kernel_rfl⟩
  unfold keyOf at h
  simp only [Tryz.underlying76, show Tryz.prog.keyType 76 = true by kernel_rfl, Bool.true_and] at h
  split at h
  · rename_i hf
    cases v <;> try (simp [Value.formed, Tryz.underlying76] at hf; done)
    rename_i cs
    have hsz : cs.toList.length = 32 := by
      simp only [Value.formed, Tryz.underlying76, cellsDg, beq_iff_eq] at hf
      simpa using hf
    rw [hn, show (Value.agg cs).cells.toList = cs.toList by simp [Value.cells]] at h
    cases hl : Tryz.prog.keyLits (n + 2) 76 cs.toList with
    | none => rw [hl] at h; cases h
    | some ls =>
      unfold Program.keyLits at hl
      simp only [Tryz.underlying76, cellsDg, hsz, if_true, cellsU8] at hl
      cases hm : (List.range 32).mapM (fun i => Tryz.prog.keyLits (n + 1) 5 ((cs.toList.drop (i * 1)).take 1)) with
      | none => rw [hm] at hl; cases hl
      | some r =>
        have hall := mapM_all hm
        have hcell : ∀ i (hi : i < cs.toList.length), cs.toList[i] = .int .u8 (Y (byteOf cs.toList[i])) := fun i hi => by
          obtain ⟨y, hy⟩ := hall i (List.mem_range.2 (by omega))
          rw [Nat.mul_one, List.drop_eq_getElem_cons hi] at hy
          exact u8_inv hy
        have hcs : cs.toList = w8 (cs.toList.map byteOf) := by
          apply List.ext_getElem
          · simp [w8]
          · intro i h1 h2
            have := hcell i h1
            simp only [w8, List.getElem_map]
            exact this
        have hd : (cs.toList.map byteOf).length = 32 := by simpa using hsz
        have hv : Value.agg cs = .agg (w8 (cs.toList.map byteOf)).toArray := by rw [← hcs]
        refine ⟨_, hd, hv, ?_⟩
        rw [hv, Mp.key_dg _ hd] at h0
        exact (Option.some.inj h0).symm
  · cases h
theorem grown_below {w w' : World} (h : Below w.heap.size w w') : w.grownBy w' none := ⟨h.os, h.tape, h.output, h.size, fun i hi _ => h.block i hi⟩
theorem keys_D (P : List Mp.B) : strKeys (Mp.D P) = P.map Mk.twice := by
  show (Mp.ents P).map (fun p => strOf p.1) = _
  unfold Mp.ents
  rw [List.map_map]; rfl
theorem sorted_up {l : List (List UInt8)} (h : l.Pairwise (· < ·)) : l.mergeSort leB = l := by
  refine List.mergeSort_of_pairwise (h.imp fun {a b} hab => ?_)
  exact decide_eq_true (List.le_of_lt hab)
/-- what was collected, sorted -/
theorem collected_sorted {P : List Mp.B} (hup : Pl.Up Mk.twice P) {left : Lit → Bool} {ss : List (List UInt8)} (hC : Collected (Mp.D P) left ss) (hl : ∀ kl, left kl = false) : ss.mergeSort leB = P.map Mk.twice ∧ ss.length = P.length := by
  have hp : ss.Perm (P.map Mk.twice) := by
    rw [← keys_D]
    refine perm_strKeys (es := Mp.ents P) ?_ (fun p hp => ?_) hC.1 (fun x => by rw [hC.2 x, hl]; exact ⟨fun h => h.1, fun h => ⟨h, rfl⟩⟩)
    · refine List.pairwise_map.2 (hup.imp fun {a b} hab e => ?_)
      have : Mk.twice a = Mk.twice b := by simpa using e
      rw [this] at hab; exact Pl.lt_irr _ hab
    · obtain ⟨t, _, rfl⟩ := List.mem_map.1 hp
      exact ⟨_, rfl⟩
  refine ⟨?_, by simpa using hp.length_eq⟩
  rw [mergeSort_of_perm hp, sorted_up (Pl.keys_up Mk.twice P hup)]
set_option maxHeartbeats 4000000 in
theorem ids_calls (r m : Nat) (P : List Mp.B) (w : World) (hr : w.cell? ⟨r, 0, none⟩ = some (.map (some m))) (hM : Mp.Map w m P) :
    Calls Tryz.prog 59 #[.pointer (some ⟨r, 0, none⟩)] w fun e w' => ∃ v, e = .returned v ∧ w'.ownsRow w.heap.size 9 1 v P.length (wt (P.map Mk.twice)) ∧ Below w.heap.size w w' := by
  obtain ⟨i0, hi0, hz0, hz1, hz2⟩ := info_parts infoStr
  have HI := Lib.hid hi0
  have HM := Lib.hid hM
  have hmw := hM.lt
  have hup := hM.up
  have hle := hM.le
  clear hi0 hM
  go_enter Tryz.func59, Tryz.ntmps59
  go_wp2_with (at_range; refine wpList_range_own _ (o := ⟨some 9, _, _, _, _, _⟩) rfl _ 39 rfl 76 78 Mp.law Tryz.underlying39 Mp.txR m 20 (Mp.D P) rfl HM.out.own ?_; intro w0 hrg0 hg0 hs0)
  go_frame
  obtain ⟨R, hR⟩ : ∃ R, w.heap.size = R := ⟨_, rfl⟩
  have B0 := Lib.hid ((Below.refl w.heap.size w).grown hg0 (Nat.le_refl _) (fun j hj => by cases hj))
  have HRG := Lib.hid hrg0
  rw [hR] at HRG
  rw [hR]
  have HRE := Lib.hid hR
  have hsz := Mp.size_ents P
  clear hrg0 hg0 hs0 hR
  go_loopw [3, 4] (fun ov _ wr => ∃ (left : Lit → Bool) (cnt : Nat) (ss : List (List UInt8)), wr.ranges Tryz.prog 76 Mp.txR m R 20 (Mp.D P) left cnt ∧ ss.length + cnt ≤ 20 ∧ wr.ownsRow w.heap.size 9 1 ov ss.length (wt ss) ∧ Collected (Mp.D P) left ss ∧ Below w.heap.size w wr) (fun _ _ wr => wr.rangeLeft m R)
  case atStart => exact ⟨_, _, [], HRG.out, by rw [hsz]; simpa using hle, World.ownsRow_nil _ _ _ _, Collected.start _, B0.out⟩
  case round =>
    obtain ⟨left, cnt, ss, hrg, hcs, hrow, hC, hB⟩ := hrel
    have HROW := Lib.hid hrow
    have HC := Lib.hid hC
    have HB := Lib.hid hB
    have hzr := hB.size
    clear hrow hC hB
    go_wp2_with (at_next; refine wpList_next_ranges _ (o := ⟨some 10, _, _, _, _, _⟩) rfl _ rfl 76 Mp.law Mp.txR (fun d : {d : List UInt8 // d.length = 32} => Value.agg (w8 d.1).toArray) (fun c : Value => c) (fun key kl hk => by obtain ⟨d, hd, hv, _⟩ := key_inv hk; exact ⟨⟨d, hd⟩, hv⟩) (fun v y hv => ⟨v, rfl⟩) m R 20 _ _ _ rfl hrg ?_ ?_)
    · intro hc0 hl0
      have hsl := collected_sorted hup HC.out hl0
      have H1 := Lib.hid hsl.1
      have HSN := Lib.hid hsl.2
      clear hsl
      have hrow := HROW.out
      rcases hrow.2 with ⟨hnil, hss⟩ | ⟨g, cap, cur, hv, hbase, hb, h1, h2, h3, h4⟩
      · subst hnil
        have hs0 : ss = [] := by
          exact List.length_eq_zero_iff.1 hss
        have hP0 : P = [] := List.length_eq_zero_iff.1 (by rw [← HSN.out, hs0]; rfl)
        have H2 := Lib.hid hP0
        clear hrow hP0 hs0
        have T1 := Lib.hid (sortnil_calls wr)
        go_wp2_with fail
        refine T1.out.mono ?_
        rintro e w3 ⟨rfl, rfl⟩
        go_wp2_with fail
        go_ret
        exact ⟨_, rfl, by rw [H2.out]; exact World.ownsRow_nil _ _ _ _, HB.out⟩
      · subst hv
        have hH : Sort.Holds encStr wr g 0 ss.toArray := holds_of_block hb (by rw [Nat.mul_one] at h4; exact h4)
        have hgl : g < wr.heap.size := (Array.getElem?_eq_some_iff.1 hb).1
        have T1 := Lib.hid (sort_calls g 0 cap ss wr hH hgl (by omega))
        have O2 : ∀ (n : Nat) (os : Array Obj), (Sort.grow (Sort.putRow encStr (Sort.ahead wr n) g 0 (P.map Mk.twice).toArray) os).ownsRow w.heap.size 9 1 (.slice (some ⟨g, 0, none⟩) ss.length cap) ss.length ((P.map Mk.twice).map encStr) := fun n os => ownsRow_sorted (by rw [List.length_map, HSN.out]) hbase hb h1 h2 h3
        have HO2 := Lib.hid O2
        clear hrow hH hb O2 h1 h2 h3 h4
        go_wp2_with fail
        refine T1.out.mono ?_
        rintro e w3 ⟨rfl, nn, os, rfl⟩
        rw [H1.out]
        have B3 := Lib.hid (HB.out.grown (grownBy_sorted (P.map Mk.twice).toArray (w := wr) (g := g) (n := nn) (os := os)) hzr (fun j hj => by cases hj; exact hbase))
        have O3 := Lib.hid (HO2.out nn os)
        generalize Sort.grow (Sort.putRow encStr (Sort.ahead wr nn) g 0 (P.map Mk.twice).toArray) os = w3 at B3 O3 ⊢
        go_wp2_with fail
        go_ret
        refine ⟨_, rfl, ?_, B3.out⟩
        have := O3.out
        rw [← HSN.out]
        exact this
    · intro x hx c kl yd yp w2 cnt2 hkey hlk hv hat hrg2 hlt hg2 hs2 hen
      obtain rfl : kl = .string x := by rw [Mp.key_dg x hx] at hkey; exact (Option.some.inj hkey).symm
      have hrow2 := HROW.out.kept hg2 (Or.inr (row_ne_iter HROW.out hrg).symm)
      have hRB : w.heap.size ≤ R := HRE.out ▸ Nat.le_refl _
      have hB2 := HB.out.grown hg2 hzr (fun j hj => by cases hj; exact hRB)
      have C2 := Lib.hid (HC.out.step hlk hat)
      have LE := Lib.hid hrg.left_eq
      obtain ⟨hB3, hz3, hR4, hR3⟩ := fresh_dg w2 x 76
      rw [Tryz.zeroDg] at hB3 hz3 hR4 hR3
      clear hkey hlk hv hat hs2 hg2 hrg
      go_upto_region 5 with (with_reducible refine store_dg (o := ⟨none, _, _, _, _, _⟩) rfl _ _ rfl w2.heap.size (List.replicate 32 0) x rfl hx rfl rfl hR3 ?_)
      obtain ⟨A, hA⟩ : ∃ A, w2.heap.size = A := ⟨_, rfl⟩
      have hzw : w.heap.size ≤ w2.heap.size := hB2.size
      have G3 := grown_below hB3
      have B3 := Lib.hid (hB2.trans (hB3.mono hzw))
      have HRG3 := Lib.hid (hrg2.kept G3 (by simp) (by simp))
      have O3 := Lib.hid (ownN_below hrow2 hB3 (Nat.le_refl _))
      clear G3 hB3 hz3 hR3 hrow2 hB2 hrg2
      rw [hA] at hR4 B3 HRG3 O3 ⊢
      clear hA hen
      generalize World.setRow _ A (w8 x).toArray = w3 at hR4 B3 HRG3 O3 ⊢
      have hz3 := B3.out.size
      go_frame
      go_wp2_with (first
        | (with_reducible refine conv_arm (o := ⟨some 16, _, _, _, _, _⟩) rfl _ _ _ _ rfl A 0 32 32 x hx rfl Tryz.underlying35 Tryz.underlying5 Tryz.underlying9 hR4.bytes ?_)
        | (at_builtin; (refine wpList_append_own _ rfl _ _ 28 rfl w.heap.size 9 i0 (.string ByteArray.empty) 1 16 Tryz.underlying28 HI.out hz0 hz1 hz2 rfl (by decide) _ _ _ rfl (O3.out.alloc _) ⟨w3.heap.size, 0, none⟩ 1 1 [.string (str x)] rfl rfl (cell_one_new _ _ _) (wt_one [x]) (by unfold maxLen; omega) (by omega) (by rw [World.size_alloc]; omega) ?_); intro v4 w4 hown4 hgr4 _; have H1 := Lib.hid hown4; have H2 := Lib.hid hgr4; clear hown4 hgr4))
      have HRG4 := Lib.hid ((HRG3.out.alloc _).kept H2.out (row_ne_low O3.out hmw) (row_ne_iter O3.out HRG3.out))
      have B4 := Lib.hid ((B3.out.alloc hz3 _).grown H2.out (by rw [World.size_alloc]; omega) (fun k hk => (O3.out.lt k hk).1))
      clear H2
      go_roundw
      case rel => exact ⟨_, cnt2, ss ++ [x], HRG4.out, by simp; omega, by rw [List.length_append, ← wt_snoc]; exact H1.out, C2.out, B4.out⟩
      case measure => rw [HRG4.out.left_eq, LE.out]; exact hlt
end Go.Proofs.YtlpcjiollnnmgabGreatDoor
