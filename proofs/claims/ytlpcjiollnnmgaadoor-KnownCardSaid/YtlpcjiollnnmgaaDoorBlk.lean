/-
  compactkeep.block: a block of transactions, and a number.
-/
import Derived.Test.YtlpcjiollnnmgaaDoorTxGen
import Derived.Test.YtlpcjiollnnmgaaDoorTxid
import Derived.Test.YtlpcjiollnnmgaaDoorRefMk
import Derived.Test.YtlpcjiollnnmgaaDoorJoin
set_option maxRecDepth 100000
namespace Go.Proofs.YtlpcjiollnnmgaaDoor
open Nums
open Go.RowKit
namespace Keeps
def ids (ts : List (List UInt8)) : List (List UInt8) := ts.map Mk.twice
def blkHead (ts : List (List UInt8)) (seed : Int) : List UInt8 := bytes 36 seed ++ (Mk.root (ids ts) false).1 ++ bytes 12 (wrap64 (seed + 1))
def blk (ts : List (List UInt8)) (seed : Int) : List UInt8 := blkHead ts seed ++ [UInt8.ofNat ts.length] ++ ts.flatten
theorem ids_take (ts : List (List UInt8)) (i : Nat) (h : i < ts.length) : ids (ts.take (i + 1)) = ids (ts.take i) ++ [Mk.twice (ts.getD i [])] := by
  unfold ids
  rw [List.take_add_one, List.getElem?_eq_getElem h, List.map_append, List.getD_eq_getElem?_getD, List.getElem?_eq_getElem h]; rfl
theorem flat_take (ts : List (List UInt8)) (i : Nat) (h : i < ts.length) : (ts.take (i + 1)).flatten = (ts.take i).flatten ++ ts.getD i [] := by
  rw [List.take_add_one, List.getElem?_eq_getElem h, List.flatten_append, List.getD_eq_getElem?_getD, List.getElem?_eq_getElem h]; simp
theorem ids_32 (ts : List (List UInt8)) : All32 (ids ts) := fun s h => by
  obtain ⟨t, _, rfl⟩ := List.mem_map.1 h; exact twice32 t
theorem ids_fit (ts : List (List UInt8)) (h : 0 < ts.length) : Mk.fit (ids ts) = true := by
  unfold Mk.fit
  simp only [Bool.and_eq_true, decide_eq_true_eq, List.all_eq_true, beq_iff_eq]
  exact ⟨by simpa [ids] using h, ids_32 ts⟩
/-- these are transactions -/
def Good (ts : List (List UInt8)) : Prop := ∀ t ∈ ts, t.length ≤ 610 ∧ ∃ r, Wr.readTx t = .ok t r
end Keeps
theorem results_tmp4 {fn : Func} {t u v x : Tmp} (h : fn.results = #[.tmp t, .tmp u, .tmp v, .tmp x]) (tmps : Array Value) (P : Program) (w : World) :
    (results fn tmps).run P w = .ok (.tuple #[tmps.getD t undef, tmps.getD u undef, tmps.getD v undef, tmps.getD x undef]) w := by
  simp [results, h]
set_option maxHeartbeats 8000000 in
theorem kblock_calls (ts : List (List UInt8)) (v : Value) (seed : Int) (w : World) (hT : Tabs w) (hv : Texts w v ts) (hG : Keeps.Good ts) (h0 : 0 < ts.length) (hn : ts.length ≤ 100) :
    Calls Tryd.prog 27 #[v, .int .i64 seed] w fun e w' => ∃ iv, e = .returned (.tuple #[.string (str (Keeps.blk ts seed)), iv, .bool (Mk.root (Keeps.ids ts) false).2, .bool true]) ∧ w'.ownsRow w.heap.size 9 1 iv ts.length (wt (Keeps.ids ts)) ∧ Below w.heap.size w w' := by
  obtain ⟨i0, hi0, hz0, hz1, hz2⟩ := info_parts infoStr
  have HI := Lib.hid hi0
  obtain ⟨gb, go, cb, rfl, hgb, hP⟩ := hv.open h0
  have HP := Lib.hid hP
  have HT := Lib.hid hT
  have HG := Lib.hid hG
  have h1w := hT.lt
  clear hi0 hv hP hT hG
  obtain ⟨res, hres⟩ : ∃ r, Keeps.blk ts seed = r := ⟨_, rfl⟩
  rw [hres]
  have RS := Lib.hid hres
  obtain ⟨rp, hrp⟩ : ∃ p, Mk.root (Keeps.ids ts) false = p := ⟨_, rfl⟩
  rw [hrp]
  have RP := Lib.hid hrp
  clear hres hrp
  obtain ⟨rt, tw⟩ := rp
  go_enter Tryd.func27, Tryd.ntmps27
  go_wp2_with fail
  go_loopw [8, 9, 11, 12, 13, 20] (fun dv sv _ _ _ iv wr => ∃ (i : Nat) (s : List UInt8), i ≤ ts.length ∧ iv = .int .i64 i ∧ sv = .string (str s) ∧ s.length ≤ 610 * i ∧ s = (ts.take i).flatten ∧ wr.ownsRow w.heap.size 9 1 dv i (wt (Keeps.ids (ts.take i))) ∧ Below w.heap.size w wr) (fun _ _ _ _ _ iv _ => ts.length - (intOf iv).toNat)
  case atStart => exact ⟨0, [], by omega, rfl, rfl, by simp, by simp, World.ownsRow_nil _ _ _ _, Below.refl _ _⟩
  case round =>
    obtain ⟨i, s, hi, rfl, rfl, hsl, hse, hown, hB⟩ := hrel
    have HB := Lib.hid hB
    have HE := Lib.hid hse
    have HO := Lib.hid hown
    have hzr := hB.size
    clear hB hse hown
    by_cases hlt : i < ts.length
    · have p1 : (i : Int) < (ts.length : Int) := by omega
      have hc : wr.cell? ⟨gb, go + i, none⟩ = some (.string (str (ts.getD i []))) := by
        rw [← HP.out i hlt]; exact World.cell?_of_block (w := w) (HB.out.block gb hgb)
      have hm : ts.getD i [] ∈ ts := by rw [List.getD_eq_getElem?_getD, List.getElem?_eq_getElem hlt]; exact List.getElem_mem hlt
      obtain ⟨htl, r, hrd⟩ := HG.out _ hm
      have F := Lib.hid (Keeps.flat_take ts i hlt)
      have I := Lib.hid (Keeps.ids_take ts i hlt)
      generalize ts.getD i [] = t at hc hm htl hrd F I
      have T1 := Lib.hid (txid_calls t wr (HT.out.below HB.out h1w) (by omega))
      rw [hrd] at T1
      dsimp only [txidV] at T1
      have h32 := twice32 t
      clear hrd hm
      go_wp2_with fail
      refine T1.out.mono ?_
      clear T1
      generalize Mk.twice t = d at h32 I ⊢
      rintro e w2 ⟨rfl, hb2⟩
      have O2 := Lib.hid (ownN_below HO.out hb2 (Nat.le_refl _))
      have B2 := Lib.hid (HB.out.trans (hb2.mono hzr))
      have hz2' := B2.out.size
      clear hb2 HO HB hc
      go_wp2_with (at_builtin; refine wpList_append_own _ rfl _ _ 26 rfl w.heap.size 9 i0 (.string ByteArray.empty) 1 16 Tryd.underlying26 HI.out hz0 hz1 hz2 rfl (by decide) _ _ _ rfl (O2.out.alloc _) ⟨w2.heap.size, 0, none⟩ 1 1 [.string (str d)] rfl rfl (cell_one_new _ _ _) (wt_one [d]) (by unfold maxLen; omega) (by omega) (by rw [World.size_alloc]; omega) ?_; intro uv2 w3 hown3 hgr3 _; have hbl : Below w.heap.size w2 w3 := ((Below.refl w.heap.size w2).alloc hz2' _).grown hgr3 (by rw [World.size_alloc]; omega) (fun k hk => (O2.out.lt k hk).1); have H1 := Lib.hid hown3; have H2 := Lib.hid hbl; clear hown3 hgr3 hbl)
      go_roundw
      case rel => exact ⟨i + 1, s ++ t, by omega, by go_num, rfl, by rw [List.length_append]; omega, by rw [HE.out, F.out], by rw [I.out, ← wt_snoc]; exact H1.out, B2.out.trans H2.out⟩
      case measure => simp [intOf]; omega
    · obtain rfl : i = ts.length := by omega
      have HE2 := Lib.hid (show s = ts.flatten by rw [HE.out, List.take_of_length_le (Nat.le_refl _)])
      have HO2 := Lib.hid (show wr.ownsRow w.heap.size 9 1 u8 ts.length (wt (Keeps.ids ts)) by have := HO.out; rwa [List.take_of_length_le (Nat.le_refl _)] at this)
      have hil : ts.length = (Keeps.ids ts).length := by simp [Keeps.ids]
      have TX := own_texts HO2.out hil
      have hfit := Keeps.ids_fit ts h0
      have T1 := Lib.hid (rroot_calls u8 (Keeps.ids ts) wr (HT.out.below HB.out h1w) TX (by omega))
      have hrl := Mk.root_len (Keeps.ids ts) (Keeps.ids_32 ts) (by omega)
      obtain ⟨sa, sc, rfl⟩ := own_slice HO2.out
      clear HE HO TX hil
      rw [show Mk.answer (Keeps.ids ts) = .tuple #[.string (str (Mk.root (Keeps.ids ts) false).1), .bool (Mk.root (Keeps.ids ts) false).2, .int .i64 0] from if_pos hfit] at T1
      have EQ := Lib.hid (show res = Keeps.bytes 36 seed ++ (Mk.root (Keeps.ids ts) false).1 ++ Keeps.bytes 12 (wrap64 (seed + 1)) ++ [UInt8.ofNat ts.length] ++ s by rw [← RS.out, HE2.out]; rfl)
      have EZ := Lib.hid (show Value.string (str (Keeps.bytes 36 seed ++ ((Mk.root (Keeps.ids ts) false).1 ++ (Keeps.bytes 12 (wrap64 (seed + 1)) ++ UInt8.ofNat ts.length :: s)))) = Value.string (str res) by rw [EQ.out]; simp only [List.append_assoc, List.cons_append, List.nil_append])
      rw [RP.out] at T1 EZ hrl
      dsimp only at T1 EZ hrl
      have BA := Lib.hid (fun v => bytes_calls 36 seed v (by omega))
      have BN := Lib.hid (fun v => bytes_calls 12 (wrap64 (seed + 1)) v (by omega))
      have l1 := Keeps.bytes_length 36 seed
      have l2 := Keeps.bytes_length 12 (wrap64 (seed + 1))
      clear EQ
      generalize Keeps.bytes 36 seed = b1 at l1 BA EZ
      generalize Keeps.bytes 12 (wrap64 (seed + 1)) = b2 at l2 BN EZ
      clear hfit
      go_upto_region 13 with fail
      refine T1.out.mono ?_
      clear T1
      rintro e w2 ⟨rfl, hb2⟩
      have O2 := Lib.hid (ownN_below HO2.out hb2 (Nat.le_refl _))
      have B2 := Lib.hid (HB.out.trans (hb2.mono hzr))
      clear hb2 HO2 HB hzr
      go_wp2_with fail
      refine (BA.out _).mono ?_
      rintro e w3 ⟨rfl, hb3⟩
      have O3 := Lib.hid (ownN_below O2.out hb3 (Nat.le_refl _))
      have B3 := Lib.hid (B2.out.trans (hb3.mono B2.out.size))
      clear hb3 O2 B2
      go_wp2_with fail
      refine (BN.out _).mono ?_
      rintro e w4 ⟨rfl, hb4⟩
      have O4 := Lib.hid (ownN_below O3.out hb4 (Nat.le_refl _))
      have B4 := Lib.hid (B3.out.trans (hb4.mono B3.out.size))
      clear hb4 O3 B3
      go_wp2_with fail
      refine bodyPost_ret (results_tmp4 rfl _ _ _) rfl ?_
      exact ⟨_, congrArg Ending.returned (congrArg (fun x => Value.tuple #[x, Value.slice sa ts.length sc, .bool tw, .bool true]) EZ.out), O4.out.alloc _, B4.out.alloc B4.out.size _⟩
end Go.Proofs.YtlpcjiollnnmgaaDoor
