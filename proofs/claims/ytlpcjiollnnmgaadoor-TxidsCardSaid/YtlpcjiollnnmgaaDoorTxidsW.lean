/-
  THE WALK OF compactlaw.Txids.
-/
import Derived.Test.YtlpcjiollnnmgaaDoorTxid
import Derived.Test.YtlpcjiollnnmgaaDoorRdTx
import Derived.Test.YtlpcjiollnnmgaaDoorRefMk
set_option maxRecDepth 100000
namespace Go.Proofs.YtlpcjiollnnmgaaDoor
open Go.RowKit Nums
theorem readTx_whole {l t r : List UInt8} (h : Wr.readTx l = .ok t r) : t = l ∧ l.length ≤ 610 := by
  have h' : (Wr.tx l).bind (fun a r => if r = [] then .ok a r else .bad 5) = .ok t r := h
  unfold Wr.tx at h'
  cases hb : Wr.body l with
  | bad e => rw [hb] at h'; cases h'
  | ok u s =>
    rw [hb] at h'
    have h2 : (if s = [] then (.ok (l.take (l.length - s.length)) s : Wr.R (List UInt8)) else .bad 5) = .ok t r := h'
    by_cases hs : s = []
    · rw [if_pos hs] at h2
      subst hs
      have hl := Wr.body_eats l u _ hb
      cases h2
      simp at hl ⊢
      exact hl
    · rw [if_neg hs] at h2; cases h2
theorem txids_calls (l : List UInt8) (w : World) (hT : Tabs w) (hl : l.length ≤ 9223372036854775807) :
    Calls Tryd.prog 7 #[.string (str l)] w fun e w' => e = .returned (.bool true) ∧ Below w.heap.size w w' := by
  have h1w := hT.lt
  have T1 := Lib.hid (txid_calls l w hT hl)
  have FD := Rf.fin_done (Rf.tx_ag l)
  have HT := Lib.hid hT
  clear hT
  cases hx : Wr.readTx l with
  | bad n =>
    have hn := readTx_pos hx
    have p1 : ¬ (n : Int) = 0 := by omega
    rw [hx] at T1
    rw [show Wr.fin (Wr.tx l) = .bad n from hx] at FD
    have hd : Rf.done (Rf.tx (l, 0)).2 = n := FD.1
    clear hx FD
    go_enter Tryd.func7, Tryd.ntmps7
    go_wp2_with fail
    refine T1.out.mono ?_
    clear T1
    rintro e w1 ⟨rfl, hb1⟩
    have T2 := Lib.hid (refTx_calls l w1 hl)
    rw [hd] at T2
    clear hd
    dsimp only [txidV]
    go_wp2_with fail
    refine T2.out.mono ?_
    rintro e w2 ⟨rfl, hb2⟩
    go_wp2_with fail
    go_ret
    exact ⟨by simp, hb1.trans (hb2.mono hb1.size)⟩
  | ok t r =>
    obtain ⟨rfl, h610⟩ := readTx_whole hx
    rw [hx] at T1
    rw [show Wr.fin (Wr.tx t) = .ok t r from hx] at FD
    have hd : Rf.done (Rf.tx (t, 0)).2 = 0 := FD.1
    clear hx FD
    go_enter Tryd.func7, Tryd.ntmps7
    go_wp2_with fail
    refine T1.out.mono ?_
    clear T1
    rintro e w1 ⟨rfl, hb1⟩
    have T2 := Lib.hid (refTx_calls t w1 hl)
    rw [hd] at T2
    clear hd
    dsimp only [txidV]
    go_wp2_with fail
    refine T2.out.mono ?_
    rintro e w2 ⟨rfl, hb2⟩
    have B2 := Lib.hid (hb1.trans (hb2.mono hb1.size))
    clear hb1 hb2
    go_wp2_with fail
    refine (newT_calls _).mono ?_
    rintro e3 w3 ⟨tb, rfl, hTB, hb3⟩
    have B3 := Lib.hid (B2.out.trans (hb3.mono B2.out.size))
    have T4 := Lib.hid (rtwice_calls tb t w3 hTB (by omega))
    clear hTB hb3 B2
    go_wp2_with fail
    refine T4.out.mono ?_
    rintro e4 w4 ⟨rfl, hb4⟩
    have B4 := Lib.hid (B3.out.trans (hb4.mono B3.out.size))
    clear hb4
    go_wp2_with fail
    go_ret
    exact ⟨by simp, B4.out⟩
end Go.Proofs.YtlpcjiollnnmgaaDoor
