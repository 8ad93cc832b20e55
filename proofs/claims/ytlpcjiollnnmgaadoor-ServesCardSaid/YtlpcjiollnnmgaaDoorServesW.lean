/-
  THE WALK OF compactlaw.Serves.
-/
import Derived.Test.YtlpcjiollnnmgaaDoorRServe
set_option maxRecDepth 100000
namespace Go.Proofs.YtlpcjiollnnmgaaDoor
open Go.RowKit Nums
theorem serves_calls (a b : List UInt8) (w : World) (hT : Tabs w) (hl1 : a.length ≤ 9223372036854775807) (hl2 : b.length ≤ 9223372036854775807) :
    Calls Tryd.prog 8 #[.string (str a), .string (str b)] w fun e w' => e = .returned (.bool true) ∧ Below w.heap.size w w' := by
  have T1 := Lib.hid (serve_calls a b w hT hl1 hl2)
  clear hT
  obtain ⟨p, hp⟩ : ∃ p, En.serve a b = p := ⟨_, rfl⟩
  have R1 := Lib.hid (fun t w' (h : TB w' t) => rserve_calls t a b w' h hl1)
  rw [hp] at T1 R1
  clear hp
  obtain ⟨s, n⟩ := p
  go_enter Tryd.func8, Tryd.ntmps8
  go_wp2_with fail
  refine T1.out.mono ?_
  clear T1
  rintro e w1 ⟨rfl, hb1⟩
  have B1 := Lib.hid hb1
  clear hb1
  dsimp only [ansV]
  go_wp2_with fail
  refine (newT_calls _).mono ?_
  rintro e2 w2 ⟨tb, rfl, hTB, hb2⟩
  have B2 := Lib.hid (B1.out.trans (hb2.mono B1.out.size))
  have T2 := Lib.hid (R1.out tb w2 hTB)
  clear hTB hb2
  go_wp2_with fail
  refine T2.out.mono ?_
  clear T2
  rintro e3 w3 ⟨rfl, hb3⟩
  have B3 := Lib.hid (B2.out.trans (hb3.mono B2.out.size))
  clear hb3
  dsimp only [ansV]
  go_wp2_with fail
  go_ret
  exact ⟨by simp, B3.out⟩
end Go.Proofs.YtlpcjiollnnmgaaDoor
