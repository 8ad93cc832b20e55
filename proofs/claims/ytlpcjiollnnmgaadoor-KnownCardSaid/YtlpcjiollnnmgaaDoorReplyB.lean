/-
  wire.Reply's bytes.
-/
import Derived.Test.YtlpcjiollnnmgaaDoorJoin
set_option maxRecDepth 100000
namespace Go.Proofs.YtlpcjiollnnmgaaDoor
open Go.RowKit Nums
set_option maxHeartbeats 1000000 in
theorem replyBytes_calls (h : List UInt8) (v : Value) (ts : List (List UInt8)) (B : Nat) (w : World) (ho : w.ownsRow B 66 33 v ts.length (txsCells ts)) (hs : ∀ t ∈ ts, t.length ≤ 610) (hn : ts.length ≤ 1000) (hl : h.length ≤ 1000) :
    Calls Tryd.prog 41 #[.agg #[.string (str h), v]] w fun e w' => e = .returned (.string (str (h ++ Mk.joined ts))) ∧ Below w.heap.size w w' := by
  have HS := Lib.hid hs
  have hv1 := ownN_one ho
  have hjl : (Mk.joined ts).length ≤ 700000 := by
    have := flat_short ts hs
    have := sizeB_short ts.length
    unfold Mk.joined; rw [List.length_append]; omega
  obtain ⟨ad, cap, rfl⟩ := own_slice ho
  have r1 : Row (w.alloc (.cells #[.string (str h), .slice ad ts.length cap] 84)) w.heap.size [.string (str h), .slice ad ts.length cap] := Row.new w [.string (str h), .slice ad ts.length cap] _
  have hB : Below w.heap.size w (w.alloc (.cells #[.string (str h), .slice ad ts.length cap] 84)) := (Below.refl _ _).alloc (Nat.le_refl _) _
  have O1 := Lib.hid (ho.alloc (.cells #[.string (str h), .slice ad ts.length cap] 84))
  generalize hJ : Mk.joined ts = jj at hjl ⊢
  clear ho hs
  go_enter Tryd.func41, Tryd.ntmps41
  go_upto_region 1 with fail
  generalize w.alloc _ = w1 at r1 hB O1 ⊢
  generalize hA : w.heap.size = A at *
  have hu0 : ∀ u : Reg.Of (fun u => Row u A [.string (str h), .slice ad ts.length cap]), u.w.cell? ⟨A, 0, none⟩ = some (.string (str h)) := fun u => u.h.cell 0
  have hu1 : ∀ u : Reg.Of (fun u => Row u A [.string (str h), .slice ad ts.length cap]), u.w.cell? ⟨A, 1, none⟩ = some (.slice ad ts.length cap) := fun u => u.h.cell 1
  haveI hne : Nonempty (Reg.Of (fun u => Row u A [.string (str h), .slice ad ts.length cap])) := ⟨⟨w1, r1⟩⟩
  refine Reg.startL [0, 1, 2, 3] 3 mixed (by kernel_rfl) rfl rfl (fun c a d v w h => by cases d <;> exact h) (by as_aux_lemma => kernel_rfl) rfl (fun u => Row u A [.string (str h), .slice ad ts.length cap]) r1.drew ?_
  show wpQuiet _ _ _ _ [_, _, _, _] _
  repeat (go_big_quiet_step (fail))
  refine wpQuiet_nil ?_
  have r2 := r1.drew
  have B2 := Lib.hid hB.drew
  have T1 := Lib.hid (join_calls (.slice ad ts.length cap) ts B w1.drew O1.out HS.out hn)
  rw [hJ] at T1
  have hz := r2.lt
  clear r1 hB O1
  generalize w1.drew = w2 at r2 B2 T1 hz ⊢
  refine Reg.one 4 _ (by kernel_rfl) rfl rfl ?_
  try go_frame
  go_wp2_with fail
  refine T1.out.mono ?_
  clear T1
  rintro e w3 ⟨rfl, hb⟩
  have r3 := r2.below hb hz
  have B3 := Lib.hid (B2.out.trans (hb.mono (by omega)))
  clear hb
  go_wp2_with fail
  refine ⟨Reg.cls_mk r3, ?_⟩
  refine Reg.one 5 _ (by kernel_rfl) rfl rfl ?_
  try go_frame
  go_wp2_with fail
  refine ⟨Reg.cls_mk r3, ?_⟩
  refine Reg.one 6 _ (by kernel_rfl) rfl rfl ?_
  try go_frame
  go_wp2_with fail
  refine ⟨Reg.cls_mk r3, ?_⟩
  refine wpAnyH_done (by kernel_rfl) ?_ 0
  go_wp2_with fail
  go_ret
  exact ⟨rfl, by rw [hA]; exact B3.out⟩
end Go.Proofs.YtlpcjiollnnmgaaDoor
