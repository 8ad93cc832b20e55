/-
  A CALL OF ONE GOROUTINE, UNDER THE ROW THAT SPEAKS OF OTHERS THAT LEAVE: there are none.
-/
import Derived.Conc.Holds
import Derived.Deep.DeepHandedRow
import Derived.SevenTiedAt
namespace Go.Proofs.YtlpcjiollnnmgabGreatDoor
open Go
theorem leaving_of_handed {a : Assume} {C : Checked} {os : Os} {f : FuncId} {r : Reach} {Pre : World → Array Value → Prop} {Post : World → Array Value → Value → World → Prop} (h : ReturnsInHanded a C os f r Pre Post) : ReturnsInLeavingWide a C os f r Pre Post := fun enter =>
  ReturnsInOpen.mono (fun m w t ⟨q, ho, eh⟩ => ⟨ho, ⟨fun g hg => ⟨0, by
    have := q.1
    unfold Machine.othersDone at this
    simp only [List.all_eq_true, beq_iff_eq] at this
    exact this g hg⟩, q.2⟩, eh⟩) (fun _ x => x) (h enter)
/-- a tied card whose row can start goroutines -/
theorem card_goes (Lk : Looks) {p : Pinned} {s : OpenSpec} {c : OpenClaim} (g : Bool) (kinds : List LaidKind) (tests : Bool) (har : Bool × String) (lk : Bool)
    (hc : c.holds p s) (hw : c.wfByText s = true) (htie : c.laidByTextAt Lk p kinds tests)
    (hst : c.start = .entering) (hnb : c.noBlocks = false ∧ c.again = false) (hm : p.checked.prog.mainIs = some (har.1, har.2.toList)) (hn : (!har.1 && har.2.isEmpty && !lk) = false)
    (hl : ∀ f fn, p.checked.prog.funcNamed c.func = some f → p.checked.prog.funcs[f]? = some fn → lk = p.checked.prog.looks [] ∧ ∀ (j : Nat) t, fn.params[j]? = some t → p.checked.prog.wantsStandIn t = false)
    (hg : g = c.goesBy p.checked.prog) :
    Claim7.holds p (.plain s) { stood := { row := c, standIns := [], harness := har, looks := lk }, kinds := [], alts := [], goes := g, laidByText := true, laidKinds := kinds, laidTests := tests, laidLooks := Lk } := by
  have h6 : ∀ r : OpenClaim, Claim7.isSixth { stood := { row := r, standIns := [], harness := har, looks := lk }, kinds := [] } = false := fun r => by simpa [Claim7.isSixth] using hn
  refine ⟨(Claim7.holdsOne_goes p (.plain s) { stood := { row := c, standIns := [], harness := har, looks := lk }, kinds := [], alts := [], laidByText := true, laidKinds := kinds, laidTests := tests, laidLooks := Lk } g).2 (Claim7.tied_new_at Lk kinds tests (Claim7.new_of_sixth hc har lk hst hnb hm (h6 c) hl) hw), (fun D hD => by cases hD), htie, (fun h => by cases h), hg⟩
end Go.Proofs.YtlpcjiollnnmgabGreatDoor
