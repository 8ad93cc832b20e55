/-
  A REGION THAT DRAWS ITS ORDER: THE FIRST m OPERATIONS ARE COPIES OF SLOTS (they may float anywhere: taken first), THE NEXT ONES ONLY READ, THE TAIL STANDS IN ONE ORDER BEHIND THESE. Plain; nothing of the program.
-/
import Derived.Test.YtlpcjiollnnmgabGreatDoorRegion
namespace Go.Proofs.YtlpcjiollnnmgabGreatDoor
open Nums
namespace Reg
section
variable {P : Program} {ops : Array Oper} {w : World}
/-- each of the operations from m to n has one behind it, up to n, that waits for it -/
def sinkFrom (ops : Array Oper) (m n : Nat) : Bool :=
  (List.range n).all fun i => decide (i < m) || (List.range (n + 1)).any fun j => decide (i < j) && Region.waitsFor .any ops j i
def Floats (m : Nat) (listed : Array Bool) : Prop := ∀ i, i < m → listed.getD i true = true
theorem Floats.set {m i : Nat} {listed : Array Bool} (h : Floats m listed) : Floats m (listed.setIfInBounds i true) := fun j hj => by
  by_cases hij : i = j
  · subst hij
    have := h i hj
    simp only [Array.getD_eq_getD_getElem?, Array.getElem?_setIfInBounds_self] at this ⊢
    split <;> simp_all
  · rw [getD_set_ne true hij]; exact h j hj
theorem waits {m n : Nat} {listed : Array Bool} (hs : sinkFrom ops m n = true) (hc : Region.chainB .any ops n = true) (inv : HeadInv .any ops n listed) (hf : Floats m listed) {t : Nat} (ht : n ≤ t) (hr : t ∈ Region.ready .any ops listed) :
    ∀ i, i < n → listed.getD i true = true := by
  obtain ⟨_, ot, hot, hall⟩ := mem_ready.1 hr
  have htlt : t < ops.size := (Array.getElem?_eq_some_iff.1 hot).1
  have htn : t = n := by
    apply Classical.byContradiction
    intro hne
    have h1 := List.all_eq_true.1 hc t (List.mem_range.2 htlt)
    simp only [Bool.or_eq_true, decide_eq_true_eq] at h1
    rcases h1 with h1 | h1
    · omega
    · obtain ⟨o', ho', e, he, hb, hon⟩ := Region.waitsFor_spec h1
      obtain rfl : o' = ot := Option.some.inj (ho'.symm.trans hot)
      have h2 := hall e he hb
      rw [hon, getD_both (inv.tail (t - 1) (by omega) (by omega))] at h2
      cases h2
  subst htn
  intro i
  generalize hd : t - i = d
  induction d using Nat.strongRecOn generalizing i with
  | _ d ih =>
    intro hi
    cases hl : listed.getD i true with
    | true => rfl
    | false =>
      exfalso
      have h1 := List.all_eq_true.1 hs i (List.mem_range.2 hi)
      simp only [Bool.or_eq_true, decide_eq_true_eq] at h1
      rcases h1 with h1 | h1
      · rw [hf i h1] at hl; cases hl
      · obtain ⟨j, hj, hj2⟩ := List.any_eq_true.1 h1
        simp only [Bool.and_eq_true, decide_eq_true_eq] at hj2
        obtain ⟨oj, hoj, e, he, hb, hon⟩ := Region.waitsFor_spec hj2.2
        have hjle := List.mem_range.1 hj
        rcases Nat.lt_or_ge j t with hjt | hjt
        · have h3 := ih (t - j) (by omega) j rfl hjt
          have h4 : listed.getD j false = true := by
            cases h5 : listed.getD j false with
            | true => rfl
            | false => rw [getD_in (by rw [inv.size]; omega) h5] at h3; cases h3
          have h5 := inv.closed j oj hoj h4 e he hb
          rw [hon, getD_both hl] at h5; cases h5
        · obtain rfl : j = t := by omega
          obtain rfl : oj = ot := Option.some.inj (hoj.symm.trans hot)
          have h2 := hall e he hb
          rw [hon, getD_both hl] at h2; cases h2
/-- a reading operation that may come up now is taken first -/
theorem first {m n i : Nat} {oi : Oper} {v : Value} {L : Array Bool → Act → Prop} (hi : ops[i]? = some oi) (hsel : Region.noSelect ops = true) (hs : sinkFrom ops m n = true) (hc : Region.chainB .any ops n = true) (hin : i < n)
    (hdone : ∀ listed a, L listed a → ∀ j ∈ Region.ready .any ops listed, n ≤ j) : ∀ (f : Nat) (listed : Array Bool) (a : Act), HeadInv .any ops n listed → Floats m listed →
      (∀ j oj, ops[j]? = some oj → j ≠ i → listed.getD j true = false → (∀ e ∈ oj.after, Region.binds .any e = true → e.on ≠ i) → oi.apart ops oj = true) →
      i ∈ Region.ready .any ops listed → YieldsAt P ops w oi v a →
      wpAnyL P .any ops w n L f (listed.setIfInBounds i true) (a.put oi.dst v) → wpAnyL P .any ops w n L (f + 1) listed a := by
  intro f
  induction f with
  | zero =>
    intro listed a inv hfl _ hr hy H
    refine ⟨fun h => by simp [h] at hr, fun j hj => ?_⟩
    have hun := (mem_ready.1 hr).1
    by_cases hji : j = i
    · rw [hji]; exact ⟨hin, hy.stOp hi H⟩
    · have h1 := hdone _ _ H j (ready_mono hj hji)
      have h2 := waits hs hc inv hfl h1 hj i hin
      rw [hun] at h2; cases h2
  | succ f ih =>
    intro listed a inv hfl hfree hr hy H
    refine ⟨fun h => by simp [h] at hr, fun j hj => ?_⟩
    have hun := (mem_ready.1 hr).1
    have hjn : j < n := Nat.lt_of_not_le fun h1 => by have h2 := waits hs hc inv hfl h1 hj i hin; rw [hun] at h2; cases h2
    refine ⟨hjn, ?_⟩
    by_cases hji : j = i
    · rw [hji]; exact hy.stOp hi H
    · obtain ⟨hjun, oj, hoj, hall⟩ := mem_ready.1 hj
      have hap : oi.apart ops oj = true := hfree j oj hoj hji hjun fun e he hb heq => by
        have h1 := hall e he hb
        rw [heq, getD_both hun] at h1; cases h1
      refine stOp_mono (fun a' h3 => ?_) (stOp_put hoj hap (fun cs b => Region.noSelect_spec hsel i oi cs b hi) (fun cs b => Region.noSelect_spec hsel j oj cs b hoj) hy (H.2 j (ready_mono hj hji)).2)
      refine ih _ a' (inv.set hj hjn) hfl.set (fun k ok hk hki hkun hno => hfree k ok hk hki ?_ hno) (ready_mono hr (Ne.symm hji)) h3.1 ?_
      · by_cases hjk : j = k
        · rw [← hjk]; exact hjun
        · rwa [getD_set_ne true hjk] at hkun
      · rw [Array.setIfInBounds_comm _ _ hji]; exact h3.2
theorem lex {m n g : Nat} {Lq : Act → Prop} (hsel : Region.noSelect ops = true) (hs : sinkFrom ops m n = true) (hc : Region.chainB .any ops n = true) :
    ∀ (l : List Oper) (k : Nat) (listed : Array Bool) (a : Act), (∀ j, j < l.length → l[j]? = ops[k + j]?) → k + l.length = n → HeadInv .any ops n listed → Floats m listed →
      Region.lexHead .any ops g l.length k listed = true → wpStill P ops w Lq l a →
      wpAnyL P .any ops w n (fun listed' a' => Region.seqB .any ops g n listed' = true ∧ Lq a') l.length listed a := by
  intro l
  induction l with
  | nil =>
    intro k listed a _ hk _ _ hB h
    obtain rfl : k = n := by simpa using hk
    exact ⟨by simpa [Region.lexHead] using hB, h⟩
  | cons o l ih =>
    intro k listed a hl hk inv hfl hB h
    have h0 : ops[k]? = some o := (hl 0 (by simp)).symm.trans rfl |>.symm ▸ rfl
    simp only [List.length_cons, Region.lexHead, Bool.and_eq_true] at hB
    have hkn : k < n := by rw [List.length_cons] at hk; omega
    have hr : k ∈ Region.ready .any ops listed := by simpa using hB.1.1
    obtain ⟨v, hy, hK⟩ := yieldsAt_of_stOp (K := wpStill P ops w Lq l) h0 (by unfold stOp; rw [h0]; exact h)
    refine first h0 hsel hs hc hkn (fun listed' a' hL => seqB_ready hL.1) l.length listed a inv hfl (Region.free_spec h0 hB.1.2) hr hy ?_
    refine ih (k + 1) _ _ (fun j hj => ?_) (by rw [List.length_cons] at hk; omega) (inv.set hr hkn) hfl.set hB.2 hK
    have := hl (j + 1) (by rw [List.length_cons]; omega)
    rw [show k + 1 + j = k + (j + 1) by omega]; exact this
end
/-- the first m: each a copy of a slot or a constant, may come up at once -/
def floatB (ops : Array Oper) : Nat → Nat → Array Bool → Bool
  | 0, _, _ => true
  | f + 1, k, listed => (Region.ready .any ops listed).contains k && Region.free .any ops listed k && floatB ops f (k + 1) (listed.setIfInBounds k true)
def mover (o : Oper) : Bool := match o.op, o.guard with
  | .move _, none => true
  | _, _ => false
def moved (a : Act) (o : Oper) : Act := match o.op with
  | .move x => a.put o.dst (a.eval x)
  | _ => a
def marks : Nat → Nat → Array Bool → Array Bool
  | 0, _, listed => listed
  | f + 1, k, listed => marks f (k + 1) (listed.setIfInBounds k true)
theorem float {P : Program} {ops : Array Oper} {Q : Exit → Act → World → Prop} (hsel : Region.noSelect ops = true) (hQ : ∀ c (a : Act) d v w, Q (.panic c) (a.put d v) w → Q (.panic c) a w) (fuel : Nat) (w : World) :
    ∀ (l : List Oper) (k : Nat) (listed : Array Bool) (a : Act), (∀ j, j < l.length → l[j]? = ops[k + j]?) → l.all mover = true → floatB ops l.length k listed = true →
      wpAny P .any ops Q fuel (marks l.length k listed) (l.foldl moved a) w → wpAny P .any ops Q (fuel + l.length) listed a w := by
  intro l
  induction l with
  | nil => intro k listed a _ _ _ h; exact h
  | cons o l ih =>
    intro k listed a hl hm hB h
    have h0 : ops[k]? = some o := (hl 0 (by simp)).symm.trans rfl |>.symm ▸ rfl
    simp only [List.length_cons, floatB, Bool.and_eq_true] at hB
    simp only [List.all_cons, Bool.and_eq_true] at hm
    have hy : ∃ v, Yields P ops o v a ∧ moved a o = a.put o.dst v := by
      have hm1 := hm.1
      unfold mover at hm1
      split at hm1
      · rename_i x ho hg
        refine ⟨a.eval x, .inl ⟨by simp [Region.wanted, hg], fun w => ?_⟩, by unfold moved; rw [ho]⟩
        simp [execOp, ho, Sem.run_pure]
      · cases hm1
    obtain ⟨v, hy, hv⟩ := hy
    refine wpAny_take (fuel := fuel + l.length) h0 hsel hB.1.2 hB.1.1 (fun c a w hq => hQ c _ _ _ w hq) hy ?_
    refine ih (k + 1) _ _ (fun j hj => ?_) hm.2 hB.2 ?_
    · have := hl (j + 1) (by rw [List.length_cons]; omega)
      rw [show k + 1 + j = k + (j + 1) by omega]; exact this
    · rw [← hv]; exact h
def tail2B (ops : Array Oper) (m n : Nat) : Bool :=
  Region.noSelect ops && decide (m ≤ n) && decide (n < ops.size) && sinkFrom ops m n && Region.chainB .any ops n && floatB ops m 0 (Array.replicate ops.size false) &&
    Region.lexHead .any ops (ops.size - n) (n - m) m (marks m 0 (Array.replicate ops.size false))
theorem marks_get : ∀ (f k : Nat) (listed : Array Bool) (j : Nat), (marks f k listed).size = listed.size ∧ (∀ d, (marks f k listed).getD j d = if k ≤ j ∧ j < k + f ∧ j < listed.size then true else listed.getD j d)
  | 0, k, listed, j => ⟨rfl, fun d => by rw [if_neg (by omega)]; rfl⟩
  | f + 1, k, listed, j => by
    obtain ⟨h1, h2⟩ := marks_get f (k + 1) (listed.setIfInBounds k true) j
    refine ⟨by rw [marks, h1]; simp, fun d => ?_⟩
    rw [marks, h2 d]
    by_cases hkj : k = j
    · subst hkj
      rw [if_neg (by omega)]
      by_cases hs : k < listed.size
      · rw [if_pos ⟨Nat.le_refl _, by omega, hs⟩]; simp [Array.getD_eq_getD_getElem?, hs]
      · rw [if_neg (by omega)]; simp [Array.getD_eq_getD_getElem?, hs]
    · rw [getD_set_ne d hkj]
      by_cases hc : k + 1 ≤ j ∧ j < k + 1 + f ∧ j < (listed.setIfInBounds k true).size
      · rw [if_pos hc, if_pos]; simp at hc; omega
      · rw [if_neg hc, if_neg]; simp at hc; omega
theorem inv_marks {ops : Array Oper} {n : Nat} : ∀ (f k : Nat) (listed : Array Bool), k + f ≤ n → floatB ops f k listed = true → HeadInv .any ops n listed → HeadInv .any ops n (marks f k listed) := by
  intro f
  induction f with
  | zero => intro k listed _ _ h; exact h
  | succ f ih =>
    intro k listed hk hB h
    simp only [floatB, Bool.and_eq_true] at hB
    exact ih (k + 1) _ (by omega) hB.2 (h.set (by simpa using hB.1.1) (by omega))
/-- the first m float, the next n - m read alone, then the tail -/
theorem tail2 {P : Program} {id : Nat} {Q : Exit → Act → World → Prop} {a : Act} {w : World} {l : List Oper} (m n : Nat) (hm : P.follows .mixedOrders = true) (hB : tail2B l.toArray m n = true)
    (hmv : (l.take m).all mover = true) (hp : ((l.take n).drop m).all (fun o => plain o.op) = true) (hQ : ∀ c (a : Act) d v w, Q (.panic c) (a.put d v) w → Q (.panic c) a w)
    (h : wpQuiet P l.toArray (fun w' => ∃ k, w' = w.drewN k) (fun a' => wpList P l.toArray Q (l.drop n) a' w.drew) ((l.take n).drop m) ((l.take m).foldl moved a)) : (Code.region id l.toArray true).wp P Q a w := by
  simp only [tail2B, Bool.and_eq_true, decide_eq_true_eq] at hB
  obtain ⟨⟨⟨⟨⟨⟨hsel, hmn⟩, hn⟩, hs⟩, hc⟩, hfl⟩, hlex⟩ := hB
  have hn' : n < l.length := by simpa using hn
  have htl : (l.take m).length = m := by simp; omega
  have hdm : ((l.take n).drop m).length = n - m := by simp; omega
  have hdl : (l.drop n).length = l.toArray.size - n := by simp
  have inv0 : HeadInv .any l.toArray n (Array.replicate l.toArray.size false) :=
    ⟨by simp, fun j oj _ hl => (by rw [getD_replicate_false] at hl; cases hl), fun t _ ht => getD_in (by simpa using ht) (getD_replicate_false _ _)⟩
  have inv1 := inv_marks m 0 _ (by omega) hfl inv0
  have fl1 : Floats m (marks m 0 (Array.replicate l.toArray.size false)) := fun i hi => by
    rw [(marks_get m 0 _ i).2 true, if_pos ⟨by omega, by omega, by simp; omega⟩]
  have hst := still_of_quiet_list (w := w.drew) (C := fun w' => ∃ k, w' = w.drewN k) ⟨1, rfl⟩ _ _ hp h
  have H := lex (P := P) (ops := l.toArray) (w := w.drew) (g := l.toArray.size - n) hsel hs hc ((l.take n).drop m) m _ ((l.take m).foldl moved a) (fun j hj => by
    rw [hdm] at hj
    rw [List.getElem?_drop, List.getElem?_take_of_lt (by omega)]; simp) (by rw [hdm]; omega) inv1 fl1 (by rw [hdm]; exact hlex) hst
  refine wp_region_any hm ?_
  have H2 := wpAny_of_head (Q' := Q) (g := l.toArray.size - n) (fun listed a' hL => by
    have := wpAny_of_seq (md := .any) (Q' := Q) (l.drop n) n listed a' w.drew (fun j => by simp [List.getElem?_drop]) (by rw [hdl]; exact hL.1) hL.2
    rwa [hdl] at this) _ _ _ H
  rw [hdm] at H2
  have H3 := float (P := P) (ops := l.toArray) (Q := Q) hsel hQ (n - m + (l.toArray.size - n)) w.drew (l.take m) 0 (Array.replicate l.toArray.size false) a (fun j hj => by
    rw [htl] at hj
    rw [List.getElem?_take_of_lt hj]; simp) hmv (by rw [htl]; exact hfl) (by rw [htl]; exact H2)
  rw [htl, show n - m + (l.toArray.size - n) + m = l.toArray.size by omega] at H3
  exact H3
end Reg
end Go.Proofs.YtlpcjiollnnmgabGreatDoor
