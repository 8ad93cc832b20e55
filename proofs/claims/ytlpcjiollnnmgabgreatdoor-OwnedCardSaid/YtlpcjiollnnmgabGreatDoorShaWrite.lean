/-
  THE WALK OF (*hash.state).write.
-/
import Derived.Test.YtlpcjiollnnmgabGreatDoorShaWalk
import Derived.Test.YtlpcjiollnnmgabGreatDoorBuf
import Derived.Deep.LoopGhost
namespace Go.Proofs.YtlpcjiollnnmgabGreatDoor
open Go.RowKit Nums
/-- the struct at block S has taken in L -/
def StH (w : World) (S : Nat) (O : Nat → Prop) (k : Nat) (L : List UInt8) (rv : Value) : Prop :=
  Row w S (w32 (H8l (Sha.blocks k Sha.begin L)) ++ [rv, .int .u64 (U (UInt64.ofNat L.length))]) ∧ Buf w O rv (L.drop (64 * k))
def St (w : World) (S : Nat) (O : Nat → Prop) (L : List UInt8) : Prop := ∃ rv, StH w S O (L.length / 64) L rv
theorem Tryz.info8 : (Tryz.prog.info? 5).map (fun i => (i.zero, i.size, i.bytes)) = some (some (.int .u8 0), 1, 1) := by kernel_rfl

theorem Buf.drop64 {w : World} {O : Nat → Prop} {g off cap : Nat} {l : List UInt8} (h : Buf w O (.slice (some ⟨g, off, none⟩) l.length cap) l) (hl : 64 ≤ l.length) :
    (cap = 64 → Buf w O (.slice (some ⟨g, off, none⟩) (l.length - 64) 0) (l.drop 64)) ∧ (cap ≠ 64 → Buf w O (.slice (some ⟨g, off + 64, none⟩) (l.length - 64) (cap - 64)) (l.drop 64)) := by
  rcases h with ⟨_, h1⟩ | ⟨g', off', cap', h1, h2, h3, h4, h5, h6⟩
  · exact absurd hl (by rw [h1]; decide)
  · simp only [Value.slice.injEq, Option.some.injEq, Addr.mk.injEq] at h1
    obtain ⟨⟨rfl, rfl, -⟩, -, rfl⟩ := h1
    have hd : (l.drop 64).length = l.length - 64 := List.length_drop
    refine ⟨fun hc => .inr ⟨_, _, 0, by rw [hd], by omega, h3, h4, fun j hj => by omega, fun j hj => by omega⟩, fun hc => .inr ⟨_, _, _, by rw [hd], by omega, h3, h4, fun j hj => ?_, fun j hj => ?_⟩⟩
    · rw [Nat.add_assoc, h5 (64 + j) (by omega)]
      simp [nth, List.getD_eq_getElem?_getD]
    · rw [Nat.add_assoc]; exact h6 _ (by omega)
theorem StH.next {w : World} {S : Nat} {O : Nat → Prop} {k : Nat} {M : List UInt8} {rv rv' : Value} {n : Value}
    (hr : Row w S (w32 (H8l (Sha.block (Sha.blocks k Sha.begin M) ((M.drop (64 * k)).take 64))) ++ [rv, n]))
    (hb : Buf w O rv' ((M.drop (64 * k)).drop 64)) (hn : n = .int .u64 (U (UInt64.ofNat M.length))) (hSB : ¬ O S) :
    StH (w.setCell ⟨S, 8, none⟩ rv') S O (k + 1) M rv' := by
  subst hn
  refine ⟨?_, ?_⟩
  · exact hr.set 8 rv'
  · rw [List.drop_drop] at hb
    exact hb.other (a := ⟨S, 8, none⟩) hSB _
set_option maxRecDepth 100000 in
set_option maxHeartbeats 2000000 in
theorem write_calls (S : Nat) (O : Nat → Prop) (L b : List UInt8) (gb ob c : Nat) (w : World) (hst : St w S O L) (hSB : ¬ O S) (hS1 : S ≠ 1) (h1B : ¬ O 1) (hB : ∀ k, w.heap.size ≤ k → O k) (hgS : gb ≠ S) (hby : Bytes w gb ob b)
    (hm : L.length + b.length ≤ 70368744177664) (hK : Row w 1 (w32 Sha.rounds)) :
    Calls Tryz.prog 107 #[.pointer (some ⟨S, 0, none⟩), .slice (some ⟨gb, ob, none⟩) b.length c] w fun e w' =>
      e = .returned (.tuple #[]) ∧ St w' S O (L ++ b) ∧ Keep (fun k => k = S ∨ O k) w w' := by
  obtain ⟨i0, hi0, hz0, hz1, hz2⟩ := info_parts Tryz.info8
  obtain ⟨rv, hrow, hbuf⟩ := hst
  have hll : (w32 (H8l (Sha.blocks (L.length / 64) Sha.begin L))).length = 8 := rfl
  have c9 : w.cell? ⟨S, 9, none⟩ = some (.int .u64 (U (UInt64.ofNat L.length))) := by
    rw [hrow.cell, List.getElem?_append_right (by rw [hll]; decide), hll]; rfl
  have c8 : w.cell? ⟨S, 8, none⟩ = some rv := by
    rw [hrow.cell, List.getElem?_append_right (by rw [hll]; decide), hll]; rfl
  have z8 := hrow.free 8
  have z9 := hrow.free 9
  have hbw := hbuf.other (a := ⟨S, 9, none⟩) hSB (.int .u64 (U (UInt64.ofNat L.length + UInt64.ofNat b.length)))
  have hrl : (L.drop (64 * (L.length / 64))).length ≤ L.length := by rw [List.length_drop]; omega
  obtain ⟨ra, rcap, hrv, hrl2⟩ := hbuf.len
  subst hrv
  have hrow9 := hrow.set 9 (.int .u64 (U (UInt64.ofNat L.length + UInt64.ofNat b.length)))
  have hsz9 : (w.setCell ⟨S, 9, none⟩ (.int .u64 (U (UInt64.ofNat L.length + UInt64.ofNat b.length)))).heap.size = w.heap.size := by simp [World.setCell]
  have hbut := (Keep.refl (fun k => k = S ∨ O k) w).set ⟨S, 9, none⟩ (.int .u64 (U (UInt64.ofNat L.length + UInt64.ofNat b.length))) (.inl rfl)
  have hby9 : Bytes (w.setCell ⟨S, 9, none⟩ (.int .u64 (U (UInt64.ofNat L.length + UInt64.ofNat b.length)))) gb ob b := fun j hj => by
    rw [World.cell?_of_block (Below.heap_setCell _ _ _ _ (show gb ≠ S from hgS))]; exact hby j hj
  generalize hrr : L.drop (64 * (L.length / 64)) = r at hbw hrl hrl2 c8 hrow9 hrow
  have hRR := Lib.hid hrr
  have H1 := Lib.hid hrow
  have H2 := Lib.hid hbuf
  have H3 := Lib.hid hrow9
  have H4 := Lib.hid hbw
  have H5 := Lib.hid hby9
  have H6 := Lib.hid hbut
  have H7 := Lib.hid hll
  have H8 := Lib.hid hsz9
  have H9 := Lib.hid hK
  have H10 := Lib.hid hby
  clear hrr hrow hbuf hrow9 hbw hby9 hbut hll hsz9 hK hby
  go_enter Tryz.func107, Tryz.ntmps107
  go_wp2_with (at_builtin; refine wpList_append_buf _ rfl _ _ _ rfl 5 i0 Tryz.underlying35 hi0 hz0 hz1 hz2 O _ r b rfl H4.out (fun k hk => hB k (by rw [← H8.out]; exact hk)) gb ob c rfl H5.out (by omega) ?_; intro v' w1 hbuf1 hbel1; obtain ⟨ra1, rcap1, hv1, hrl1⟩ := hbuf1.len; subst hv1; have hbuf1' := Lib.hid hbuf1; have hbel1' := Lib.hid hbel1; have y8 : w1.cell? ⟨S, 8, none⟩ = some (.slice ra r.length rcap) := (((hbel1.row H3.out hSB).cell 8).trans rfl); have y8f : w1.frozen? ⟨S, 8, none⟩ = false := ((hbel1.row H3.out hSB).free 8); clear hbuf1 hbel1)
  have hSA : StH (w1.setCell ⟨S, 8, none⟩ (.slice ra1 (r ++ b).length rcap1)) S O (L.length / 64) (L ++ b) (.slice ra1 (r ++ b).length rcap1) := by
    have hr1 := (hbel1'.out.row H3.out hSB).set 8 (.slice ra1 (r ++ b).length rcap1)
    refine ⟨?_, ?_⟩
    · rw [Sha.blocks_append _ _ _ _ (by omega)]
      have e : UInt64.ofNat (L ++ b).length = UInt64.ofNat L.length + UInt64.ofNat b.length := by rw [List.length_append, UInt64.ofNat_add]
      rw [e]
      exact hr1
    · rw [List.drop_append_of_le_length (by omega), hRR.out]
      exact hbuf1'.out.other (a := ⟨S, 8, none⟩) hSB _
  have hBA : Keep (fun k => k = S ∨ O k) w (w1.setCell ⟨S, 8, none⟩ (.slice ra1 (r ++ b).length rcap1)) := (H6.out.trans (hbel1'.out.weaken fun _ _ h => .inr h)).set ⟨S, 8, none⟩ _ (.inl rfl)
  have hML : (L ++ b).length = L.length + b.length := List.length_append
  have hrb : (r ++ b).length = r.length + b.length := List.length_append
  rw [← hrb]
  clear c8 c9 y8 y8f z8 z9 hrb
  have hZ : w.heap.size ≤ (w1.setCell ⟨S, 8, none⟩ (.slice ra1 (r ++ b).length rcap1)).heap.size := by exact hBA.size
  generalize (r ++ b).length = zz at hSA hBA hZ ⊢
  generalize w1.setCell _ _ = w2 at hSA hBA hZ ⊢
  have hq : 64 * (L.length / 64) ≤ (L ++ b).length := by omega
  generalize hM : L ++ b = M at hSA hML hq
  have hM' := Lib.hid hM
  have hml : M.length ≤ 70368744177664 := by omega
  have hMLh := Lib.hid hML
  clear hM hML
  generalize L.length / 64 = q at hSA hq
  have hSA' := Lib.hid hSA
  have hBA' := Lib.hid hBA
  clear hSA hBA
  go_loopg [] (M.length) (fun n wr => ∃ (k : Nat) (rv : Value), 64 * k ≤ M.length ∧ M.length - 64 * k ≤ n ∧ StH wr S O k M rv ∧ Keep (fun k => k = S ∨ O k) w wr ∧ w.heap.size ≤ wr.heap.size)
  case atStart => exact ⟨q, _, hq, by omega, hSA'.out, hBA'.out, hZ⟩
  case round =>
    obtain ⟨k, rv, hk, hkn, hst, hbt, hz⟩ := hrel
    obtain ⟨hrow, hbuf⟩ := hst
    have hll : (w32 (H8l (Sha.blocks k Sha.begin M))).length = 8 := rfl
    have c8 : wr.cell? ⟨S, 8, none⟩ = some rv := by
      rw [hrow.cell, List.getElem?_append_right (by rw [hll]; decide), hll]; rfl
    have z8 := hrow.free 8
    obtain ⟨ra, rcap, hrv, hrl2⟩ := hbuf.len
    subst hrv
    have H1 := Lib.hid hrow
    have H2 := Lib.hid hbuf
    clear hrow hbuf hll
    by_cases hlt : M.length - 64 * k < 64
    · have hk' : k = M.length / 64 := by omega
      go_wp2_with fail
      go_end0
      rw [hM'.out]
      refine ⟨rfl, ?_, hbt⟩
      unfold St
      rw [← hk']
      exact ⟨_, H1.out, H2.out⟩
    · rcases H2.out with ⟨_, h1⟩ | ⟨g, off, cap, h1, h2, h3, h4, h5, h6⟩
      · exact absurd (by rw [← List.length_drop, h1]; decide) hlt
      · simp only [Value.slice.injEq] at h1
        obtain ⟨rfl, -, rfl⟩ := h1
        have hcap : 64 ≤ rcap := by rw [List.length_drop] at h2; omega
        have H5 := Lib.hid h5
        have H6 := Lib.hid h6
        clear h5 h6
        go_wp2_with fail
        have hb64 : ((M.drop (64 * k)).take 64).length = 64 := by rw [List.length_take, List.length_drop]; omega
        have hbk : Bytes wr g off ((M.drop (64 * k)).take 64) := fun j hj => by
          rw [hb64] at hj
          rw [H5.out j (by rw [List.length_drop]; omega)]
          simp [nth, List.getD_eq_getElem?_getD, hj]
        refine (block_calls S g off rcap _ _ _ _ hb64 wr (hbt.row H9.out (fun h => h.elim (fun h => hS1 h.symm) h1B)).lt H1.out h4 hbk (hbt.row H9.out (fun h => h.elim (fun h => hS1 h.symm) h1B))).mono ?_
        rintro e w'' ⟨rfl, hrow2, hbut2⟩
        have y8 : w''.cell? ⟨S, 8, none⟩ = some (.slice (some ⟨g, off, none⟩) (M.drop (64 * k)).length rcap) := by
          rw [hrow2.cell, List.getElem?_append_right (by show 8 ≤ 8; decide)]; rfl
        have y8f := hrow2.free 8
        have hbuf2 := Lib.hid (H2.out.but hbut2 hSB)
        have R2 := Lib.hid hrow2
        have B2 := Lib.hid hbut2
        clear hrow2 hbut2 c8 z8
        have hM64 : 64 ≤ (M.drop (64 * k)).length := by rw [List.length_drop]; omega
        by_cases hc : rcap = 64
        · subst hc
          go_wp2_with fail
          have hn := StH.next (k := k) R2.out ((Buf.drop64 hbuf2.out hM64).1 rfl) rfl hSB
          rw [List.length_drop] at hn
          go_roundg (gk - 1)
          case rel => exact ⟨k + 1, _, by omega, by omega, hn, (hbt.trans (Keep.of_but B2.out (.inl rfl))).set ⟨S, 8, none⟩ _ (.inl rfl), by have := B2.out.size; simp [World.setCell]; omega⟩
          case measure => omega
        · go_wp2_with fail
          have hn := StH.next (k := k) R2.out ((Buf.drop64 hbuf2.out hM64).2 hc) rfl hSB
          rw [List.length_drop] at hn
          go_roundg (gk - 1)
          case rel => exact ⟨k + 1, _, by omega, by omega, hn, (hbt.trans (Keep.of_but B2.out (.inl rfl))).set ⟨S, 8, none⟩ _ (.inl rfl), by have := B2.out.size; simp [World.setCell]; omega⟩
          case measure => omega
end Go.Proofs.YtlpcjiollnnmgabGreatDoor
