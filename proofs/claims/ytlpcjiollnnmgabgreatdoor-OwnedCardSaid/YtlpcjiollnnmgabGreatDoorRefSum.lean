/-
  THE WALK OF THE REFERENCE's Tables.Sum.
-/
import Derived.Test.YtlpcjiollnnmgabGreatDoorRefNew
import Derived.Test.YtlpcjiollnnmgabGreatDoorShaRef
import Derived.Test.YtlpcjiollnnmgabGreatDoorRegion2
namespace Go.Proofs.YtlpcjiollnnmgabGreatDoor
open Go.RowKit Nums
/-- the words l, as ints -/
def vi (l : List UInt32) : List Value := l.map fun x => Value.int .i64 (V x)
theorem vi_length (l : List UInt32) : (vi l).length = l.length := by simp [vi]
theorem vi_get (l : List UInt32) (i : Nat) (h : i < l.length) : (vi l)[i]? = some (.int .i64 (V (Sha.nw l i))) := by
  unfold vi Sha.nw; rw [List.getElem?_map, List.getD_eq_getElem?_getD, List.getElem?_eq_getElem h]; rfl
theorem vi_one (l : List UInt32) : ∀ u ∈ vi l, u.oneCell' = true := by
  intro u hu; obtain ⟨x, _, rfl⟩ := List.mem_map.1 hu; rfl
theorem vi_set (l : List UInt32) (i : Nat) (x : UInt32) : (vi l).set i (.int .i64 (V x)) = vi (l.set i x) := by
  unfold vi; rw [List.map_set]
def VC (w : World) (b : Nat) (l : List UInt32) : Prop := ∀ j, j < l.length → w.cell? ⟨b, j, none⟩ = some (.int .i64 (V (Sha.nw l j)))
theorem VC.below {B b : Nat} {l : List UInt32} {w w' : World} (h : VC w b l) (hb : Below B w w') (hB : b < B) : VC w' b l := fun j hj => by
  rw [← h j hj]; exact World.cell?_of_block (w := w) (hb.block b hB)
theorem H_words : Tab.H = (H8l Sha.begin).map UInt32.toNat := by decide +kernel
theorem K_words : Tab.K = Sha.rounds.map UInt32.toNat := by decide +kernel
theorem dg_map (l : List UInt32) (j : Nat) (h : j < l.length) : ((Tab.dg (l.map UInt32.toNat) j : Nat) : Int) = V (Sha.nw l j) := by
  unfold Tab.dg Sha.nw V
  rw [List.getD_eq_getElem?_getD, List.getD_eq_getElem?_getD, List.getElem?_map, List.getElem?_eq_getElem h]; rfl
theorem IC.words {w : World} {b : Nat} {l : List UInt32} {m : List Nat} (h : IC w b m) (hm : m = l.map UInt32.toNat) : VC w b l := fun j hj => by
  subst hm
  rw [h j (by rw [List.length_map]; exact hj), dg_map l j hj]
theorem own_vc {w : World} {B : Nat} {e : TypeId} {v : Value} {l : List UInt32} (h : w.ownsRow B e 1 v l.length (vi l)) (hn : 0 < l.length) :
    ∃ g cap, v = .slice (some ⟨g, 0, none⟩) l.length cap ∧ B ≤ g ∧ g < w.heap.size ∧ VC w g l := by
  obtain ⟨g, cap, h1, h2, h3, h4, _⟩ := own_open h hn
  exact ⟨g, cap, h1, h2, h3, fun j hj => by rw [h4 j hj]; exact vi_get l j hj⟩
theorem VC.src {w : World} {b : Nat} {l : List UInt32} (h : VC w b l) : ∀ (j : Nat) (u : Value), (vi l)[j]? = some u → w.cell? (Addr.add ⟨b, 0, none⟩ j) = some u := fun j u hu => by
  have hj : j < l.length := by have := (List.getElem?_eq_some_iff.1 hu).1; rwa [vi_length] at this
  rw [Addr.add_lit, Nat.zero_add, h j hj, ← hu, vi_get l j hj]
/-- the words of a block, none frozen -/
structure WS (w : World) (g : Nat) (l : List UInt32) : Prop where
  vc : VC w g l
  fz : ∀ j, w.frozen? ⟨g, j, none⟩ = false
theorem WS.below {B b : Nat} {l : List UInt32} {w w' : World} (h : WS w b l) (hb : Below B w w') (hB : b < B) : WS w' b l :=
  ⟨h.vc.below hb hB, fun j => by rw [World.frozen?_of_block (w := w) (hb.block b hB)]; exact h.fz j⟩
theorem WS.set {w : World} {b : Nat} {l : List UInt32} (h : WS w b l) (i : Nat) (hi : i < l.length) (x : UInt32) : WS (w.setCell ⟨b, i, none⟩ (.int .i64 (V x))) b (l.set i x) := by
  refine ⟨fun j hj => ?_, fun j => by rw [World.frozen?_setCell]; exact h.fz j⟩
  rw [List.length_set] at hj
  by_cases e : j = i
  · subst e
    rw [World.cell?_setCell_same w ⟨b, j, none⟩ _ (h.vc j hi)]
    unfold Sha.nw; rw [List.getD_eq_getElem?_getD, List.getElem?_set_self hi]; rfl
  · rw [World.cell?_setCell_other w ⟨b, i, none⟩ ⟨b, j, none⟩ _ (by intro he; cases he; exact e rfl), h.vc j hj]
    unfold Sha.nw; rw [List.getD_eq_getElem?_getD, List.getD_eq_getElem?_getD, List.getElem?_set_ne (Ne.symm e)]
theorem own_ws {w : World} {B n : Nat} {e : TypeId} {v : Value} {l : List UInt32} (h : w.ownsRow B e 1 v n (vi l)) (hn : 0 < n) (hl : n = l.length) :
    ∃ g cap, v = .slice (some ⟨g, 0, none⟩) n cap ∧ B ≤ g ∧ g < w.heap.size ∧ WS w g l := by
  obtain ⟨g, cap, h1, h2, h3, h4, h5⟩ := own_open h hn
  exact ⟨g, cap, h1, h2, h3, fun j hj => by rw [h4 j (by omega)]; exact vi_get l j hj, h5⟩
theorem len_byte (n m : Nat) (hn : n ≤ 35184372088832) : ((n : Int) * 8 / 2 ^ (8 * m) % 256) = Y (shr (UInt64.ofNat (8 * n)) (8 * m)).toUInt8 := by
  unfold Y shr
  rw [UInt64.toNat_toUInt8, UInt64.toNat_ofNat', UInt64.toNat_ofNat']
  have h1 : 8 * n % 2 ^ 64 = 8 * n := Nat.mod_eq_of_lt (by omega)
  have h2 : 8 * n / 2 ^ (8 * m) < 2 ^ 64 := Nat.lt_of_le_of_lt (Nat.div_le_self _ _) (by omega)
  rw [h1, Nat.mod_eq_of_lt h2]
  rw [show (n : Int) * 8 = ((8 * n : Nat) : Int) by omega]
  rw [Int.natCast_emod, Int.natCast_ediv, Int.natCast_pow]
  rfl
theorem be8_next (N : UInt64) (m : Nat) (hm : m < 8) : (Sha.be8 N).take (7 - m) ++ [(shr N (8 * m)).toUInt8] = (Sha.be8 N).take (8 - m) := by
  have hl : 7 - m < (Sha.be8 N).length := by show _ < 8; omega
  have h := List.take_succ_eq_append_getElem hl
  have e : (Sha.be8 N)[7 - m] = nth (Sha.be8 N) (7 - m) := by simp [nth, hl]
  rw [show 7 - m + 1 = 8 - m by omega, e, Sha.be8_get N _ (by omega), show 56 - 8 * (7 - m) = 8 * m by omega] at h
  exact h.symm
theorem turn_calls (x : UInt32) (k : Nat) (h2 : 2 ≤ k) (hk : k ≤ 31) (w : World) :
    Calls Tryz.prog 148 #[.int .i64 (V x), .int .i64 (k : Int)] w fun e w' => e = .returned (.int .i64 (V (rotr32 x k))) ∧ ∃ n, w' = w.drewN n := by
  have q1 : (0 : Int) ≤ (k : Int) := by omega
  have q2 : (k : Int) ≤ 32 := by omega
  have q3 : (0 : Int) ≤ 32 - (k : Int) := by omega
  have q4 : 32 - (k : Int) ≤ 30 := by omega
  go_enter Tryz.func148, Tryz.ntmps148
  go_wp2
  go_quiet (fail)
  go_wp2
  go_ret
  exact ⟨rfl, _, rfl⟩
theorem turn_any (x : UInt32) (k : Int) (h0 : 2 ≤ k) (h1 : k ≤ 31) (w : World) :
    Calls Tryz.prog 148 #[.int .i64 (V x), .int .i64 k] w fun e w' => e = .returned (.int .i64 (V (rotr32 x k.toNat))) ∧ ∃ n, w' = w.drewN n := by
  obtain ⟨n, rfl⟩ := Int.eq_ofNat_of_zero_le (by omega : 0 ≤ k)
  exact turn_calls x n (by omega) (by omega) w
theorem turn_at (x : UInt32) (k : Int) (n : Nat) (h : (n = 2 ∧ k = 2) ∨ (n = 6 ∧ k = 6) ∨ (n = 7 ∧ k = 7) ∨ (n = 11 ∧ k = 11) ∨ (n = 13 ∧ k = 13) ∨ (n = 17 ∧ k = 17) ∨ (n = 18 ∧ k = 18) ∨ (n = 19 ∧ k = 19) ∨ (n = 22 ∧ k = 22) ∨ (n = 25 ∧ k = 25)) (w : World) :
    Calls Tryz.prog 148 #[.int .i64 (V x), .int .i64 k] w fun e w' => e = .returned (.int .i64 (V (rotr32 x n))) ∧ ∃ m, w' = w.drewN m := by
  rcases h with ⟨rfl, rfl⟩ | ⟨rfl, rfl⟩ | ⟨rfl, rfl⟩ | ⟨rfl, rfl⟩ | ⟨rfl, rfl⟩ | ⟨rfl, rfl⟩ | ⟨rfl, rfl⟩ | ⟨rfl, rfl⟩ | ⟨rfl, rfl⟩ | ⟨rfl, rfl⟩ <;> exact turn_calls x _ (by decide) (by decide) w
theorem drewN_add (w : World) (n m : Nat) : (w.drewN n).drewN m = w.drewN (n + m) := by
  simp [World.drewN, Nat.add_assoc]
theorem turn_q {f : FuncId} {args : Array Value} {w : World} {n : Nat} {v : Value} (h : Calls Tryz.prog f args (w.drewN n) fun e w' => e = .returned v ∧ ∃ m, w' = (w.drewN n).drewN m) :
    Calls Tryz.prog f args (w.drewN n) fun e w'' => e = .returned v ∧ ∃ m, w'' = w.drewN m :=
  h.mono fun _ _ ⟨he, m, hm⟩ => ⟨he, n + m, by rw [hm, drewN_add]⟩
theorem turn_qa {f : FuncId} {args : Array Value} {w : World} {a n : Nat} {v : Value} (h : Calls Tryz.prog f args (w.drewN (a + n)) fun e w' => e = .returned v ∧ ∃ m, w' = (w.drewN (a + n)).drewN m) :
    Calls Tryz.prog f args (w.drewN (a + n)) fun e w'' => e = .returned v ∧ ∃ m, w'' = w.drewN (a + m) :=
  h.mono fun _ _ ⟨he, m, hm⟩ => ⟨he, n + m, by rw [hm, drewN_add, Nat.add_assoc]⟩
theorem own_drewN {w : World} {B : Nat} {e : TypeId} {v : Value} {n : Nat} {xs : List Value} (h : w.ownsRow B e 1 v n xs) (k : Nat) : (w.drewN k).ownsRow B e 1 v n xs := h
theorem word4_int (S : List UInt8) (i : Nat) (hi : i < 16) :
    Y (nth S (4 * i)) * 16777216 + Y (nth S (4 * i + 1)) * 65536 + Y (nth S (4 * i + 2)) * 256 + Y (nth S (4 * i + 3)) = V (Sha.word4 (S.take 64) i) := by
  have e : ∀ j, j < 64 → nth (S.take 64) j = nth S j := fun j hj => by have := Sha.nth_block S 0 j hj; simpa using this
  unfold V Sha.word4
  rw [e _ (by omega), e _ (by omega), e _ (by omega), e _ (by omega), Sha.word4_sum]
  unfold Y; omega
/-- the round's words as the reference's operations have them -/
def rvo (s : Sha.H8) (k w : UInt32) : List UInt32 :=
  let x := [s.h, Sha.S1 s.e] ++ [s.e &&& s.f ||| ~~~s.e &&& s.g] ++ [k] ++ [w]
  [sum32 (x ++ [Sha.S0 s.a] ++ [s.a &&& s.b ||| s.a &&& s.c ||| s.b &&& s.c]), s.a, s.b, s.c, sum32 (s.d :: x), s.e, s.f, s.g]
theorem rvo_eq (s : Sha.H8) (k w : UInt32) : rvo s k w = H8l (Sha.rnd s k w) := by
  unfold rvo
  rw [Sha.ch_or, Sha.maj_or]
  exact Sha.rv_eq s k w
theorem Row.vc {w : World} {b : Nat} {l : List UInt32} (h : Row w b (vi l)) : VC w b l := fun j hj => by rw [h.cell, vi_get l j hj]
theorem plus_at (s t : Sha.H8) (j : Nat) (h : j < 8) : sum32 [Sha.nw (H8l s) j, Sha.nw (H8l t) j] = Sha.nw (H8l (Sha.plus s t)) j := by
  have hj : j = 0 ∨ j = 1 ∨ j = 2 ∨ j = 3 ∨ j = 4 ∨ j = 5 ∨ j = 6 ∨ j = 7 := by omega
  simp only [sum32, UInt32.add_zero]
  rcases hj with rfl | rfl | rfl | rfl | rfl | rfl | rfl | rfl <;> rfl
/-- the bytes of the first j words -/
def outN (l : List UInt32) (j : Nat) : List UInt8 := ((l.take j).map Sha.be4).flatten
theorem outN_snoc (l : List UInt32) (j : Nat) (h : j < l.length) : outN l (j + 1) = outN l j ++ Sha.be4 (Sha.nw l j) := by
  unfold outN; rw [Sha.nw_take l j h, List.map_append, List.flatten_append]; simp
theorem outN_len (l : List UInt32) : ∀ j, j ≤ l.length → (outN l j).length = 4 * j
  | 0, _ => rfl
  | j + 1, h => by rw [outN_snoc l j h, List.length_append, outN_len l j (by omega)]; show _ + 4 = _; omega
/-- 'string([]byte{a, b, c, d})' -/
theorem conv_four {P : Program} (w : World) (src dst e : TypeId) (a b c d : UInt8) (hs : P.underlying src = some (.slice e)) (he : P.underlying e = some (.int .u8)) (hd : P.underlying dst = some .string) :
    (convert src dst (.slice (some ⟨w.heap.size, 0, none⟩) 4 4)).run P (w.alloc (.cells #[.int .u8 (Y a), .int .u8 (Y b), .int .u8 (Y c), .int .u8 (Y d)] e)) = .ok (.string (str [a, b, c, d])) (w.alloc (.cells #[.int .u8 (Y a), .int .u8 (Y b), .int .u8 (Y c), .int .u8 (Y d)] e)) :=
  conv_bytes _ src dst e _ 0 4 [a, b, c, d] hs he hd fun j hj => by
    have hj' : j = 0 ∨ j = 1 ∨ j = 2 ∨ j = 3 := by simp at hj; omega
    rw [Nat.zero_add, (Row.new w [.int .u8 (Y a), .int .u8 (Y b), .int .u8 (Y c), .int .u8 (Y d)] e).cell]
    rcases hj' with rfl | rfl | rfl | rfl <;> rfl
def strLen : Value → Nat
  | .string x => x.size
  | _ => 0
theorem vi_snoc (l : List UInt32) (x : UInt32) : vi l ++ [.int .i64 (V x)] = vi (l ++ [x]) := by simp [vi]
set_option maxRecDepth 100000 in
set_option maxHeartbeats 40000000 in
theorem rsum_calls (t hb hc kb kc : Nat) (l : List UInt8) (w : World) (hT : Tbl w t hb hc kb kc) (hht : hb < w.heap.size) (hkt : kb < w.heap.size) (hm : l.length ≤ 35184372088832) :
    Calls Tryz.prog 125 #[.pointer (some ⟨t, 0, none⟩), .string (str l)] w fun e w' =>
      e = .returned (.string (str (Sha.sum l))) ∧ Below w.heap.size w w' := by
  obtain ⟨i0, hi0, hz0, hz1, hz2⟩ := info_parts Tryz.info3
  have th := hT.h
  have tk := hT.k
  have hH := hT.hl.words H_words
  have hK := hT.kl.words K_words
  have htl := block_lt_of_cell th
  have HH := Lib.hid hH
  have HK := Lib.hid hK
  clear hT hH hK
  go_enter Tryz.func125, Tryz.ntmps125
  go_wp2_with fail
  have hzl : Sha.zeros l.length < 64 := by unfold Sha.zeros; omega
  go_loopg [1] (Sha.zeros l.length) (fun n sv wr => ∃ j : Nat, j ≤ Sha.zeros l.length ∧ Sha.zeros l.length - j ≤ n ∧ sv = .string (str (l ++ [128] ++ List.replicate j 0)) ∧ wr = w)
  case atStart => exact ⟨0, by omega, by omega, by simp, rfl⟩
  case round =>
    obtain ⟨j, hj, hjn, rfl, rfl⟩ := hrel
    have hM : (l ++ [128] ++ List.replicate j (0 : UInt8)).length = l.length + 1 + j := by simp; omega
    have hmod : (l.length + 1 + j) % 64 = 56 ↔ j = Sha.zeros l.length := by unfold Sha.zeros at hj ⊢; omega
    have hsn : l ++ [128] ++ List.replicate j (0 : UInt8) ++ [0] = l ++ [128] ++ List.replicate (j + 1) 0 := by rw [List.append_assoc, List.replicate_succ']
    have HSN := Lib.hid hsn
    clear hsn
    by_cases hjz : j = Sha.zeros l.length
    · have he := hmod.2 hjz
      go_wp2_with fail
      have hP : l ++ [128] ++ List.replicate j (0 : UInt8) = l ++ [128] ++ List.replicate (Sha.zeros l.length) 0 := by rw [hjz]
      rw [hP]
      have HP : Hid ((l ++ [128] ++ List.replicate (Sha.zeros l.length) (0 : UInt8)) ++ Sha.be8 (UInt64.ofNat (8 * l.length)) = Sha.pad l) := Lib.hid rfl
      have hPl : (l ++ [128] ++ List.replicate (Sha.zeros l.length) (0 : UInt8)).length = l.length + 1 + Sha.zeros l.length := by simp; omega
      generalize l ++ [128] ++ List.replicate (Sha.zeros l.length) (0 : UInt8) = P at HP hPl ⊢
      clear hP hM hmod HSN
      have hPm : P.length ≤ 35184372088832 + 64 := by omega
      clear hPl
      obtain ⟨N, hN⟩ : ∃ N, N = UInt64.ofNat (8 * l.length) := ⟨_, rfl⟩
      rw [← hN] at HP
      have HN := Lib.hid hN
      clear hN
      obtain ⟨wo, rfl⟩ : ∃ wo : World, wo = wr := ⟨_, rfl⟩
      go_loopw [1, 6] (fun sv kv wr => ∃ k : Nat, k ≤ 8 ∧ kv = .int .i64 ((k : Int) - 1) ∧ sv = .string (str (P ++ (Sha.be8 N).take (8 - k))) ∧ Below wo.heap.size wo wr) (fun _ kv _ => ((intOf kv) + 1).toNat)
      case atStart => exact ⟨8, by omega, rfl, by simp, Below.refl _ _⟩
      case round =>
        obtain ⟨k, hk, rfl, rfl, hB⟩ := hrel
        by_cases h0 : k = 0
        · subst h0
          have hpad : P ++ (Sha.be8 N).take (8 - 0) = Sha.pad l := by rw [← HP.out, List.take_of_length_le (by show 8 ≤ 8; omega)]
          rw [hpad]
          have hPL := Sha.pad_length l
          have hPM : (Sha.pad l).length ≤ 35184372088832 + 72 := by rw [← HP.out, List.length_append]; show _ + 8 ≤ _; omega
          have HS : Hid (Sha.sum l = Sha.out (Sha.blocks ((Sha.pad l).length / 64) Sha.begin (Sha.pad l))) := Lib.hid rfl
          clear hpad HP
          generalize Sha.pad l = PD at hPL hPM HS ⊢
          have B1 := Lib.hid hB
          have th2 : wr.cell? ⟨t, 0, none⟩ = some (.slice (some ⟨hb, 0, none⟩) 8 hc) := (hB.cell (p := ⟨t, 0, none⟩) htl).trans th
          clear hB th
          rw [show ((0 : Nat) : Int) - 1 = -1 from rfl]
          have hl8 : (H8l Sha.begin).length = 8 := rfl
          have HV := Lib.hid (HH.out.below B1.out hht)
          go_wp2_with (at_builtin; refine wpList_append_own _ rfl _ _ 25 rfl wo.heap.size 3 i0 (.int .i64 0) 1 8 Tryz.underlying25 hi0 hz0 hz1 hz2 rfl (by decide) _ 0 [] rfl (World.ownsRow_nil _ _ _ _) ⟨hb, 0, none⟩ 8 hc (vi (H8l Sha.begin)) rfl rfl HV.out.src (vi_one _) (by unfold maxLen; omega) (by omega) B1.out.size ?_; intro hv1 w1 hown1 hgr1 _)
          obtain ⟨gh, ch, rfl, hgh, hgs, hws⟩ := own_ws (l := H8l Sha.begin) hown1 (by omega) rfl
          have hb1 : Below wo.heap.size wo w1 := B1.out.trans ((Below.refl wo.heap.size wr).grown hgr1 B1.out.size (fun k hk => by cases hk))
          have C1 := Lib.hid hws
          have C2 := Lib.hid hb1
          clear hown1 hgr1 hws hb1 th2
          have hnb : PD.length / 64 * 64 = PD.length := by omega
          generalize hNB : PD.length / 64 = nb at HS hnb
          clear hNB
          obtain ⟨w0, rfl⟩ : ∃ w0 : World, w0 = wo := ⟨_, rfl⟩
          go_loopw [1] (fun sv wr => ∃ n : Nat, n ≤ nb ∧ sv = .string (str (PD.drop (64 * n))) ∧ WS wr gh (H8l (Sha.blocks n Sha.begin PD)) ∧ Below w0.heap.size w0 wr ∧ gh < wr.heap.size) (fun sv _ => strLen sv)
          case atStart => exact ⟨0, by omega, by rw [Nat.mul_zero, List.drop_zero], C1.out, C2.out, hgs⟩
          case round =>
            clear C1 C2
            obtain ⟨n, hn, rfl, hws, hB, hgs'⟩ := hrel
            generalize hst : Sha.blocks n Sha.begin PD = st at hws
            have HST := Lib.hid hst
            clear hst
            have D1 := Lib.hid hws
            have D2 := Lib.hid hB
            clear hws hB
            by_cases hnn : n = nb
            · have hnil : PD.drop (64 * n) = [] := List.drop_of_length_le (by omega)
              as_aux_lemma =>
                rw [hnil]
                clear hnil
                have hst2 : Sha.sum l = Sha.out st := by rw [HS.out, ← HST.out, hnn]
                have S1 := Lib.hid hst2
                clear hst2 HST HS hnn
                have hhl : (H8l st).length = 8 := rfl
                have hO8 : outN (H8l st) 8 = Sha.out st := rfl
                have S2 := Lib.hid hO8
                have S3 := Lib.hid (outN_snoc (H8l st))
                have S4 := Lib.hid (outN_len (H8l st))
                clear hO8
                go_wp2_with fail
                obtain ⟨wo2, rfl⟩ : ∃ wo2 : World, wo2 = wr := ⟨_, rfl⟩
                go_loopw [20, 298] (fun ov jv wr => ∃ j : Nat, j ≤ 8 ∧ jv = .int .i64 j ∧ ov = .string (str (outN (H8l st) j)) ∧ VC wr gh (H8l st) ∧ Below w0.heap.size w0 wr ∧ gh < wr.heap.size) (fun _ jv _ => 8 - (intOf jv).toNat)
                case atStart => exact ⟨0, by omega, rfl, rfl, D1.out.vc, D2.out, hgs'⟩
                case round =>
                  clear D1 D2
                  obtain ⟨j, hj, rfl, rfl, hvc, hall, hgr⟩ := hrel
                  by_cases hj8 : j < 8
                  · have y0 := hvc j hj8
                    have hsn := S3.out j hj8
                    have hln := S4.out j hj
                    have T1 := Lib.hid hsn
                    have T3 := Lib.hid hvc
                    have T4 := Lib.hid hall
                    clear hsn hvc hall
                    generalize outN (H8l st) j = O at hln T1 ⊢
                    generalize Sha.nw (H8l st) j = x at y0 T1
                    have p0 : (j : Int) < 8 := by omega
                    have hcv := conv_four (P := Tryz.prog) wr 35 9 5 (shr32 x 24).toUInt8 (shr32 x 16).toUInt8 (shr32 x 8).toUInt8 x.toUInt8 Tryz.underlying35 Tryz.underlying5 Tryz.underlying9
                    have T5 := Lib.hid ((Below.refl wr.heap.size wr).alloc (Nat.le_refl _) (.cells #[.int .u8 (Y (shr32 x 24).toUInt8), .int .u8 (Y (shr32 x 16).toUInt8), .int .u8 (Y (shr32 x 8).toUInt8), .int .u8 (Y x.toUInt8)] 5))
                    go_wp2_with fail
                    go_roundw
                    case rel => exact ⟨j + 1, by omega, by go_num, by rw [T1.out]; rfl, T3.out.below T5.out hgr, T4.out.trans (T5.out.mono T4.out.size), by simp; omega⟩
                    case measure => simp [intOf]; omega
                  · obtain rfl : j = 8 := by omega
                    rw [S2.out, ← S1.out, show ((8 : Nat) : Int) = 8 from rfl]
                    have T4 := Lib.hid hall
                    clear hvc hall
                    go_wp2_with fail
                    go_ret
                    exact ⟨rfl, T4.out⟩
            · have hlen : (PD.drop (64 * n)).length = PD.length - 64 * n := List.length_drop
              have hl64 : 64 ≤ (PD.drop (64 * n)).length := by omega
              have hlm : (PD.drop (64 * n)).length ≤ 35184372088832 + 72 := by omega
              have hnx : (PD.drop (64 * n)).drop 64 = PD.drop (64 * (n + 1)) := by rw [List.drop_drop]; congr 1
              have hbk : Sha.blocks (n + 1) Sha.begin PD = Sha.block st ((PD.drop (64 * n)).take 64) := by rw [Sha.blocks, HST.out]
              have E1 := Lib.hid hnx
              have E2 := Lib.hid hbk
              have hne : (PD.drop (64 * n)).isEmpty = false := by
                cases h : PD.drop (64 * n) with
                | nil => rw [h] at hl64; simp at hl64
                | cons => rfl
              clear hnx hbk hlen HST
              generalize PD.drop (64 * n) = S at hl64 hlm E1 E2 hne ⊢
              go_wp2_with fail
              obtain ⟨wb, rfl⟩ : ∃ wb : World, wb = wr := ⟨_, rfl⟩
              go_loopw [8, 9] (fun wv iv wr => ∃ i : Nat, i ≤ 64 ∧ iv = .int .i64 i ∧ wr.ownsRow wb.heap.size 3 1 wv i (vi (Sha.ws (S.take 64) i)) ∧ Below wb.heap.size wb wr) (fun _ iv _ => 64 - (intOf iv).toNat)
              case atStart => exact ⟨0, by omega, rfl, World.ownsRow_nil _ _ _ _, Below.refl _ _⟩
              case round =>
                obtain ⟨i, hi, rfl, hown, hB⟩ := hrel
                obtain ⟨wa, wcap, hv⟩ := own_len hown
                subst hv
                have F1 := Lib.hid hown
                have F2 := Lib.hid hB
                clear hown hB
                by_cases hi64 : i < 64
                · by_cases hi16 : i < 16
                  · as_aux_lemma =>
                      have p0 : (0 : Int) ≤ 4 * (i : Int) := by omega
                      have p1 : 4 * (i : Int) + 3 < (S.length : Int) := by omega
                      have n0 : (4 * (i : Int)).toNat = 4 * i := by omega
                      have n1 : (4 * (i : Int) + 1).toNat = 4 * i + 1 := by omega
                      have n2 : (4 * (i : Int) + 2).toNat = 4 * i + 2 := by omega
                      have n3 : (4 * (i : Int) + 3).toNat = 4 * i + 3 := by omega
                      have b0 := Y_lt (nth S (4 * i))
                      have b1 := Y_lt (nth S (4 * i + 1))
                      have b2 := Y_lt (nth S (4 * i + 2))
                      have b3 := Y_lt (nth S (4 * i + 3))
                      go_wp2_with fail
                      refine Reg.tail2 1 30 mixed (by as_aux_lemma => kernel_rfl) rfl rfl (fun c a d v w h => by cases d <;> exact h) ?_
                      simp only [List.take_succ_cons, List.take_zero, List.drop_succ_cons, List.drop_zero, List.foldl, Reg.moved]
                      change wpQuiet _ _ _ _ _ (Act.put _ (some 62) (Value.slice wa i wcap))
                      go_frame
                      repeat (go_big_quiet_step (fail))
                      refine wpQuiet_nil ?_
                      have G1 := F1.out.drew
                      have G2 := F2.out.drew
                      generalize wr.drew = w5 at G1 G2 ⊢
                      go_wp2_with (at_builtin; refine wpList_append_own _ rfl _ _ 25 rfl wb.heap.size 3 i0 (.int .i64 0) 1 8 Tryz.underlying25 hi0 hz0 hz1 hz2 rfl (by decide) _ _ _ rfl (G1.alloc _) ⟨w5.heap.size, 0, none⟩ 1 1 [.int .i64 _] rfl rfl (cell_one_new _ _ _) (ints_oneCell .i64 [_]) (by unfold maxLen; omega) (by omega) (by have := G2.size; simp; omega) ?_; intro wv2 w6 hown2 hgr2 _)
                      have hb6 : Below wb.heap.size wb w6 := (G2.alloc G2.size _).trans ((Below.refl wb.heap.size _).grown hgr2 (by have := G2.size; simp; omega) (fun k hk => (G1.lt k hk).1))
                      rw [word4_int S i hi16, vi_snoc, ← Sha.ws_first (S.take 64) i hi16] at hown2
                      have H1 := Lib.hid hown2
                      have H2 := Lib.hid hb6
                      clear hown2 hgr2 hb6 G1 G2
                      go_roundw
                      case rel => ((repeat (apply Exists.intro)); (refine And.intro ?_ rfl); exact ⟨i + 1, by omega, by go_num, H1.out, H2.out⟩)
                      case measure => simp [intOf]; omega
                  · as_aux_lemma =>
                      obtain ⟨gw, cw, he, hg1, hg2, hws⟩ := own_ws (l := Sha.ws (S.take 64) i) F1.out (by omega) (Sha.ws_length _ _).symm
                      cases he
                      have hwl := Sha.ws_length (S.take 64) i
                      have c15 := hws.vc (i - 15) (by omega)
                      have c2 := hws.vc (i - 2) (by omega)
                      have c16 := hws.vc (i - 16) (by omega)
                      have c7 := hws.vc (i - 7) (by omega)
                      have hnx := Sha.next_at (S.take 64) i
                      have HNX := Lib.hid hnx
                      clear hnx hws hwl
                      generalize Sha.nw (Sha.ws (S.take 64) i) (i - 15) = x15 at c15 HNX
                      generalize Sha.nw (Sha.ws (S.take 64) i) (i - 2) = x2 at c2 HNX
                      generalize Sha.nw (Sha.ws (S.take 64) i) (i - 16) = x16 at c16 HNX
                      generalize Sha.nw (Sha.ws (S.take 64) i) (i - 7) = x7 at c7 HNX
                      have p0 : (0 : Int) ≤ (i : Int) - 15 := by omega
                      have p1 : (i : Int) - 15 < (i : Int) := by omega
                      have p2 : (0 : Int) ≤ (i : Int) - 2 := by omega
                      have p3 : (i : Int) - 2 < (i : Int) := by omega
                      have p4 : (0 : Int) ≤ (i : Int) - 16 := by omega
                      have p5 : (i : Int) - 16 < (i : Int) := by omega
                      have p6 : (0 : Int) ≤ (i : Int) - 7 := by omega
                      have p7 : (i : Int) - 7 < (i : Int) := by omega
                      go_wp2_with fail
                      go_quiet ((go_at_call 148; first | (exact turn_q (turn_at _ _ 7 (by omega) _)) | (exact turn_q (turn_at _ _ 18 (by omega) _))))
                      obtain ⟨q1, rfl⟩ : ∃ q1 : Nat, q1 = nq := ⟨_, rfl⟩
                      go_wp2_with fail
                      go_quiet ((go_at_call 148; first | (exact turn_qa (turn_at _ _ 17 (by omega) _)) | (exact turn_qa (turn_at _ _ 19 (by omega) _))))
                      go_wp2_with fail
                      have hwn : (wr.drewN q1).drewN nq = wr.drewN (q1 + nq) := drewN_add _ _ _
                      have G1 := own_drewN F1.out (q1 + nq)
                      have G2 := below_drewN F2.out (q1 + nq)
                      have d16 : (wr.drewN (q1 + nq)).cell? ⟨gw, i - 16, none⟩ = some (.int .i64 (V x16)) := c16
                      have d7 : (wr.drewN (q1 + nq)).cell? ⟨gw, i - 7, none⟩ = some (.int .i64 (V x7)) := c7
                      rw [hwn]
                      clear hwn c16 c7 c15 c2
                      have e0 : rotr32 x15 7 ^^^ rotr32 x15 18 ^^^ shr32 x15 3 = Sha.s0 x15 := rfl
                      have e1 : rotr32 x2 17 ^^^ rotr32 x2 19 ^^^ shr32 x2 10 = Sha.s1 x2 := rfl
                      generalize wr.drewN (q1 + nq) = w4 at G1 G2 d16 d7 ⊢
                      refine Reg.tail2 1 17 mixed (by as_aux_lemma => kernel_rfl) rfl rfl (fun c a d v w h => by cases d <;> exact h) ?_
                      simp only [List.take_succ_cons, List.take_zero, List.drop_succ_cons, List.drop_zero, List.foldl, Reg.moved]
                      change wpQuiet _ _ _ _ _ (Act.put _ (some 134) (Value.slice (some ⟨gw, 0, none⟩) i wcap))
                      go_frame
                      repeat (go_big_quiet_step (fail))
                      refine wpQuiet_nil ?_
                      have K1 := G1.drew
                      have K2 := G2.drew
                      generalize w4.drew = w5 at K1 K2 ⊢
                      go_wp2_with (at_builtin; refine wpList_append_own _ rfl _ _ 25 rfl wb.heap.size 3 i0 (.int .i64 0) 1 8 Tryz.underlying25 hi0 hz0 hz1 hz2 rfl (by decide) _ _ _ rfl (K1.alloc _) ⟨w5.heap.size, 0, none⟩ 1 1 [.int .i64 _] rfl rfl (cell_one_new _ _ _) (ints_oneCell .i64 [_]) (by unfold maxLen; omega) (by omega) (by have := K2.size; simp; omega) ?_; intro wv2 w6 hown2 hgr2 _)
                      have hb6 : Below wb.heap.size wb w6 := (K2.alloc K2.size _).trans ((Below.refl wb.heap.size _).grown hgr2 (by have := K2.size; simp; omega) (fun k hk => (K1.lt k hk).1))
                      rw [vi_snoc] at hown2
                      have hvn : ∀ z, z = Sha.next (Sha.ws (S.take 64) i) → vi (Sha.ws (S.take 64) i ++ [z]) = vi (Sha.ws (S.take 64) (i + 1)) := fun z hz => by rw [hz, Sha.ws_next _ _ (by omega)]
                      rw [hvn _ (by rw [HNX.out]; exact Sha.sum_next _ _ _ _)] at hown2
                      have H1 := Lib.hid hown2
                      have H2 := Lib.hid hb6
                      clear hown2 hgr2 hb6 G1 G2 K1 K2
                      go_roundw
                      case rel => ((repeat (apply Exists.intro)); (refine And.intro ?_ rfl); exact ⟨i + 1, by omega, by go_num, H1.out, H2.out⟩)
                      case measure => simp [intOf]; omega
                · obtain rfl : i = 64 := by omega
                  obtain ⟨gw, cw, he, hg1, hg2, hws⟩ := own_ws (l := Sha.ws (S.take 64) 64) F1.out (by omega) (Sha.ws_length _ _).symm
                  cases he
                  rw [Sha.ws_all] at hws
                  have hvw := Lib.hid hws.vc
                  have hB0 := F2.out
                  have hbs := hB0.size
                  have hgh := D1.out.below hB0 hgs'
                  have hhl : (H8l st).length = 8 := rfl
                  have hgl : gh < wr.heap.size := by omega
                  rw [show ((64 : Nat) : Int) = 64 from rfl]
                  have HS8 := Lib.hid hgh
                  have HB0 := Lib.hid hB0
                  clear hws hB0 hgh F1 F2
                  go_wp2_with (at_builtin; refine wpList_append_own _ rfl _ _ 25 rfl wr.heap.size 3 i0 (.int .i64 0) 1 8 Tryz.underlying25 hi0 hz0 hz1 hz2 rfl (by decide) _ 0 [] rfl (World.ownsRow_nil _ _ _ _) ⟨gh, 0, none⟩ 8 ch (vi (H8l st)) rfl rfl HS8.out.vc.src (vi_one _) (by unfold maxLen; omega) (by omega) (Nat.le_refl _) ?_; intro vv w7 hown7 hgr7 _)
                  obtain ⟨gv, cv, rfl, hgv1, hgv2, hv7⟩ := own_ws (l := H8l st) hown7 (by omega) rfl
                  have hb7 : Below wr.heap.size wr w7 := (Below.refl _ _).grown hgr7 (Nat.le_refl _) (fun k hk => by cases hk)
                  have J1 := Lib.hid hv7.vc
                  have J2 := Lib.hid hb7
                  clear hown7 hgr7 hv7 hb7
                  obtain ⟨we, rfl⟩ : ∃ we : World, we = wr := ⟨_, rfl⟩
                  go_loopw [12, 13] (fun vv iv wr => ∃ (i g c : Nat), i ≤ 64 ∧ iv = .int .i64 i ∧ vv = .slice (some ⟨g, 0, none⟩) 8 c ∧ we.heap.size ≤ g ∧ g < wr.heap.size ∧ VC wr g (H8l (Sha.rnds (Sha.sched (S.take 64) 48) st i)) ∧ Below we.heap.size we wr) (fun _ iv _ => 64 - (intOf iv).toNat)
                  case atStart => exact ⟨0, gv, cv, by omega, rfl, rfl, hgv1, hgv2, J1.out, J2.out⟩
                  case round =>
                    clear J1 J2
                    obtain ⟨i, g, c, hi2, rfl, rfl, hgw, hg, hvc, hB⟩ := hrel
                    by_cases hlt : i < 64
                    · have hnext : Sha.rnds (Sha.sched (S.take 64) 48) st (i + 1) = Sha.rnd (Sha.rnds (Sha.sched (S.take 64) 48) st i) (Sha.nw Sha.rounds i) (Sha.nw (Sha.sched (S.take 64) 48) i) := rfl
                      have HNX := Lib.hid hnext
                      clear hnext
                      generalize Sha.rnds (Sha.sched (S.take 64) 48) st i = s8 at hvc HNX
                      obtain ⟨a1, b1, c1, d1, e1, f1, g1, h1⟩ := s8
                      have x0 : wr.cell? ⟨g, 0, none⟩ = some (.int .i64 (V a1)) := hvc 0 (by show 0 < 8; omega)
                      have x1 : wr.cell? ⟨g, 1, none⟩ = some (.int .i64 (V b1)) := hvc 1 (by show 1 < 8; omega)
                      have x2 : wr.cell? ⟨g, 2, none⟩ = some (.int .i64 (V c1)) := hvc 2 (by show 2 < 8; omega)
                      have x3 : wr.cell? ⟨g, 3, none⟩ = some (.int .i64 (V d1)) := hvc 3 (by show 3 < 8; omega)
                      have x4 : wr.cell? ⟨g, 4, none⟩ = some (.int .i64 (V e1)) := hvc 4 (by show 4 < 8; omega)
                      have x5 : wr.cell? ⟨g, 5, none⟩ = some (.int .i64 (V f1)) := hvc 5 (by show 5 < 8; omega)
                      have x6 : wr.cell? ⟨g, 6, none⟩ = some (.int .i64 (V g1)) := hvc 6 (by show 6 < 8; omega)
                      have x7 : wr.cell? ⟨g, 7, none⟩ = some (.int .i64 (V h1)) := hvc 7 (by show 7 < 8; omega)
                      have hall : Below w0.heap.size w0 wr := (D2.out.trans (HB0.out.mono D2.out.size)).trans (hB.mono (by have := D2.out.size; omega))
                      have xw := (hvw.out.below hB hg2) i (by rw [Sha.sched_length]; omega)
                      have xk := (HK.out.below hall hkt) i hlt
                      have xt : wr.cell? ⟨t, 1, none⟩ = some (.slice (some ⟨kb, 0, none⟩) 64 kc) := (hall.cell (p := ⟨t, 1, none⟩) htl).trans tk
                      have p0 : (i : Int) < 64 := by omega
                      have HB := Lib.hid hB
                      clear hvc hall hB
                      generalize Sha.nw Sha.rounds i = kk at xk HNX
                      generalize Sha.nw (Sha.sched (S.take 64) 48) i = wk at xw HNX
                      go_wp2_with fail
                      go_quiet ((go_at_call 148; first | (exact turn_q (turn_at _ _ 6 (by omega) _)) | (exact turn_q (turn_at _ _ 11 (by omega) _)) | (exact turn_q (turn_at _ _ 25 (by omega) _))))
                      obtain ⟨q1, rfl⟩ : ∃ q1 : Nat, q1 = nq := ⟨_, rfl⟩
                      go_wp2_with fail
                      go_quiet (fail)
                      obtain ⟨q2, rfl⟩ : ∃ q2 : Nat, q2 = nq := ⟨_, rfl⟩
                      go_wp2_with fail
                      go_quiet (fail)
                      obtain ⟨q3, rfl⟩ : ∃ q3 : Nat, q3 = nq := ⟨_, rfl⟩
                      go_wp2_with fail
                      go_quiet ((go_at_call 148; first | (exact turn_qa (turn_at _ _ 2 (by omega) _)) | (exact turn_qa (turn_at _ _ 13 (by omega) _)) | (exact turn_qa (turn_at _ _ 22 (by omega) _))))
                      obtain ⟨q4, rfl⟩ : ∃ q4 : Nat, q4 = nq := ⟨_, rfl⟩
                      go_wp2_with fail
                      go_quiet (fail)
                      go_wp2_with fail
                      refine Reg.tail 30 mixed (by as_aux_lemma => kernel_rfl) rfl ?_
                      simp only [List.take_succ_cons, List.take_zero, List.drop_succ_cons, List.drop_zero]
                      repeat (go_big_quiet_step (fail))
                      refine wpQuiet_nil ?_
                      have K2 := (below_drewN (below_drewN (below_drewN (below_drewN (below_drewN HB.out q1) q2) q3) q4) nq).drew
                      generalize World.drew _ = w5 at K2 ⊢
                      have hw5 := K2.size
                      have hrow := Row.new w5 (vi (rvo ⟨a1, b1, c1, d1, e1, f1, g1, h1⟩ kk wk)) 3
                      have hvn := hrow.vc
                      have hbl := K2.alloc K2.size (.cells (vi (rvo ⟨a1, b1, c1, d1, e1, f1, g1, h1⟩ kk wk)).toArray 3)
                      have hsz : w5.heap.size < (w5.alloc (.cells (vi (rvo ⟨a1, b1, c1, d1, e1, f1, g1, h1⟩ kk wk)).toArray 3)).heap.size := by simp
                      have hrv := rvo_eq ⟨a1, b1, c1, d1, e1, f1, g1, h1⟩ kk wk
                      rw [← HNX.out] at hrv
                      have HRV := Lib.hid hrv
                      clear hrow hrv K2
                      unfold rvo at hvn hbl hsz HRV
                      simp only [vi, Sha.S1, Sha.S0, List.map_cons, List.map_nil, List.cons_append, List.nil_append] at hvn hbl hsz HRV
                      have L1 := Lib.hid hvn
                      have L2 := Lib.hid hbl
                      have L3 := Lib.hid hsz
                      clear hvn hbl hsz
                      go_wp2_with fail
                      go_roundw
                      case rel => exact ⟨i + 1, w5.heap.size, 8, by omega, by go_num, rfl, hw5, L3.out, by rw [← HRV.out]; exact L1.out, L2.out⟩
                      case measure => simp [intOf]; omega
                    · as_aux_lemma =>
                        obtain rfl : i = 64 := by omega
                        rw [show ((64 : Nat) : Int) = 64 from rfl]
                        generalize hs8 : Sha.rnds (Sha.sched (S.take 64) 48) st 64 = s8 at hvc
                        have hblk : Sha.block st (S.take 64) = Sha.plus st s8 := by rw [← hs8]; rfl
                        have M1 := Lib.hid hblk
                        have hall : Below w0.heap.size w0 wr := (D2.out.trans (HB0.out.mono D2.out.size)).trans (hB.mono (by have := D2.out.size; omega))
                        have hws := HS8.out.below hB hgl
                        have hgr : gh < wr.heap.size := by have := hB.size; omega
                        have M2 := Lib.hid hvc
                        have M3 := Lib.hid hws
                        have M4 := Lib.hid hall
                        clear hs8 hblk hvc hws hall hB
                        go_wp2_with fail
                        obtain ⟨wf, rfl⟩ : ∃ wf : World, wf = wr := ⟨_, rfl⟩
                        have hP : (H8l (Sha.plus st s8)).length = 8 := rfl
                        go_loopw [279] (fun jv wr => ∃ j : Nat, j ≤ 8 ∧ jv = .int .i64 j ∧ WS wr gh ((H8l (Sha.plus st s8)).take j ++ (H8l st).drop j) ∧ VC wr g (H8l s8) ∧ Below w0.heap.size w0 wr ∧ gh < wr.heap.size ∧ g ≠ gh) (fun jv _ => 8 - (intOf jv).toNat)
                        case atStart => exact ⟨0, by omega, rfl, M3.out, M2.out, M4.out, hgr, by omega⟩
                        case round =>
                          clear M2 M3 M4
                          obtain ⟨j, hj, rfl, hws, hvc, hall, hgr2, hne2⟩ := hrel
                          by_cases hj8 : j < 8
                          · have hml : ((H8l (Sha.plus st s8)).take j ++ (H8l st).drop j).length = 8 := by rw [List.length_append, List.length_take, List.length_drop, hP, hhl]; omega
                            have y0 := hws.vc j (by rw [hml]; exact hj8)
                            rw [Sha.mix_get _ _ _ (by rw [hP]; exact hj8)] at y0
                            have y1 := hvc j hj8
                            have z0 := hws.fz j
                            have p0 : (j : Int) < 8 := by omega
                            have hset := hws.set j (by rw [hml]; exact hj8) (Sha.nw (H8l (Sha.plus st s8)) j)
                            rw [Sha.mix_set _ _ _ (by rw [hP]; exact hj8) (by rw [hhl]; exact hj8)] at hset
                            have hpl := plus_at st s8 j hj8
                            have N1 := Lib.hid hset
                            have N2 := Lib.hid hpl
                            have N3 : Hid (VC (wr.setCell ⟨gh, j, none⟩ (.int .i64 (V (Sha.nw (H8l (Sha.plus st s8)) j)))) g (H8l s8)) := Lib.hid fun k hk => by
                              rw [← hvc k hk]; exact World.cell?_of_block (w := wr) (Below.heap_setCell _ _ _ _ hne2)
                            have N4 := Lib.hid (hall.setCell (p := ⟨gh, j, none⟩) hgh (.int .i64 (V (Sha.nw (H8l (Sha.plus st s8)) j))))
                            clear hws hvc hall hset hpl hml
                            generalize Sha.nw (H8l st) j = ya at y0 N2
                            generalize Sha.nw (H8l s8) j = yb at y1 N2
                            generalize Sha.nw (H8l (Sha.plus st s8)) j = yc at N1 N2 N3 N4
                            go_wp2_with fail
                            refine Reg.tail 13 mixed (by as_aux_lemma => kernel_rfl) rfl ?_
                            simp only [List.take_succ_cons, List.take_zero, List.drop_succ_cons, List.drop_zero]
                            repeat (go_big_quiet_step (fail))
                            refine wpQuiet_nil ?_
                            go_wp2_with fail
                            go_roundw
                            case rel => exact ⟨j + 1, by omega, by go_num, by rw [N2.out]; exact ⟨N1.out.vc, N1.out.fz⟩, by rw [N2.out]; exact N3.out, by rw [N2.out]; exact N4.out.drew, by simpa [World.setCell] using hgr2, hne2⟩
                            case measure => simp [intOf]; omega
                          · obtain rfl : j = 8 := by omega
                            rw [show ((8 : Nat) : Int) = 8 from rfl]
                            rw [List.drop_of_length_le (by rw [hhl]; omega), List.append_nil, List.take_of_length_le (by rw [hP]; omega), ← M1.out, ← E2.out] at hws
                            have N1 := Lib.hid hws
                            have N4 := Lib.hid hall
                            clear hws hvc hall
                            go_wp2_with fail
                            go_roundw
                            case rel => ((repeat (apply Exists.intro)); (refine And.intro ?_ rfl); exact ⟨n + 1, by omega, by rw [← E1.out], N1.out, N4.out, hgr2⟩)
                            case measure => (show strLen (.string (str (List.drop 64 S))) < strLen (.string (str S)); simp only [strLen, str_size, List.length_drop]; omega)
        · obtain ⟨m, rfl⟩ : ∃ m, k = m + 1 := ⟨k - 1, by omega⟩
          rw [show ((m + 1 : Nat) : Int) - 1 = (m : Int) by omega]
          have B1 := Lib.hid hB
          clear hB
          have q1 : (0 : Int) ≤ 8 * (m : Int) := by omega
          have q2 : 8 * (m : Int) ≤ 56 := by omega
          have hx := len_byte l.length m hm
          have hcv := conv_one (P := Tryz.prog) wr 35 9 5 (shr N (8 * m)).toUInt8 Tryz.underlying35 Tryz.underlying5 Tryz.underlying9
          have hnx := be8_next N m (by omega)
          rw [← HN.out] at hx
          have HNX := Lib.hid hnx
          have B2 := Lib.hid (B1.out.alloc B1.out.size (.cells #[.int .u8 ((l.length : Int) * 8 / 2 ^ (8 * m) % 256)] 5))
          rw [← hx] at hcv
          clear hx hnx
          generalize (shr N (8 * m)).toUInt8 = x at hcv HNX
          have hpl2 : (P ++ List.take (8 - (m + 1)) (Sha.be8 N)).length ≤ 35184372088832 + 72 := by
            have h1 : (List.take (8 - (m + 1)) (Sha.be8 N)).length ≤ 8 := by rw [List.length_take]; omega
            rw [List.length_append]; omega
          go_wp2_with fail
          go_roundw
          case rel => exact ⟨m, by omega, by go_num, by rw [HNX.out], B2.out⟩
          case measure => simp [intOf]
    · have he : (l.length + 1 + j) % 64 ≠ 56 := fun h => hjz (hmod.1 h)
      go_wp2_with fail
      go_roundg (gk - 1)
      case rel => exact ⟨j + 1, by omega, by omega, by rw [← HSN.out]; simp, rfl⟩
      case measure => omega
end Go.Proofs.YtlpcjiollnnmgabGreatDoor
