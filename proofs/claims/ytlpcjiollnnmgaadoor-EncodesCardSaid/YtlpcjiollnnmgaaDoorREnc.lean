/-
  THE WALK OF the reference's key, short and Encode.
-/
import Derived.Test.YtlpcjiollnnmgaaDoorEncA
import Derived.Test.YtlpcjiollnnmgaaDoorRServe
set_option maxRecDepth 100000
namespace Go.Proofs.YtlpcjiollnnmgaaDoor
open Go.RowKit Nums
set_option maxHeartbeats 2000000 in
theorem rkey_calls (t : Nat) (h n : List UInt8) (w : World) (hT : TB w t) (hm : h.length + n.length ≤ 1000) :
    Calls Tryd.prog 80 #[.pointer (some ⟨t, 0, none⟩), .string (str h), .string (str n)] w fun e w' => e = .returned (.tuple #[.int .u64 (U (En.key0 (Sha.sum (h ++ n)))), .int .u64 (U (En.key1 (Sha.sum (h ++ n))))]) ∧ Below w.heap.size w w' := by
  have T1 := Lib.hid (hT.sum (h ++ n) (by rw [List.length_append]; omega))
  obtain ⟨d, hd⟩ : ∃ d, Sha.sum (h ++ n) = d := ⟨_, rfl⟩
  have hd32 : d.length = 32 := by rw [← hd]; exact Sha.sum32 _
  rw [hd] at T1 ⊢
  clear hT hd
  go_enter Tryd.func80, Tryd.ntmps80
  go_wp2_with fail
  refine T1.out.mono ?_
  rintro e w1 ⟨rfl, hb⟩
  have B1 := Lib.hid hb
  clear hb T1
  go_upto_region 2 with fail
  have i1 : (8 : Int) ≤ (d.length : Int) := by omega
  have i2 : (16 : Int) ≤ (d.length : Int) := by omega
  haveI hne : Nonempty (Reg.Of (fun _ => True)) := ⟨⟨w1, trivial⟩⟩
  refine Reg.startL [0, 1, 3, 4] 4 mixed (by kernel_rfl) rfl rfl (fun c a d v w h => by cases d <;> exact h) (by as_aux_lemma => kernel_rfl) rfl (fun _ => True) trivial ?_
  show wpQuiet _ _ _ _ [_, _, _, _] _
  try go_frame
  repeat (go_big_quiet_step (fail))
  refine wpQuiet_nil ?_
  have B2 := Lib.hid B1.out.drew
  have W1 := Lib.hid (number_calls (d.take 8) (by rw [List.length_take]; omega) w1.drew)
  have W2 := Lib.hid (number_calls ((d.drop 8).take 8) (by rw [List.length_take, List.length_drop]; omega) w1.drew)
  generalize w1.drew = w2 at B2 W1 W2 ⊢
  refine Reg.one 2 _ (by kernel_rfl) rfl rfl ?_
  try go_frame
  go_wp2_with fail
  refine W1.out.mono ?_
  rintro e w3 ⟨rfl, rfl⟩
  go_wp2_with fail
  refine ⟨Reg.cls_mk trivial, ?_⟩
  refine Reg.one 5 _ (by kernel_rfl) rfl rfl ?_
  try go_frame
  go_wp2_with fail
  refine W2.out.mono ?_
  rintro e w3 ⟨rfl, rfl⟩
  go_wp2_with fail
  refine ⟨Reg.cls_mk trivial, ?_⟩
  refine Reg.restL [6, 7] 0 (by rfl) (by kernel_rfl) (by rfl) (fun c a d v w h => by cases d <;> exact h) (by as_aux_lemma => kernel_rfl) (by rfl) (Reg.cls_mk trivial) ?_
  show wpQuiet _ _ _ _ [_, _] _
  repeat (go_big_quiet_step (fail))
  refine wpQuiet_nil ?_
  refine wpAnyH_done (by kernel_rfl) ?_ 0
  go_wp2_with fail
  go_ret2
  exact ⟨rfl, B2.out⟩
theorem rshort_calls (t : Nat) (h n x : List UInt8) (w : World) (hT : TB w t) (hm : h.length + n.length ≤ 1000) (hx : x.length ≤ 1000) :
    Calls Tryd.prog 51 #[.pointer (some ⟨t, 0, none⟩), .string (str h), .string (str n), .string (str x)] w fun e w' => e = .returned (.string (str (En.short h n x))) ∧ Below w.heap.size w w' := by
  have T1 := Lib.hid (rkey_calls t h n w hT hm)
  have HT := Lib.hid hT
  have FE := Lib.hid (show En.short h n x = Wr.low (Sip.sip (En.key0 (Sha.sum (h ++ n))) (En.key1 (Sha.sum (h ++ n))) (Mk.twice x)).toNat 6 from rfl)
  obtain ⟨res, hres⟩ : ∃ res, En.short h n x = res := ⟨_, rfl⟩
  obtain ⟨a, ha⟩ : ∃ a, En.key0 (Sha.sum (h ++ n)) = a := ⟨_, rfl⟩
  obtain ⟨b, hb⟩ : ∃ b, En.key1 (Sha.sum (h ++ n)) = b := ⟨_, rfl⟩
  rw [ha, hb] at T1 FE
  rw [hres] at FE ⊢
  clear hT ha hb hres
  go_enter Tryd.func51, Tryd.ntmps51
  go_wp2_with fail
  refine T1.out.mono ?_
  clear T1
  rintro e w1 ⟨rfl, hb1⟩
  have B1 := Lib.hid hb1
  have T2 := Lib.hid (rtwice_calls t x w1 (HT.out.below hb1) (by omega))
  clear hb1
  go_wp2_with fail
  refine T2.out.mono ?_
  clear T2
  rintro e w2 ⟨rfl, hb2⟩
  have B2 := Lib.hid (B1.out.trans (hb2.mono B1.out.size))
  have hx32 := twice32 x
  have T3 := Lib.hid (rsip_calls a b (Mk.twice x) (by omega) w2)
  clear hb2
  go_wp2_with fail
  refine T3.out.mono ?_
  clear T3
  obtain ⟨y, hy⟩ : ∃ y, Sip.sip a b (Mk.twice x) = y := ⟨_, rfl⟩
  rw [hy] at FE ⊢
  clear hy
  rintro e w3 ⟨rfl, hb3⟩
  have B3 := Lib.hid (B2.out.trans (hb3.mono B2.out.size))
  have T4 := Lib.hid (rbytes_calls y.toNat 6 w3 y.toNat_lt (by omega))
  clear hb3
  go_wp2_with fail
  refine (show Calls Tryd.prog 49 #[.int .u64 (U y), .int .i64 6] w3 _ from T4.out).mono ?_
  clear T4
  rintro e w4 ⟨rfl, hb4⟩
  have B4 := Lib.hid (B3.out.trans (hb4.mono B3.out.size))
  clear hb4
  go_wp2_with fail
  go_ret
  exact ⟨by rw [FE.out]; rfl, B4.out⟩
theorem rchk_step (n : Nat) (al : List Int) (i : Nat) (h : i < al.length) (hE : En.chkFrom n 0 al = En.chkFrom n (En.last1 0 (al.take i)) (al.drop i)) :
    En.chkFrom n 0 al = if al.getD i 0 < 0 ∨ (n : Int) ≤ al.getD i 0 then 4 else if al.getD i 0 < En.last1 0 (al.take i) then 11 else En.chkFrom n (En.last1 0 (al.take (i + 1))) (al.drop (i + 1)) := by
  rw [hE, List.drop_eq_getElem_cons h, last_take al 0 i h]
  have e : al.getD i 0 = al[i] := by rw [List.getD_eq_getElem?_getD, List.getElem?_eq_getElem h]; rfl
  rw [e]; rfl
theorem rlast_prev (al : List Int) (i : Nat) (h0 : 0 < i) (h : i ≤ al.length) : En.last1 0 (al.take i) = al.getD (i - 1) 0 + 1 := by
  have := last_take al 0 (i - 1) (by omega)
  rwa [show i - 1 + 1 = i by omega] at this
theorem rchk_eq (n : Nat) (al : List Int) : En.chk n al = if En.chkFrom n 0 al ≠ 0 then En.chkFrom n 0 al else if al.headD 1 = 0 then 0 else 11 := rfl
theorem rkept_len (f : List UInt8 → List UInt8) (al : List Int) (ts : List (List UInt8)) : ∀ i, (En.kept f al ts i).length ≤ i
  | 0 => Nat.le_refl _
  | i + 1 => by
    have := rkept_len f al ts i
    rw [En.kept]; split
    · omega
    · rw [List.length_append]; simp; omega
theorem rkept_yes (f : List UInt8 → List UInt8) (al : List Int) (ts : List (List UInt8)) (i : Nat) (h : (i : Int) ∈ al) : En.kept f al ts (i + 1) = En.kept f al ts i := by rw [En.kept, if_pos h]
theorem rkept_no (f : List UInt8 → List UInt8) (al : List Int) (ts : List (List UInt8)) (i : Nat) (h : ¬ (i : Int) ∈ al) : En.kept f al ts (i + 1) = En.kept f al ts i ++ [f (ts.getD i [])] := by rw [En.kept, if_neg h]
theorem rkept_all {P : List UInt8 → Prop} (f : List UInt8 → List UInt8) (al : List Int) (ts : List (List UInt8)) (hf : ∀ t, P (f t)) : ∀ i, ∀ s ∈ En.kept f al ts i, P s
  | 0, s, h => by cases h
  | i + 1, s, h => by
    rw [En.kept] at h
    split at h
    · exact rkept_all f al ts hf i s h
    · rcases List.mem_append.1 h with h | h
      · exact rkept_all f al ts hf i s h
      · rw [List.mem_singleton.1 h]; exact hf _
theorem refs_yes (al : List Int) (ts : List (List UInt8)) (i : Nat) (h : (i : Int) ∈ al) : En.refs al ts (i + 1) = ((En.refs al ts i).1 ++ (Wr.sizeB (i - (En.refs al ts i).2) ++ ts.getD i []), i + 1) := by rw [En.refs, if_pos h]
theorem refs_no (al : List Int) (ts : List (List UInt8)) (i : Nat) (h : ¬ (i : Int) ∈ al) : En.refs al ts (i + 1) = En.refs al ts i := by rw [En.refs, if_neg h]
theorem refs_next (al : List Int) (ts : List (List UInt8)) : ∀ i, (En.refs al ts i).2 ≤ i
  | 0 => Nat.le_refl _
  | i + 1 => by
    by_cases h : (i : Int) ∈ al
    · rw [refs_yes al ts i h]; exact Nat.le_refl _
    · rw [refs_no al ts i h]; have := refs_next al ts i; omega
theorem refs_len (al : List Int) (ts : List (List UInt8)) (hS : ∀ i, (ts.getD i []).length ≤ 610) : ∀ i, (En.refs al ts i).1.length ≤ 9 + 620 * i
  | 0 => sizeB_short _
  | i + 1 => by
    have ih := refs_len al ts hS i
    by_cases h : (i : Int) ∈ al
    · rw [refs_yes al ts i h]
      have := hS i
      have := sizeB_short (i - (En.refs al ts i).2)
      simp only [List.length_append]; omega
    · rw [refs_no al ts i h]; omega
theorem con_take (al : List Int) (k : Nat) (x : Int) (h : k < al.length) : decide (x ∈ al.take (k + 1)) = (decide (x ∈ al.take k) || decide (al.getD k 0 = x)) := by
  have e : al.getD k 0 = al[k] := by rw [List.getD_eq_getElem?_getD, List.getElem?_eq_getElem h]; rfl
  rw [List.take_succ_eq_append_getElem h, e, ← Bool.decide_or, decide_eq_decide, List.mem_append, List.mem_singleton]
  exact ⟨fun hh => hh.imp id Eq.symm, fun hh => hh.imp id Eq.symm⟩
set_option maxHeartbeats 8000000 in
theorem rencode_calls (t : Nat) (blk : List UInt8) (nonce : UInt64) (av : Value) (al : List Int) (w : World) (hT : TB w t) (hl1 : blk.length ≤ 9223372036854775807) (ha : IntsAt w av al) (hal : al.length ≤ 1048576) :
    Calls Tryd.prog 26 #[.pointer (some ⟨t, 0, none⟩), .string (str blk), .int .u64 (U nonce), av] w fun e w' => e = .returned (ansV (En.encode blk nonce al)) ∧ Below w.heap.size w w' := by
  have HT := Lib.hid hT
  have HA := Lib.hid ha
  have T1 := Lib.hid (rblock_calls blk w hl1)
  have D1 := Rf.blk_done blk
  rw [← En.encode_eq]
  have ES := Lib.hid (show En.encodeR blk nonce al = match Wr.readBlock blk with
    | .bad e => ([], e)
    | .ok (h, txs) _ => if En.chk txs.length al ≠ 0 then ([], En.chk txs.length al) else
      (h ++ Wr.low nonce.toNat 8 ++ (Wr.sizeB (En.kept (En.short h (Wr.low nonce.toNat 8)) al txs txs.length).length ++ (En.kept (En.short h (Wr.low nonce.toNat 8)) al txs txs.length).flatten) ++ (En.refs al txs txs.length).1, 0) from rfl)
  obtain ⟨ans, hans⟩ : ∃ p, En.encodeR blk nonce al = p := ⟨_, rfl⟩
  rw [hans] at ES ⊢
  obtain ⟨aa, ac, rfl⟩ := ha.form
  clear hT hans ha
  go_enter Tryd.func26, Tryd.ntmps26
  go_wp2_with fail
  refine T1.out.mono ?_
  clear T1
  cases hx : Wr.readBlock blk with
  | bad n =>
    rw [hx] at D1 ES
    dsimp only at D1
    rintro e w1 ⟨v, rfl, ho, hb⟩
    rw [D1.1]
    have p1 : ¬ (n : Int) = 0 := by have := D1.2; omega
    clear D1 hx ho
    go_wp2_with fail
    go_ret2
    exact ⟨by rw [show ans = ([], n) from ES.out]; rfl, hb⟩
  | ok a r =>
    obtain ⟨hh80, hts1, hts16, htsS⟩ := Wr.blk_inv hx
    rw [hx] at D1 ES
    dsimp only at D1
    rintro e w1 ⟨bv, rfl, ho, hb⟩
    rw [D1.1, D1.2]
    rw [D1.2] at ho
    obtain ⟨h, ts⟩ := a
    dsimp only at ho hh80 hts1 hts16 htsS ES ⊢
    obtain ⟨gb, cb, rfl, _, hgb, hTA⟩ := own_cells ho (by omega : 0 < ts.length)
    have HTA := Lib.hid hTA
    have B1 := Lib.hid hb
    have HS := Lib.hid htsS
    have HT1 := Lib.hid (HT.out.below hb)
    have HA2 := Lib.hid (HA.out.below hb (Nat.le_refl _))
    have EP := Lib.hid (show En.chkFrom ts.length 0 al = En.chkFrom ts.length (En.last1 0 (al.take 0)) (al.drop 0) by simp [En.last1])
    clear D1 hx ho hb htsS hTA
    go_wp2_with fail
    go_loopw [13, 14, 35] (fun jv xv iv wr => ∃ i : Nat, i ≤ al.length ∧ iv = .int .i64 i ∧ En.chkFrom ts.length 0 al = En.chkFrom ts.length (En.last1 0 (al.take i)) (al.drop i) ∧ wr = w1) (fun _ _ iv _ => al.length - (intOf iv).toNat)
    case atStart => exact ⟨0, by omega, rfl, EP.out, rfl⟩
    case round =>
      clear EP
      obtain ⟨i, hi, rfl, hE, rfl⟩ := hrel
      by_cases hlt : i < al.length
      · have p1 : (i : Int) < (al.length : Int) := by omega
        have ST := rchk_step ts.length al i hlt hE
        have LP := rlast_prev al i
        obtain ⟨b, o, hab, hbl, hcs⟩ := HA2.out.at (by omega)
        subst hab
        have hcx := hcs i hlt
        obtain ⟨x, hxe⟩ : ∃ x, al.getD i 0 = x := ⟨_, rfl⟩
        rw [hxe] at ST hcx
        by_cases c1 : x < 0 ∨ (ts.length : Int) ≤ x
        · rw [if_pos c1] at ST
          have ES3 := Lib.hid (show ans = ([], 4) by rw [ES.out, rchk_eq, ST]; rfl)
          clear ST LP hcs hE hxe
          by_cases c2 : x < 0
          · clear c1
            go_wp2_with fail
            go_ret2
            exact ⟨by rw [ES3.out]; rfl, B1.out⟩
          · have c3 : x ≥ (ts.length : Int) := by omega
            clear c1
            go_wp2_with fail
            go_ret2
            exact ⟨by rw [ES3.out]; rfl, B1.out⟩
        · rw [if_neg c1] at ST
          have c2 : ¬ x < 0 := fun hh => c1 (.inl hh)
          have c3 : ¬ x ≥ (ts.length : Int) := fun hh => c1 (.inr hh)
          clear c1
          by_cases hi0 : 0 < i
          · have p2 : (i : Int) > 0 := by omega
            have LP2 := LP hi0 hi
            have hcp := hcs (i - 1) (by omega)
            have q1 : wrap64 ((i : Int) - 1) = ((i - 1 : Nat) : Int) := by unfold wrap64; omega
            have q1' : (i : Int) - 1 = ((i - 1 : Nat) : Int) := by omega
            have q3 : ((i - 1 : Nat) : Int) < (al.length : Int) := by omega
            obtain ⟨y, hye⟩ : ∃ y, al.getD (i - 1) 0 = y := ⟨_, rfl⟩
            rw [hye] at hcp LP2
            obtain ⟨k, hk⟩ : ∃ k, i - 1 = k := ⟨_, rfl⟩
            rw [hk] at hcp q1 q1' q3
            by_cases c4 : y ≥ x
            · rw [if_pos (by omega)] at ST
              have ES3 := Lib.hid (show ans = ([], 11) by rw [ES.out, rchk_eq, ST]; rfl)
              clear ST LP LP2 hcs hE hxe hye hk
              go_wp2_with fail
              go_ret2
              exact ⟨by rw [ES3.out]; rfl, B1.out⟩
            · rw [if_neg (by omega)] at ST
              have ST2 := Lib.hid ST
              clear ST LP LP2 hcs hE hxe hye hk
              go_wp2_with fail
              go_roundw
              case rel => exact ⟨i + 1, by omega, by go_num, ST2.out, by first | trivial | rfl⟩
              case measure => simp [intOf]; omega
          · obtain rfl : i = 0 := by omega
            rw [if_neg (by show ¬ x < 0; exact c2)] at ST
            rw [Nat.add_zero] at hcx
            have ST2 := Lib.hid ST
            clear ST LP hcs hE hxe
            go_wp2_with fail
            go_roundw
            case rel => exact ⟨1, by omega, by go_num, ST2.out, by first | trivial | rfl⟩
            case measure => simp [intOf]; omega
      · obtain rfl : i = al.length := by omega
        have CF := Lib.hid (show En.chkFrom ts.length 0 al = 0 by rw [hE, List.drop_length]; rfl)
        have RI := Lib.hid (En.rise_of_chk ts.length al 0 CF.out)
        clear hE
        by_cases hz : al.length = 0
        · have ES3 := Lib.hid (show ans = ([], 11) by
            obtain rfl := List.eq_nil_of_length_eq_zero hz
            rw [ES.out]; rfl)
          clear hlt
          go_wp2_with fail
          go_ret2
          exact ⟨by rw [ES3.out]; rfl, B1.out⟩
        · obtain ⟨b, o, hab, hbl, hcs⟩ := HA2.out.at (by omega)
          subst hab
          have hc0 := hcs 0 (by omega)
          rw [Nat.add_zero] at hc0
          have HCS := Lib.hid hcs
          have HD := Lib.hid (show al.headD 1 = al.getD 0 0 by cases al with
            | nil => exact absurd rfl hz
            | cons y ys => rfl)
          have hl16 : al.length ≤ 16 := by
            rcases En.rise_len ts.length al 0 (by omega) RI.out with h1 | h1
            · omega
            · subst h1; simp
          obtain ⟨x0, hx0⟩ : ∃ x0, al.getD 0 0 = x0 := ⟨_, rfl⟩
          rw [hx0] at hc0 HD
          clear hx0 hcs
          have p0 : (0 : Int) < (al.length : Int) := by omega
          by_cases hxz : x0 = 0
          · subst hxz
            have ES3 := Lib.hid (show ans = (h ++ Wr.low nonce.toNat 8 ++ (Wr.sizeB (En.kept (En.short h (Wr.low nonce.toNat 8)) al ts ts.length).length ++ (En.kept (En.short h (Wr.low nonce.toNat 8)) al ts ts.length).flatten) ++ (En.refs al ts ts.length).1, 0) by
              have h0 : En.chk ts.length al = 0 := by rw [rchk_eq, CF.out, if_neg (fun h => h rfl), HD.out, if_pos rfl]
              rw [ES.out, h0]; rfl)
            have T2 := Lib.hid (rbytes_calls nonce.toNat 8 wr nonce.toNat_lt (by omega))
            clear ES CF HD hlt
            go_wp2_with fail
            refine (show Calls Tryd.prog 49 #[.int .u64 (U nonce), .int .i64 8] wr _ from T2.out).mono ?_
            clear T2 hc0
            obtain ⟨nb, hnb⟩ : ∃ nb, Wr.low nonce.toNat 8 = nb := ⟨_, rfl⟩
            have hn8 : nb.length = 8 := by rw [← hnb]; exact Wr.low_length _ _
            rw [hnb] at ES3 ⊢
            clear hnb
            rintro e w3 ⟨rfl, hb⟩
            have B3 := Lib.hid (B1.out.trans (hb.mono B1.out.size))
            have W13 := Lib.hid hb
            have q2 : IntKind.u64.wrap (al.length : Int) = al.length := by rw [u64_wrap, U_nat]; omega
            have T3 := Lib.hid (rsize_bytes al.length w3 (by omega))
            have hz2 := sizeB_short al.length
            clear hb
            go_wp2_with fail
            refine T3.out.mono ?_
            clear T3
            obtain ⟨z2, hz2e⟩ : ∃ z, Wr.sizeB al.length = z := ⟨_, rfl⟩
            have Z2 := Lib.hid hz2e
            rw [hz2e] at hz2 ⊢
            clear hz2e
            rintro e w4 ⟨rfl, hb⟩
            have B4 := Lib.hid (B3.out.trans (hb.mono B3.out.size))
            have W14 := Lib.hid (W13.out.trans (hb.mono W13.out.size))
            clear hb
            have hzw := W14.out.size
            go_wp2_with fail
            obtain ⟨w2, rfl⟩ : ∃ w2 : World, w2 = wr := ⟨_, rfl⟩
            obtain ⟨i1, hi1, hs0, hs1, hs2⟩ := info_parts infoStr
            have HI1 := Lib.hid hi1
            clear hi1
            have hSt := fun (j : Nat) => (show (ts.getD j []).length ≤ 610 from by
              by_cases hj : j < ts.length
              · exact HS.out _ (by rw [List.getD_eq_getElem?_getD, List.getElem?_eq_getElem hj]; exact List.getElem_mem hj)
              · rw [List.getD_eq_getElem?_getD, List.getElem?_eq_none (by omega)]; simp)
            have HSt := Lib.hid hSt
            clear hSt
            go_loopw [16, 17, 18, 19, 20, 21, 77] (fun sv tv nv jv xv bv iv wq => ∃ (i : Nat), i ≤ ts.length ∧ iv = .int .i64 i ∧ wq.ownsRow w4.heap.size 9 1 sv (En.kept (En.short h nb) al ts i).length (wt (En.kept (En.short h nb) al ts i)) ∧ tv = .string (str (En.refs al ts i).1) ∧ nv = .int .i64 ((En.refs al ts i).2 : Int) ∧ Below w4.heap.size w4 wq) (fun _ _ _ _ _ _ iv _ => ts.length - (intOf iv).toNat)
            case atStart => exact ⟨0, by omega, rfl, World.ownsRow_nil _ _ _ _, by rw [← Z2.out]; rfl, rfl, Below.refl _ _⟩
            case round =>
              obtain ⟨i, hi, rfl, hos, rfl, rfl, hB⟩ := hrel
              have O1 := Lib.hid hos
              have N1 := Lib.hid hB
              have hzq := hB.size
              have hkl := rkept_len (En.short h nb) al ts i
              have hrl := refs_len al ts HSt.out i
              have hrn := refs_next al ts i
              clear hos hB
              by_cases hlt : i < ts.length
              · have p1 : (i : Int) < (ts.length : Int) := by omega
                have htl := HSt.out i
                have hcx : wr.cell? ⟨gb, i, none⟩ = some (.string (str (ts.getD i []))) := by
                  rw [← wts_get ts i hlt, ← HTA.out i (by omega)]
                  exact World.cell?_of_block (w := w2) ((N1.out.block gb (by omega)).trans (W14.out.block gb hgb))
                have HC2 := Lib.hid (show ∀ j, j < al.length → wr.cell? ⟨b, o + j, none⟩ = some (.int .i64 (al.getD j 0)) from fun j hj => by
                  rw [← HCS.out j hj]; exact World.cell?_of_block (w := w2) ((N1.out.block b (by omega)).trans (W14.out.block b hbl)))
                have KY := fun c => Lib.hid (rkept_yes (En.short h nb) al ts i c)
                have KNo := fun c => Lib.hid (rkept_no (En.short h nb) al ts i c)
                have RY := fun c => Lib.hid (refs_yes al ts i c)
                have RNo := fun c => Lib.hid (refs_no al ts i c)
                have hrl2 := refs_len al ts HSt.out (i + 1)
                obtain ⟨x, hxe⟩ : ∃ x, ts.getD i [] = x := ⟨_, rfl⟩
                rw [hxe] at hcx htl KNo RY
                clear hxe
                obtain ⟨rs, hrs⟩ : ∃ rs, En.refs al ts i = rs := ⟨_, rfl⟩
                rw [hrs] at hrl hrn RY RNo ⊢
                clear hrs
                obtain ⟨sb, nx⟩ := rs
                dsimp only at hrl hrn ⊢
                go_wp2_with fail
                obtain ⟨wo, rfl⟩ : ∃ wo : World, wo = wr := ⟨_, rfl⟩
                go_loopw [21, 23, 84] (fun cv yv kv wq => ∃ k : Nat, k ≤ al.length ∧ kv = .int .i64 k ∧ cv = .bool (decide ((i : Int) ∈ al.take k)) ∧ wq = wo) (fun _ _ kv _ => al.length - (intOf kv).toNat)
                case atStart => exact ⟨0, by omega, rfl, by simp, rfl⟩
                case round =>
                  obtain ⟨k, hk, rfl, rfl, rfl⟩ := hrel
                  by_cases hlk : k < al.length
                  · have p2 : (k : Int) < (al.length : Int) := by omega
                    have hcy := HC2.out k hlk
                    have CT := Lib.hid (con_take al k (i : Int) hlk)
                    obtain ⟨y, hye⟩ : ∃ y, al.getD k 0 = y := ⟨_, rfl⟩
                    rw [hye] at hcy CT
                    clear hye
                    obtain ⟨c, hc⟩ : ∃ c, decide ((i : Int) ∈ al.take k) = c := ⟨_, rfl⟩
                    rw [hc] at CT ⊢
                    clear hc
                    cases c with
                    | true =>
                      go_wp2_with fail
                      go_roundw
                      case rel => exact ⟨k + 1, by omega, by go_num, by rw [CT.out]; rfl, by first | trivial | rfl⟩
                      case measure => simp [intOf]; omega
                    | false =>
                      by_cases he : y = (i : Int)
                      · have he2 : (y == (i : Int)) = true := by simpa using he
                        have CT2 := Lib.hid (show decide ((i : Int) ∈ al.take (k + 1)) = true by rw [CT.out, decide_eq_true he]; rfl)
                        subst he
                        clear CT
                        go_wp2_with fail
                        go_roundw
                        case rel => exact ⟨k + 1, by omega, by go_num, by rw [CT2.out], by first | trivial | rfl⟩
                        case measure => simp [intOf]; omega
                      · have he2 : (y == (i : Int)) = false := by simpa using he
                        have CT2 := Lib.hid (show decide ((i : Int) ∈ al.take (k + 1)) = false by rw [CT.out, decide_eq_false he]; rfl)
                        clear CT
                        go_wp2_with fail
                        go_roundw
                        case rel => exact ⟨k + 1, by omega, by go_num, by rw [CT2.out], by first | trivial | rfl⟩
                        case measure => simp [intOf]; omega
                  · obtain rfl : k = al.length := by omega
                    rw [List.take_of_length_le (Nat.le_refl al.length)]
                    by_cases hm : (i : Int) ∈ al
                    · rw [decide_eq_true hm]
                      have KN := KY hm
                      have RN := RY hm
                      clear KY KNo RY RNo hrl2
                      obtain ⟨d, hd⟩ : ∃ d : Nat, i - nx = d := ⟨_, rfl⟩
                      have q1 : wrap64 ((i : Int) - (nx : Int)) = (i : Int) - (nx : Int) := by unfold wrap64; omega
                      have q4 : IntKind.u64.wrap ((i : Int) - (nx : Int)) = (d : Int) := by rw [show (i : Int) - (nx : Int) = (d : Int) by omega, u64_wrap, U_nat]; omega
                      have q3 : U (toU ((i : Int) - (nx : Int))) = (d : Int) := by rw [show (i : Int) - (nx : Int) = (d : Int) by omega, U_toU]; omega
                      have T5 := Lib.hid (rsize_bytes d wr (by omega))
                      have hds := sizeB_short d
                      rw [hd] at RN
                      clear hd hcx
                      go_wp2_with fail
                      refine T5.out.mono ?_
                      clear T5 q1 q3 q4
                      obtain ⟨y, hye⟩ : ∃ y, Wr.sizeB d = y := ⟨_, rfl⟩
                      rw [hye] at RN hds ⊢
                      clear hye
                      rintro e w6 ⟨rfl, hb⟩
                      have N2 := Lib.hid (N1.out.trans (hb.mono hzq))
                      have O2 := Lib.hid (ownN_below O1.out hb (Nat.le_refl _))
                      clear hb
                      have hyx : (y ++ x).length ≤ 620 := by rw [List.length_append]; omega
                      have hsbx : (sb ++ (y ++ x)).length ≤ 20000 := by rw [List.length_append]; omega
                      go_wp2_with fail
                      go_roundw
                      case rel => exact ⟨i + 1, by omega, by go_num, by rw [KN.out]; exact O2.out, by rw [RN.out], by rw [RN.out]; go_num, N2.out⟩
                      case measure => simp [intOf]; omega
                    · rw [decide_eq_false hm]
                      have KN := KNo hm
                      have RN := RNo hm
                      clear KY KNo RY RNo hrl2 hcx
                      have T5 := Lib.hid (rshort_calls t h nb x wr (HT1.out.below (W14.out.trans (N1.out.mono hzw))) (by omega) (by omega))
                      obtain ⟨y, hye⟩ : ∃ y, En.short h nb x = y := ⟨_, rfl⟩
                      have hyl : y.length = 6 := by rw [← hye]; exact Wr.low_length _ _
                      rw [hye] at KN T5
                      clear hye
                      go_wp2_with fail
                      refine T5.out.mono ?_
                      clear T5
                      rintro e w6 ⟨rfl, hb⟩
                      have N2 := Lib.hid (N1.out.trans (hb.mono hzq))
                      have O2 := Lib.hid (ownN_below O1.out hb (Nat.le_refl _))
                      have hz6 := N2.out.size
                      clear hb O1 N1
                      go_wp2_with (at_builtin; refine wpList_append_own _ rfl _ _ 26 rfl w4.heap.size 9 i1 (.string ByteArray.empty) 1 16 Tryd.underlying26 HI1.out hs0 hs1 hs2 rfl (by decide) _ _ _ rfl (O2.out.alloc _) ⟨w6.heap.size, 0, none⟩ 1 1 [.string (str y)] rfl rfl (cell_one_new _ _ _) (wt_one [y]) (by unfold maxLen; omega) (by omega) (by rw [World.size_alloc]; omega) ?_; intro uv2 w7 hown3 hgr3 _; have hbl : Below w4.heap.size w6 w7 := ((Below.refl w4.heap.size w6).alloc hz6 _).grown hgr3 (by rw [World.size_alloc]; omega) (fun k hk => (O2.out.lt k hk).1); have H1 := Lib.hid hown3; have H2 := Lib.hid hbl; clear hown3 hgr3 hbl)
                      go_roundw
                      case rel => exact ⟨i + 1, by omega, by go_num, by rw [KN.out, List.length_append, ← wt_snoc]; exact H1.out, by rw [RN.out], by rw [RN.out], N2.out.trans H2.out⟩
                      case measure => simp [intOf]; omega
              · obtain rfl : i = ts.length := by omega
                have RB := Lib.hid (rjoined_calls _ (En.kept (En.short h nb) al ts ts.length) w4.heap.size wr O1.out (rkept_all (P := fun s => s.length ≤ 610) _ al ts (fun t => by show (En.six _).length ≤ 610; unfold En.six; rw [Wr.low_length]; omega) _) (by omega))
                have hjl : (Mk.joined (En.kept (En.short h nb) al ts ts.length)).length ≤ 700000 := by
                  have h1 := flat_short (En.kept (En.short h nb) al ts ts.length) (rkept_all (P := fun s => s.length ≤ 610) _ al ts (fun t => by show (En.six _).length ≤ 610; unfold En.six; rw [Wr.low_length]; omega) _)
                  have h2 := sizeB_short (En.kept (En.short h nb) al ts ts.length).length
                  unfold Mk.joined; rw [List.length_append]; omega
                have ES4 := Lib.hid (show ans = (h ++ nb ++ Mk.joined (En.kept (En.short h nb) al ts ts.length) ++ (En.refs al ts ts.length).1, 0) from ES3.out)
                obtain ⟨jj, hjj⟩ : ∃ jj, Mk.joined (En.kept (En.short h nb) al ts ts.length) = jj := ⟨_, rfl⟩
                rw [hjj] at RB hjl ES4
                obtain ⟨sb, hsb⟩ : ∃ sb, (En.refs al ts ts.length).1 = sb := ⟨_, rfl⟩
                rw [hsb] at hrl ES4 ⊢
                clear hjj hsb ES3
                have hhn : (h ++ nb).length ≤ 100 := by rw [List.length_append]; omega
                have hhj : (h ++ (nb ++ jj)).length ≤ 800000 := by rw [List.length_append, List.length_append]; omega
                have hhj2 : (nb ++ jj).length ≤ 800000 := by rw [List.length_append]; omega
                have hhj3 : (h ++ nb ++ jj).length ≤ 800000 := by rw [List.length_append, List.length_append]; omega
                have N2 := Lib.hid (B4.out.trans (N1.out.mono B4.out.size))
                go_wp2_with fail
                refine RB.out.mono ?_
                rintro e w5 ⟨rfl, hb9⟩
                have N3 := Lib.hid (N2.out.trans (hb9.mono N2.out.size))
                clear hb9
                go_wp2_with fail
                go_ret2
                exact ⟨by rw [ES4.out]; simp only [ansV, List.append_assoc]; rfl, N3.out⟩
          · have ES3 := Lib.hid (show ans = ([], 11) by
              have h0 : En.chk ts.length al = 11 := by rw [rchk_eq, CF.out, if_neg (fun h => h rfl), HD.out, if_neg hxz]
              rw [ES.out, h0]; rfl)
            have hne1 : (x0 == 0) = false := by simpa using hxz
            have hne0 : (x0 != 0) = true := by simpa using hxz
            clear hlt
            go_wp2_with fail
            go_ret2
            exact ⟨by rw [ES3.out]; rfl, B1.out⟩
end Go.Proofs.YtlpcjiollnnmgaaDoor
