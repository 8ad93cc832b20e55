/-
  THE WALK OF relay.Encode.
-/
import Derived.Test.YtlpcjiollnnmgaaDoorEncB
set_option maxRecDepth 100000
namespace Go.Proofs.YtlpcjiollnnmgaaDoor
open Go.RowKit Nums
theorem chk_step (n : Nat) (al : List Int) (i : Nat) (h : i < al.length) (hE : En.chkFrom n 0 al = En.chkFrom n (En.last1 0 (al.take i)) (al.drop i)) :
    En.chkFrom n 0 al = if al.getD i 0 < 0 ∨ (n : Int) ≤ al.getD i 0 then 4 else if al.getD i 0 < En.last1 0 (al.take i) then 11 else En.chkFrom n (En.last1 0 (al.take (i + 1))) (al.drop (i + 1)) := by
  rw [hE, List.drop_eq_getElem_cons h, last_take al 0 i h]
  have e : al.getD i 0 = al[i] := by rw [List.getD_eq_getElem?_getD, List.getElem?_eq_getElem h]; rfl
  rw [e]; rfl
theorem last_prev (al : List Int) (i : Nat) (h0 : 0 < i) (h : i ≤ al.length) : En.last1 0 (al.take i) = al.getD (i - 1) 0 + 1 := by
  have := last_take al 0 (i - 1) (by omega)
  rwa [show i - 1 + 1 = i by omega] at this
theorem chk_eq (n : Nat) (al : List Int) : En.chk n al = if En.chkFrom n 0 al ≠ 0 then En.chkFrom n 0 al else if al.headD 1 = 0 then 0 else 11 := rfl
theorem make8' (w : World) : (Instr.makeSlice 36 (.int .i64 8) (.int .i64 8)).run Tryd.prog w = .ok (.slice (some ⟨w.heap.size, 0, none⟩) 8 8) (w.alloc (.cells (w8 [0, 0, 0, 0, 0, 0, 0, 0]).toArray 5)) := by kernel_rfl
theorem info_Compact : (Tryd.prog.info? 91).map (·.size) = some 5 := by kernel_rfl
theorem own_apart {w : World} {B B' n m : Nat} {e e' : TypeId} {z z' : Nat} {v u : Value} {xs ys : List Value} (h : w.ownsRow B e z v n xs) (k : w.ownsRow B' e' z' u m ys) (he : e ≠ e') : v.ownBlock = none ∨ v.ownBlock ≠ u.ownBlock := by
  rcases h.2 with ⟨rfl, _⟩ | ⟨g, cap, cur, rfl, _, hg, _⟩
  · exact .inl rfl
  · refine .inr fun hh => ?_
    rcases k.2 with ⟨rfl, _⟩ | ⟨g', cap', cur', rfl, _, hg', _⟩
    · cases hh
    · have : g = g' := by simpa [Value.ownBlock] using hh
      subst this
      rw [hg] at hg'
      cases hg'
      exact he rfl
theorem ownN_row' {w : World} {B S n : Nat} {e : TypeId} {z : Nat} {v : Value} {xs : List Value} (h : w.ownsRow B e z v n xs) (m : Array Value) (hS : v.ownBlock ≠ some S) : (w.setRow S m).ownsRow B e z v n xs := by
  refine ⟨h.1, ?_⟩
  rcases h.2 with h | ⟨g, cap, cur, rfl, h1, h2, h3⟩
  · exact .inl h
  · exact .inr ⟨g, cap, cur, rfl, h1, by rw [setRow_other w S g m (fun hh => hS (by rw [hh]; rfl))]; exact h2, h3⟩
theorem Row.grown {w w' : World} {b : Nat} {l : List Value} {row : Option Nat} (h : Row w b l) (hg : w.grownBy w' row) (hne : row ≠ some b) : Row w' b l := by
  have hl := h.lt
  obtain ⟨T, h⟩ := h
  exact ⟨T, by rw [hg.block b hl (fun hh => hne hh.symm)]; exact h⟩
theorem kept_len (f : List UInt8 → List UInt8) (al : List Int) (ts : List (List UInt8)) : ∀ i, (En.kept f al ts i).length ≤ i
  | 0 => Nat.le_refl _
  | i + 1 => by
    have := kept_len f al ts i
    rw [En.kept]; split
    · omega
    · rw [List.length_append]; simp; omega
theorem sent_len (al : List Int) (ts : List (List UInt8)) : ∀ i, (En.sent al ts i).length ≤ i
  | 0 => Nat.le_refl _
  | i + 1 => by
    have := sent_len al ts i
    rw [En.sent]; split
    · rw [List.length_append]; simp; omega
    · omega
theorem kept_yes (f : List UInt8 → List UInt8) (al : List Int) (ts : List (List UInt8)) (i : Nat) (h : (i : Int) ∈ al) : En.kept f al ts (i + 1) = En.kept f al ts i := by rw [En.kept, if_pos h]
theorem kept_no (f : List UInt8 → List UInt8) (al : List Int) (ts : List (List UInt8)) (i : Nat) (h : ¬ (i : Int) ∈ al) : En.kept f al ts (i + 1) = En.kept f al ts i ++ [f (ts.getD i [])] := by rw [En.kept, if_neg h]
theorem sent_yes (al : List Int) (ts : List (List UInt8)) (i : Nat) (h : (i : Int) ∈ al) : En.sent al ts (i + 1) = En.sent al ts i ++ [ts.getD i []] := by rw [En.sent, if_pos h]
theorem sent_no (al : List Int) (ts : List (List UInt8)) (i : Nat) (h : ¬ (i : Int) ∈ al) : En.sent al ts (i + 1) = En.sent al ts i := by rw [En.sent, if_neg h]
theorem kept_all {P : List UInt8 → Prop} (f : List UInt8 → List UInt8) (al : List Int) (ts : List (List UInt8)) (hf : ∀ t, P (f t)) : ∀ i, ∀ s ∈ En.kept f al ts i, P s
  | 0, s, h => by cases h
  | i + 1, s, h => by
    rw [En.kept] at h
    split at h
    · exact kept_all f al ts hf i s h
    · rcases List.mem_append.1 h with h | h
      · exact kept_all f al ts hf i s h
      · rw [List.mem_singleton.1 h]; exact hf _
theorem sent_all {P : List UInt8 → Prop} (al : List Int) (ts : List (List UInt8)) (hP : ∀ i, P (ts.getD i [])) : ∀ i, ∀ s ∈ En.sent al ts i, P s
  | 0, s, h => by cases h
  | i + 1, s, h => by
    rw [En.sent] at h
    split at h
    · rcases List.mem_append.1 h with h | h
      · exact sent_all al ts hP i s h
      · rw [List.mem_singleton.1 h]; exact hP _
    · exact sent_all al ts hP i s h
theorem txCells_dg {w : World} {g : Nat} {t : List UInt8} (h : Row w g (txCells t)) : w.rangeAt g 1 (w8 (Mk.twice t)) := fun j v hv => by
  rw [h.cell]
  unfold txCells
  rw [Nat.add_comm, List.getElem?_cons_succ]
  exact hv
theorem cls_out {S : World → Prop} {w : World} (h : Reg.cls S w) : S w := Reg.cls_iff.1 h
theorem sent_full (al : List Int) (ts : List (List UInt8)) (h : En.Rise ts.length 0 al) : (En.sent al ts ts.length).length = al.length := by
  rw [En.sent_length ts.length al ts h]
  have e : En.low' ts.length al = al := by
    unfold En.low'; rw [List.filter_eq_self]; intro x hx; have := En.rise_lt _ al 0 h x hx; simpa using this
  rw [e]
theorem enc_app {w11 w12 : World} {base C n m m2 : Nat} {o : Obj} {l xs ys ys2 : List Value} {tv tv2 sv : Value} {eS eT : TypeId} {zS zT : Nat} (hbase : base ≤ w11.heap.size) (hC : C < base) (hRC : Row w11 C l)
    (hos : w11.ownsRow base eS zS sv n xs) (hot : w11.ownsRow base eT zT tv m ys) (he : eS ≠ eT) (hown : w12.ownsRow base eT zT tv2 m2 ys2) (hgr : (w11.alloc o).grownBy w12 tv.ownBlock) :
    ∃ pa pc, tv2 = .slice pa m2 pc ∧ Row w12 C l ∧ w12.ownsRow base eS zS sv n xs ∧ Below base w11 w12 := by
  have hb : Below base w11 w12 := ((Below.refl base w11).alloc hbase _).grown hgr (by rw [World.size_alloc]; omega) (fun k hk => (hot.lt k hk).1)
  obtain ⟨pa, pc, h1⟩ := own_slice hown
  exact ⟨pa, pc, h1, hRC.below hb hC, (hos.alloc o).kept hgr (own_apart (hos.alloc o) (hot.alloc o) he), hb⟩
theorem built_Compact (s n : ByteArray) (a : Option Addr) (l c : Nat) : Tryd.prog.built 91 [(0, .string s), (1, .string n), (3, .slice a l c)] = some #[.string s, .string n, .slice none 0 0, .slice a l c, .slice none 0 0] := by kernel_rfl
theorem build_Compact {ops : Array Oper} {rest : List Oper} {o : Oper} {a : Act} {w : World} {Q : Exit → Act → World → Prop} (hgd : o.guard = none) (x y z : Operand) (ho : o.op = .build 91 #[(0, x), (1, y), (3, z)])
    (s n : List UInt8) (ad : Option Addr) (l c : Nat) (hx : a.eval x = .string (str s)) (hy : a.eval y = .string (str n)) (hz : a.eval z = .slice ad l c)
    (h : wpList Tryd.prog ops Q rest (a.put o.dst (.agg (cbCells s n (.slice none 0 0) (.slice ad l c) (.slice none 0 0)).toArray)) w) : wpList Tryd.prog ops Q (o :: rest) a w := by
  refine wpList_buildTo hgd 91 _ ho _ rfl _ ?_ h
  simp only [List.map_toArray, List.map_cons, List.map_nil, hx, hy, hz]
  exact built_Compact (str s) (str n) ad l c
def cb0 : List Value := [.string (str []), .string (str []), .slice none 0 0, .slice none 0 0, .slice none 0 0]
set_option maxHeartbeats 8000000 in
theorem encode_calls (blk : List UInt8) (nonce : UInt64) (av : Value) (al : List Int) (w : World) (hT : Tabs w) (hl1 : blk.length ≤ 9223372036854775807) (ha : IntsAt w av al) (hal : al.length ≤ 1048576) (hr64 : ∀ j, j < al.length → -9223372036854775808 ≤ al.getD j 0 ∧ al.getD j 0 ≤ 9223372036854775807) :
    Calls Tryd.prog 25 #[.string (str blk), .int .u64 (U nonce), av] w fun e w' => e = .returned (ansV (En.encode blk nonce al)) ∧ Below w.heap.size w w' := by
  have h1w := hT.lt
  have HT := Lib.hid hT
  have HA := Lib.hid ha
  have HR64 := Lib.hid hr64
  have T1 := Lib.hid (wreadBlock_calls blk w hT hl1)
  have ES := Lib.hid (show En.encode blk nonce al = match Wr.readBlock blk with
    | .bad e => ([], e)
    | .ok (h, txs) _ => if En.chk txs.length al ≠ 0 then ([], En.chk txs.length al) else
      (En.bytes h (Wr.low nonce.toNat 8) (En.kept (En.short h (Wr.low nonce.toNat 8)) al txs txs.length) al (En.sent al txs txs.length), 0) from rfl)
  obtain ⟨ans, hans⟩ : ∃ p, En.encode blk nonce al = p := ⟨_, rfl⟩
  rw [hans] at ES ⊢
  obtain ⟨aa, ac, rfl⟩ := ha.form
  clear hT hans ha hr64
  go_enter Tryd.func25, Tryd.ntmps25
  go_wp2_with fail
  refine T1.out.mono ?_
  clear T1
  cases hx : Wr.readBlock blk with
  | bad n =>
    rintro e w1 ⟨rfl, hb⟩
    rw [hx] at ES
    have hn := Rf.readBlk_pos hx
    have p1 : ¬ (n : Int) = 0 := by omega
    have r1 : Row (w1.alloc (.cells #[.string (str []), .slice none 0 0] 76)) w1.heap.size pr0 := Row.new w1 pr0 76
    have hB : Below w1.heap.size w1 (w1.alloc (.cells #[.string (str []), .slice none 0 0] 76)) := (Below.refl _ _).alloc (Nat.le_refl _) _
    have B1 := Lib.hid (hb.trans ((below_setRow hB (Nat.le_refl _) pr0.toArray).mono hb.size))
    clear hx hb hB hn
    go_wp2_with (with_reducible refine store_cells (o := ⟨none, _, _, _, _, _⟩) rfl _ _ _ rfl w1.heap.size pr0 pr0 rfl rfl r1 (info_Block.trans rfl) rfl (by decide +kernel) ?_)
    go_ret2
    exact ⟨by rw [show ans = ([], n) from ES.out]; rfl, B1.out⟩
  | ok a r =>
    obtain ⟨h, ts⟩ := a
    obtain ⟨hh80, hts1, hts16, htsS⟩ := Wr.blk_inv hx
    rintro e w1 ⟨bv, rfl, hob, hb⟩
    rw [hx] at ES
    dsimp only at hh80 hts1 hts16 htsS hob ES
    obtain ⟨gb, cb, rfl, hgb0, hgb, hTA⟩ := own_txs hob (by omega)
    have r1 : Row (w1.alloc (.cells #[.string (str []), .slice none 0 0] 76)) w1.heap.size pr0 := Row.new w1 pr0 76
    have hB : Below w1.heap.size w1 (w1.alloc (.cells #[.string (str []), .slice none 0 0] 76)) := (Below.refl _ _).alloc (Nat.le_refl _) _
    have B1' := below_setRow hB (Nat.le_refl _) (pr h (.slice (some ⟨gb, 0, none⟩) ts.length cb)).toArray
    have B1 := Lib.hid (hb.trans (B1'.mono hb.size))
    have R1 := Lib.hid (r1.setRow (pr h (.slice (some ⟨gb, 0, none⟩) ts.length cb)))
    have HTA := Lib.hid (hTA.below B1' hgb)
    have hz1 := hb.size
    have HS := Lib.hid htsS
    clear hx hb hB B1' hob htsS hTA
    go_upto_region 4 with (with_reducible refine store_cells (o := ⟨none, _, _, _, _, _⟩) rfl _ _ _ rfl w1.heap.size pr0 (pr h (.slice (some ⟨gb, 0, none⟩) ts.length cb)) rfl rfl r1 (info_Block.trans rfl) rfl (pr_one h rfl) ?_)
    clear r1
    generalize World.setRow _ _ _ = w2 at B1 R1 HTA ⊢
    obtain ⟨A, hA⟩ : ∃ A, w1.heap.size = A := ⟨_, rfl⟩
    rw [hA] at R1 hz1 hgb ⊢
    clear hA
    have hA2 := R1.out.lt
    have EP := Lib.hid (show En.chkFrom ts.length 0 al = En.chkFrom ts.length (En.last1 0 (al.take 0)) (al.drop 0) by simp [En.last1])
    have HA2 := Lib.hid (HA.out.below B1.out (Nat.le_refl _))
    have hcA := R1.out.cell 1
    rw [show (pr h (.slice (some ⟨gb, 0, none⟩) ts.length cb))[1]? = some (.slice (some ⟨gb, 0, none⟩) ts.length cb) from rfl] at hcA
    go_wp2_with fail
    go_loopw [10, 11, 28] (fun jv xv iv wr => ∃ i : Nat, i ≤ al.length ∧ iv = .int .i64 i ∧ En.chkFrom ts.length 0 al = En.chkFrom ts.length (En.last1 0 (al.take i)) (al.drop i) ∧ wr = w2) (fun _ _ iv _ => al.length - (intOf iv).toNat)
    case atStart => exact ⟨0, by omega, rfl, EP.out, rfl⟩
    case round =>
      clear EP
      obtain ⟨i, hi, rfl, hE, rfl⟩ := hrel
      by_cases hlt : i < al.length
      · have p1 : (i : Int) < (al.length : Int) := by omega
        have ST := chk_step ts.length al i hlt hE
        have LP := last_prev al i
        obtain ⟨b, o, hab, hbl, hcs⟩ := HA2.out.at (by omega)
        subst hab
        have hcx := hcs i hlt
        obtain ⟨x, hxe⟩ : ∃ x, al.getD i 0 = x := ⟨_, rfl⟩
        rw [hxe] at ST hcx
        by_cases c1 : x < 0 ∨ (ts.length : Int) ≤ x
        · rw [if_pos c1] at ST
          have ES3 := Lib.hid (show ans = ([], 4) by rw [ES.out, chk_eq, ST]; rfl)
          clear ST LP hcs hE hxe
          by_cases c2 : x < 0
          · clear c1
            go_wp2_with fail
            go_ret2
            exact ⟨by rw [ES3.out]; rfl, B1.out⟩
          · have c3 : x ≥ (ts.length : Int) := by omega
            clear c1
            go_wp2_with fail
            go_ret2
            exact ⟨by rw [ES3.out]; rfl, B1.out⟩
        · rw [if_neg c1] at ST
          have c2 : ¬ x < 0 := fun hh => c1 (.inl hh)
          have c3 : ¬ x ≥ (ts.length : Int) := fun hh => c1 (.inr hh)
          clear c1
          by_cases hi0 : 0 < i
          · have p2 : (i : Int) > 0 := by omega
            have LP2 := LP hi0 hi
            have hcp := hcs (i - 1) (by omega)
            have hir := HR64.out (i - 1) (by omega)
            have q1 : wrap64 ((i : Int) - 1) = ((i - 1 : Nat) : Int) := by unfold wrap64; omega
            have q1' : (i : Int) - 1 = ((i - 1 : Nat) : Int) := by omega
            have q3 : ((i - 1 : Nat) : Int) < (al.length : Int) := by omega
            obtain ⟨y, hye⟩ : ∃ y, al.getD (i - 1) 0 = y := ⟨_, rfl⟩
            rw [hye] at hcp LP2
            obtain ⟨k, hk⟩ : ∃ k, i - 1 = k := ⟨_, rfl⟩
            rw [hk] at hcp q1 q1' q3
            by_cases c4 : x ≤ y
            · rw [if_pos (by omega)] at ST
              have ES3 := Lib.hid (show ans = ([], 11) by rw [ES.out, chk_eq, ST]; rfl)
              clear ST LP LP2 hcs hE hxe hye hk hir
              go_wp2_with fail
              go_ret2
              exact ⟨by rw [ES3.out]; rfl, B1.out⟩
            · rw [if_neg (by omega)] at ST
              have ST2 := Lib.hid ST
              clear ST LP LP2 hcs hE hxe hye hk hir
              go_wp2_with fail
              go_roundw
              case rel => exact ⟨i + 1, by omega, by go_num, ST2.out, by first | trivial | rfl⟩
              case measure => simp [intOf]; omega
          · obtain rfl : i = 0 := by omega
            rw [if_neg (by show ¬ x < 0; exact c2)] at ST
            rw [Nat.add_zero] at hcx
            have ST2 := Lib.hid ST
            clear ST LP hcs hE hxe
            go_wp2_with fail
            go_roundw
            case rel => exact ⟨1, by omega, by go_num, ST2.out, by first | trivial | rfl⟩
            case measure => simp [intOf]; omega
      · obtain rfl : i = al.length := by omega
        have CF := Lib.hid (show En.chkFrom ts.length 0 al = 0 by rw [hE, List.drop_length]; rfl)
        have RI := Lib.hid (En.rise_of_chk ts.length al 0 CF.out)
        clear hE
        by_cases hz : al.length = 0
        · have ES3 := Lib.hid (show ans = ([], 11) by
            obtain rfl := List.eq_nil_of_length_eq_zero hz
            rw [ES.out]; rfl)
          clear hlt
          go_wp2_with fail
          go_ret2
          exact ⟨by rw [ES3.out]; rfl, B1.out⟩
        · obtain ⟨b, o, hab, hbl, hcs⟩ := HA2.out.at (by omega)
          subst hab
          have hc0 := hcs 0 (by omega)
          rw [Nat.add_zero] at hc0
          have HD := Lib.hid (show al.headD 1 = al.getD 0 0 by cases al with
            | nil => exact absurd rfl hz
            | cons y ys => rfl)
          have hl16 : al.length ≤ 16 := by
            rcases En.rise_len ts.length al 0 (by omega) RI.out with h1 | h1
            · omega
            · subst h1; simp
          obtain ⟨x0, hx0⟩ : ∃ x0, al.getD 0 0 = x0 := ⟨_, rfl⟩
          rw [hx0] at hc0 HD
          clear hx0 hcs
          have p0 : (0 : Int) < (al.length : Int) := by omega
          by_cases hxz : x0 = 0
          · subst hxz
            have ES3 := Lib.hid (show ans = (En.bytes h (Wr.low nonce.toNat 8) (En.kept (En.short h (Wr.low nonce.toNat 8)) al ts ts.length) al (En.sent al ts ts.length), 0) by
              have h0 : En.chk ts.length al = 0 := by rw [chk_eq, CF.out, if_neg (fun h => h rfl), HD.out, if_pos rfl]
              rw [ES.out, h0]; rfl)
            have hR : Row (wr.alloc (.cells (w8 [0, 0, 0, 0, 0, 0, 0, 0]).toArray 5)) wr.heap.size (w8 [0, 0, 0, 0, 0, 0, 0, 0]) := Row.new wr _ _
            have hB : Below wr.heap.size wr (wr.alloc (.cells (w8 [0, 0, 0, 0, 0, 0, 0, 0]).toArray 5)) := (Below.refl _ _).alloc (Nat.le_refl _) _
            have hmk := make8'
            clear ES CF HD hlt hcA
            go_wp2_with fail
            generalize wr.alloc _ = w3 at hR hB ⊢
            have H1 := Lib.hid hR
            have H2 := Lib.hid hB
            clear hR hB hmk hc0
            obtain ⟨w2, hw2⟩ : ∃ w2 : World, w2 = wr := ⟨_, rfl⟩
            rw [← hw2] at B1 R1 HTA HA2 hA2 hbl H1 H2 ⊢
            clear hw2
            go_loopw [13, 68] (fun jv iv wr => ∃ (i : Nat) (L : List UInt8), i ≤ 8 ∧ iv = .int .i64 i ∧ L.length = 8 ∧ Row wr w2.heap.size (w8 L) ∧ Below w2.heap.size w2 wr ∧ ∀ j, j < i → nth L j = nth (Wr.low nonce.toNat 8) j) (fun _ iv _ => 8 - (intOf iv).toNat)
            case atStart => exact ⟨0, [0, 0, 0, 0, 0, 0, 0, 0], by omega, rfl, rfl, H1.out, H2.out, fun j hj => by omega⟩
            case round =>
              clear H1 H2
              obtain ⟨i, L, hi, rfl, hL, hR, hB, hj⟩ := hrel
              by_cases hlt : i < 8
              · have p1 : (i : Int) < 8 := by omega
                have h8 : 0 ≤ 8 * (i : Int) := by omega
                have e1 := low_byte' nonce i
                have e2 := Wr.low_get nonce.toNat 8 i hlt
                have hc0 := hR.cell i
                rw [w8_get L i (by omega)] at hc0
                have hz := hR.free i
                obtain ⟨y, hy⟩ : ∃ y, (shr nonce (8 * i)).toUInt8 = y := ⟨_, rfl⟩
                rw [hy] at e1
                rw [← e1] at e2
                have S1 := Lib.hid (show Row (wr.setCell ⟨w2.heap.size, i, none⟩ (.int .u8 (Y y))) w2.heap.size (w8 (L.set i y)) from by rw [← w8_set]; exact hR.set i _)
                have S2 := Lib.hid (show Below w2.heap.size w2 (wr.setCell ⟨w2.heap.size, i, none⟩ (.int .u8 (Y y))) from hB.setCell (Nat.le_refl _) _)
                have S3 := Lib.hid (show ∀ j, j < i + 1 → nth (L.set i y) j = nth (Wr.low nonce.toNat 8) j from fun j hj' => by
                  rw [nth_set L i j y (by omega)]
                  split
                  · rename_i h; subst h; rw [e2]
                  · exact hj j (by omega))
                subst hy
                clear hR hB hj e2 e1
                go_wp2_with fail
                go_roundw
                case rel => exact ⟨i + 1, L.set i _, by omega, by go_num, by rw [List.length_set]; exact hL, S1.out, S2.out, S3.out⟩
                case measure => simp [intOf]; omega
              · obtain rfl : i = 8 := by omega
                have hbt := hR.bytes
                have e := low_ext L nonce.toNat 8 hL hj
                subst e
                have hn8 := Wr.low_length nonce.toNat 8
                obtain ⟨nb, hnb⟩ : ∃ nb, Wr.low nonce.toNat 8 = nb := ⟨_, rfl⟩
                rw [hnb] at hbt hn8 ES3
                have B4 := Lib.hid (B1.out.trans (hB.mono (by have := B1.out.size; omega)))
                have hz24 := hB.size
                have R4 := Lib.hid (R1.out.below hB hA2)
                have TA4 := Lib.hid (HTA.out.below hB (by omega : gb < w2.heap.size))
                have A4 := Lib.hid (HA2.out.below hB (Nat.le_refl _))
                have hcA0 := R4.out.cell 0
                rw [show (pr h (.slice (some ⟨gb, 0, none⟩) ts.length cb))[0]? = some (.string (str h)) from rfl] at hcA0
                have d1 : Row (wr.alloc (.cells cb0.toArray 91)) wr.heap.size cb0 := Row.new wr cb0 _
                have dB := below_setRow ((Below.refl wr.heap.size wr).alloc (Nat.le_refl _) (.cells cb0.toArray 91)) (Nat.le_refl _) (cbCells h nb (.slice none 0 0) (.slice (some ⟨b, o, none⟩) al.length ac) (.slice none 0 0)).toArray
                have RC := Lib.hid (d1.setRow (cbCells h nb (.slice none 0 0) (.slice (some ⟨b, o, none⟩) al.length ac) (.slice none 0 0)))
                have BC := Lib.hid dB
                rw [show cb0.toArray = #[Value.string (str []), .string (str []), .slice none 0 0, .slice none 0 0, .slice none 0 0] from rfl] at d1 RC BC
                clear hB hR hj hL dB hnb
                go_upto_region 21 with (first | (with_reducible refine conv_arm (o := ⟨some 83, _, _, _, _, _⟩) rfl _ _ _ _ rfl w2.heap.size 0 8 8 nb hn8 rfl Tryd.underlying36 Tryd.underlying5 Tryd.underlying9 hbt ?_) | (refine build_Compact (o := ⟨some 85, _, _, _, _, _⟩) rfl _ _ _ rfl h nb (some ⟨b, o, none⟩) al.length ac rfl rfl rfl ?_) | (with_reducible refine store_cells (o := ⟨none, _, _, _, _, _⟩) rfl _ _ _ rfl wr.heap.size cb0 (cbCells h nb (.slice none 0 0) (.slice (some ⟨b, o, none⟩) al.length ac) (.slice none 0 0)) rfl rfl d1 (info_Compact.trans rfl) rfl rfl ?_))
                clear d1 hbt hcA0 HTA R1 HA2
                generalize World.setRow _ _ _ = w5 at RC BC ⊢
                obtain ⟨C, hC⟩ : ∃ C, wr.heap.size = C := ⟨_, rfl⟩
                rw [hC] at RC BC ⊢
                have hC5 := RC.out.lt
                have B5 := Lib.hid (B4.out.trans (BC.out.mono (by have := B4.out.size; omega)))
                have R5 := Lib.hid (R4.out.below BC.out (by omega))
                have TA5 := Lib.hid (TA4.out.below BC.out (by omega : gb < C))
                have A5 := Lib.hid (A4.out.below BC.out (by omega))
                clear B4 R4 TA4 A4 BC
                have hcA0 := R5.out.cell 0
                rw [show (pr h (.slice (some ⟨gb, 0, none⟩) ts.length cb))[0]? = some (.string (str h)) from rfl] at hcA0
                have hcC1 := RC.out.cell 1
                rw [show (cbCells h nb (.slice none 0 0) (.slice (some ⟨b, o, none⟩) al.length ac) (.slice none 0 0))[1]? = some (.string (str nb)) from rfl] at hcC1
                have T5 := Lib.hid (keyOf_calls h nb w5 (HT.out.below B5.out h1w) (by omega))
                go_wp2_with fail
                refine T5.out.mono ?_
                clear T5 hcA0 hcC1
                rintro e w6 ⟨rfl, hb⟩
                have hz6 := hb.size
                obtain ⟨kd, hkd⟩ : ∃ kd, Sha.sum (h ++ nb) = kd := ⟨_, rfl⟩
                rw [hkd]
                have FE := Lib.hid (show ∀ t, En.short h nb t = En.six (Sip.sip (En.key0 kd) (En.key1 kd) (Mk.twice t)) from fun t => by rw [← hkd]; rfl)
                clear hkd
                have k1 : Row (w6.alloc (.cells #[.int .u64 0, .int .u64 0] 93)) w6.heap.size [.int .u64 0, .int .u64 0] := Row.new w6 [.int .u64 0, .int .u64 0] _
                have kB := below_setRow ((Below.refl w6.heap.size w6).alloc (Nat.le_refl _) (.cells #[.int .u64 0, .int .u64 0] 93)) (Nat.le_refl _) (keyCells kd).toArray
                have RK := Lib.hid (k1.setRow (keyCells kd))
                have bb := hb.trans (kB.mono hz6)
                have B7 := Lib.hid (B5.out.trans (bb.mono (by have := B5.out.size; omega)))
                have RC7 := Lib.hid (RC.out.below bb hC5)
                have R7 := Lib.hid (R5.out.below bb (by omega))
                have TA7 := Lib.hid (TA5.out.below bb (by omega : gb < w5.heap.size))
                have A7 := Lib.hid (A5.out.below bb (Nat.le_refl _))
                clear hb kB bb B5 RC R5 TA5 A5
                go_upto_region 22 with (with_reducible refine store_cells (o := ⟨none, _, _, _, _, _⟩) rfl _ _ _ rfl w6.heap.size [.int .u64 0, .int .u64 0] (keyCells kd) rfl rfl k1 (info_key.trans rfl) rfl rfl ?_)
                clear k1
                generalize World.setRow _ _ _ = w7 at RK B7 RC7 R7 TA7 A7 ⊢
                obtain ⟨K, hK⟩ : ∃ K, w6.heap.size = K := ⟨_, rfl⟩
                rw [hK] at RK ⊢
                have hK7 := RK.out.lt
                have hcA1 := R7.out.cell 1
                rw [show (pr h (.slice (some ⟨gb, 0, none⟩) ts.length cb))[1]? = some (.slice (some ⟨gb, 0, none⟩) ts.length cb) from rfl] at hcA1
                go_wp2_with fail
                clear hcA1
                go_loopw [16, 94] (fun jv iv wq => ∃ (i : Nat) (sv tv : Value), i ≤ ts.length ∧ iv = .int .i64 i ∧ Row wq C (cbCells h nb sv (.slice (some ⟨b, o, none⟩) al.length ac) tv) ∧ wq.ownsRow w7.heap.size 9 1 sv (En.kept (En.short h nb) al ts i).length (wt (En.kept (En.short h nb) al ts i)) ∧ wq.ownsRow w7.heap.size 66 33 tv (En.sent al ts i).length (txsCells (En.sent al ts i)) ∧ But w7.heap.size C w7 wq) (fun _ iv _ => ts.length - (intOf iv).toNat)
                case atStart => exact ⟨0, .slice none 0 0, .slice none 0 0, by omega, rfl, RC7.out, World.ownsRow_nil _ _ _ _, World.ownsRow_nil _ _ _ _, But.refl _ _ _⟩
                case round =>
                  obtain ⟨i0, hi0, hz0i, hz1i, hz2i⟩ := info_parts infoTx3
                  obtain ⟨i1, hi1, hs0, hs1, hs2⟩ := info_parts infoStr
                  have HI := Lib.hid hi0
                  have HI1 := Lib.hid hi1
                  clear hi0 hi1
                  obtain ⟨i, sv, tv, hi, rfl, hRC, hos, hot, hN⟩ := hrel
                  have hzr := hN.size
                  have hC7 : C < w7.heap.size := by omega
                  have hgC : gb < C := by omega
                  have hkl := kept_len (En.short h nb) al ts i
                  have hsl := sent_len al ts i
                  by_cases hlt : i < ts.length
                  · have p1 : (i : Int) < (ts.length : Int) := by omega
                    have htl : (ts.getD i []).length ≤ 610 := HS.out _ (by rw [List.getD_eq_getElem?_getD, List.getElem?_eq_getElem hlt]; exact List.getElem_mem hlt)
                    have hra : wr.rangeAt gb (33 * i) (txCells (ts.getD i [])) := rangeAt_of_block (TA7.out i hlt) (hN.block gb (by omega) (by omega))
                    have KY := fun c => Lib.hid (kept_yes (En.short h nb) al ts i c)
                    have KNo := fun c => Lib.hid (kept_no (En.short h nb) al ts i c)
                    have SY := fun c => Lib.hid (sent_yes al ts i c)
                    have SNo := fun c => Lib.hid (sent_no al ts i c)
                    obtain ⟨t, hte⟩ : ∃ t, ts.getD i [] = t := ⟨_, rfl⟩
                    rw [hte] at htl hra KNo SY
                    rw [FE.out t] at KNo
                    rw [Nat.mul_comm] at hra
                    have hAw : IntsAt wr (.slice (some ⟨b, o, none⟩) al.length ac) al := by
                      obtain ⟨b', o', hb', hlt', hc'⟩ := A7.out.at (by omega)
                      cases hb'
                      exact .inr ⟨b, o, ac, rfl, by omega, fun j hj => (World.cell?_of_block (w := w7) (hN.block b (by omega) (by omega))).trans (hc' j hj)⟩
                    have r1 : Row (wr.alloc (.cells tx0.toArray 66)) wr.heap.size tx0 := Row.new wr tx0 66
                    have bw := below_setRow ((Below.refl wr.heap.size wr).alloc (Nat.le_refl _) (.cells tx0.toArray 66)) (Nat.le_refl _) (txCells t).toArray
                    have RT10 := Lib.hid (r1.setRow (txCells t))
                    have RC10 := Lib.hid (hRC.below bw (by omega))
                    have O10 := Lib.hid (ownN_below hos bw (Nat.le_refl _))
                    have OT10 := Lib.hid (ownN_below hot bw (Nat.le_refl _))
                    have RK10 := Lib.hid ((hN.row RK.out hK7 (by omega)).below bw (by omega))
                    have N10 := Lib.hid (hN.trans (But.of_below (S := C) (bw.mono hzr)))
                    have A10 := Lib.hid (hAw.below bw (Nat.le_refl _))
                    have hsT : sv.ownBlock ≠ some wr.heap.size := fun hh => by have := (hos.lt _ hh).2; omega
                    have hz10 := bw.size
                    have hT10 := RT10.out.lt
                    rw [Tryd.zeroTx] at r1 bw RT10 RC10 O10 OT10 RK10 N10 A10 hz10 hT10
                    clear hRC hos hot hN hAw bw hte
                    go_wp2_with (first | (refine load_txat (o := ⟨some 98, _, _, _, _, _⟩) rfl _ rfl gb (i * 33) t rfl hra ?_) | (with_reducible refine store_cells (o := ⟨none, _, _, _, _, _⟩) rfl _ _ _ rfl wr.heap.size tx0 (txCells t) rfl rfl r1 (infoTx.trans (by rw [txCells_len])) (by rw [txCells_len, tx0_len]) (txCells_one t) ?_))
                    clear r1 hra
                    generalize World.setRow _ _ _ = w10 at RT10 RC10 O10 OT10 RK10 N10 A10 hz10 hT10 ⊢
                    obtain ⟨T, hTe⟩ : ∃ T, wr.heap.size = T := ⟨_, rfl⟩
                    rw [hTe] at RT10 hsT hT10 hzr ⊢
                    refine (contains_calls _ al i w10 A10.out (by omega)).mono ?_
                    rintro e w11 ⟨rfl, rfl⟩
                    have hbase : w7.heap.size ≤ w11.heap.size := by omega
                    by_cases hm : (i : Int) ∈ al
                    · rw [decide_eq_true hm]
                      have KN := KY hm
                      have SN := SY hm
                      clear KY KNo SY SNo
                      have hrT := RT10.out
                      have hcC4 := RC10.out.cell 4
                      rw [show (cbCells h nb sv (.slice (some ⟨b, o, none⟩) al.length ac) tv)[4]? = some tv from rfl] at hcC4
                      have L1 := Lib.hid (show ∀ (j : Nat) (u : Value), (txCells t)[j]? = some u → (w11.alloc (.cells (txCells t).toArray 66)).cell? (Addr.add ⟨w11.heap.size, 0, none⟩ j) = some u from fun j u hu => by rw [Addr.add_lit, Nat.zero_add, (Row.new w11 _ _).cell]; exact hu)
                      go_wp2_with (first | (refine load_cells (o := ⟨some 104, _, _, _, _, _⟩) rfl _ _ rfl T (txCells t) rfl hrT _ Tryd.underlying66 (infoTx.trans (by rw [txCells_len])) _ rfl ?_) | (refine build_tx1 (o := ⟨some 105, _, _, _, _, _⟩) rfl _ rfl t rfl ?_) | (at_builtin; refine wpList_append_own _ rfl _ _ 74 rfl w7.heap.size 66 i0 (.agg tx0.toArray) 33 48 Tryd.underlying74 HI.out hz0i hz1i hz2i (by rw [Value.cells, List.size_toArray, tx0_len]) (by decide) _ _ _ rfl (OT10.out.alloc _) ⟨w11.heap.size, 0, none⟩ 1 1 (txCells t) rfl (by rw [txCells_len]) L1.out (fun u hu => List.all_eq_true.1 (txCells_one t) u hu) (by unfold maxLen; omega) (by omega) (by rw [World.size_alloc]; omega) ?_; intro tv2 w12 hown12 hgr12 _; obtain ⟨pa, pc, rfl, RC12, OS12', hb12⟩ := enc_app hbase hC7 RC10.out O10.out OT10.out (by decide) hown12 hgr12; have hz12 := RC12.free 4; have hc12 := RC12.cell 4; have OS12 := Lib.hid OS12'; have H1 := Lib.hid hown12; have H2 := Lib.hid hb12; have H3 := Lib.hid RC12; clear hown12 hgr12 hb12 RC12 OS12'))
                      go_roundw
                      case rel => exact ⟨i + 1, sv, _, by omega, by go_num, H3.out.set 4 _, by rw [KN.out]; exact ownN_cell (a := ⟨C, 4, none⟩) OS12.out _ hC7, by rw [SN.out, List.length_append, ← txsCells_snoc]; exact ownN_cell (a := ⟨C, 4, none⟩) H1.out _ hC7, (N10.out.trans (But.of_below H2.out)).setOwn 4 _⟩
                      case measure => simp [intOf]; omega
                    · rw [decide_eq_false hm]
                      have KN := KNo hm
                      have SN := SNo hm
                      clear KY KNo SY SNo
                      go_upto_region 27 with fail
                      haveI hne : Nonempty (Reg.Of (fun u => Row u K (keyCells kd) ∧ Row u T (txCells t))) := ⟨⟨w11, RK10.out, RT10.out⟩⟩
                      refine Reg.startL [0, 2, 3, 4] 6 mixed (by kernel_rfl) rfl rfl (fun c a d v w h => by cases d <;> exact h) (by as_aux_lemma => kernel_rfl) rfl (fun u => Row u K (keyCells kd) ∧ Row u T (txCells t)) ⟨RK10.out.drew, RT10.out.drew⟩ ?_
                      show wpQuiet _ _ _ _ [_, _, _, _] _
                      go_big_quiet_step (fail)
                      refine wpQuiet_loadc (o := ⟨some 110, _, _, _, _, _⟩) rfl _ _ rfl K (keyCells kd) rfl (fun w hw => by obtain ⟨u, rfl⟩ := hw; exact u.h.1) _ Tryd.underlying93 (info_key.trans rfl) _ rfl ?_
                      go_frame
                      go_big_quiet_step (fail)
                      refine wpQuiet_load (o := ⟨some 112, _, _, _, _, _⟩) rfl _ rfl T 1 (Mk.twice t) (twice32 t) rfl (fun w hw => by obtain ⟨u, rfl⟩ := hw; exact txCells_dg u.h.2) ?_
                      go_frame
                      refine wpQuiet_nil ?_
                      obtain ⟨y, hy⟩ : ∃ y, En.six (Sip.sip (En.key0 kd) (En.key1 kd) (Mk.twice t)) = y := ⟨_, rfl⟩
                      have PS := Lib.hid (pshort_calls kd (Mk.twice t) w11.drew (twice32 t))
                      rw [hy] at PS KN
                      have hyl : y.length = 6 := by rw [← hy]; exact Wr.low_length _ _
                      have RT11 := Lib.hid RT10.out.drew
                      have RK11 := Lib.hid RK10.out.drew
                      have RC11 := Lib.hid RC10.out.drew
                      have N11 := Lib.hid N10.out.drew
                      have O11 := Lib.hid (show w11.drew.ownsRow w7.heap.size 9 1 sv _ _ from O10.out)
                      have OT11 := Lib.hid (show w11.drew.ownsRow w7.heap.size 66 33 tv _ _ from OT10.out)
                      have hz11 : w7.heap.size ≤ w11.drew.heap.size := hbase
                      have hT11 : T < w11.drew.heap.size := hT10
                      have hC11 : C < w11.drew.heap.size := by omega
                      have hK11 : K < w11.drew.heap.size := by omega
                      have hcC2d := RC11.out.cell 2
                      rw [show (cbCells h nb sv (.slice (some ⟨b, o, none⟩) al.length ac) tv)[2]? = some sv from rfl] at hcC2d
                      have S11 : Reg.cls (fun u => Row u K (keyCells kd) ∧ Row u T (txCells t)) w11.drew := Reg.cls_mk ⟨RK11.out, RT11.out⟩
                      have hTw7 : w7.heap.size ≤ T := by omega
                      clear RT10 RK10 RC10 N10 O10 OT10 A10 hbase hT10 hz10 hy
                      generalize w11.drew = w11d at PS RT11 RK11 RC11 N11 O11 OT11 hz11 hT11 hC11 hK11 hcC2d S11 ⊢
                      refine Reg.two 1 5 _ _ (by kernel_rfl) rfl rfl rfl rfl ?_ ?_
                      · try go_frame
                        go_wp2_with fail
                        refine ⟨S11, ?_⟩
                        refine Reg.one 5 _ (by kernel_rfl) rfl rfl ?_
                        try go_frame
                        go_wp2_with fail
                        refine PS.out.mono ?_
                        rintro e w12 ⟨rfl, hbs⟩
                        have O12 := Lib.hid (ownN_below O11.out hbs (Nat.le_refl _))
                        have OT12 := Lib.hid (ownN_below OT11.out hbs (Nat.le_refl _))
                        have RC12 := Lib.hid (RC11.out.below hbs hC11)
                        have RK12 := Lib.hid (RK11.out.below hbs hK11)
                        have RT12 := Lib.hid (RT11.out.below hbs hT11)
                        have N12 := Lib.hid (N11.out.trans (But.of_below (hbs.mono hz11)))
                        have hz12 : w7.heap.size ≤ w12.heap.size := Nat.le_trans hz11 hbs.size
                        have hcC2 := RC12.out.cell 2
                        rw [show (cbCells h nb sv (.slice (some ⟨b, o, none⟩) al.length ac) tv)[2]? = some sv from rfl] at hcC2
                        have hcC2a := (RC12.out.alloc (.cells #[.string (str y)] 9)).cell 2
                        rw [show (cbCells h nb sv (.slice (some ⟨b, o, none⟩) al.length ac) tv)[2]? = some sv from rfl] at hcC2a
                        have S12 : Reg.cls (fun u => Row u K (keyCells kd) ∧ Row u T (txCells t)) w12 := Reg.cls_mk ⟨RK12.out, RT12.out⟩
                        have S12a : Reg.cls (fun u => Row u K (keyCells kd) ∧ Row u T (txCells t)) (w12.alloc (.cells #[.string (str y)] 9)) := Reg.cls_mk ⟨RK12.out.alloc _, RT12.out.alloc _⟩
                        go_wp2_with fail
                        refine ⟨S12, ?_⟩
                        refine Reg.one 6 _ (by kernel_rfl) rfl rfl ?_
                        try go_frame
                        go_wp2_with fail
                        refine ⟨S12a, ?_⟩
                        refine Reg.one 7 _ (by kernel_rfl) rfl rfl ?_
                        refine wpList_append_own _ rfl _ _ 26 rfl w7.heap.size 9 i1 (.string ByteArray.empty) 1 16 Tryd.underlying26 HI1.out hs0 hs1 hs2 rfl (by decide) _ _ _ rfl (O12.out.alloc _) ⟨w12.heap.size, 0, none⟩ 1 1 [.string (str y)] rfl rfl (cell_one_new _ _ _) (wt_one [y]) (by unfold maxLen; omega) (by omega) (by rw [World.size_alloc]; omega) ?_
                        intro sv2 w13 hown13 hgr13 _
                        obtain ⟨pa, pc, rfl, RC13, OT13, hb13⟩ := enc_app hz12 hC7 RC12.out OT12.out O12.out (by decide) hown13 hgr13
                        have S13 : Row w13 K (keyCells kd) ∧ Row w13 T (txCells t) := ⟨RK12.out.below hb13 hK7, (RT12.out.alloc _).grown hgr13 hsT⟩
                        refine ⟨Reg.cls_mk S13, ?_⟩
                        refine Reg.one 8 _ (by kernel_rfl) rfl rfl ?_
                        try go_frame
                        go_wp2_with fail
                        refine ⟨Reg.cls_mk S13, ?_⟩
                        refine Reg.one 9 _ (by kernel_rfl) rfl rfl ?_
                        have hz13 := RC13.free 2
                        have hc13 := RC13.cell 2
                        have R14 := Lib.hid (RC13.set 2 (.slice pa ((En.kept (En.short h nb) al ts i).length + 1) pc))
                        have O14 := Lib.hid (ownN_cell (a := ⟨C, 2, none⟩) hown13 (.slice pa ((En.kept (En.short h nb) al ts i).length + 1) pc) hC7)
                        have OT14 := Lib.hid (ownN_cell (a := ⟨C, 2, none⟩) OT13 (.slice pa ((En.kept (En.short h nb) al ts i).length + 1) pc) hC7)
                        have N14 := Lib.hid ((N12.out.trans (But.of_below hb13)).setOwn 2 (.slice pa ((En.kept (En.short h nb) al ts i).length + 1) pc))
                        have S14 : Reg.cls (fun u => Row u K (keyCells kd) ∧ Row u T (txCells t)) (w13.setCell ⟨C, 2, none⟩ (.slice pa ((En.kept (En.short h nb) al ts i).length + 1) pc)) := Reg.cls_mk ⟨S13.1.other (show C ≠ K by omega) _, S13.2.other (show C ≠ T by omega) _⟩
                        clear hown13 hgr13 hb13 S13 OT13 RC13
                        try go_frame
                        go_wp2_with fail
                        refine ⟨S14, ?_⟩
                        refine wpAnyH_done (by kernel_rfl) ?_ 0
                        go_wp2_with fail
                        go_roundw
                        case rel => exact ⟨i + 1, _, tv, by omega, by go_num, R14.out, by rw [KN.out, List.length_append, ← wt_snoc]; exact O14.out, by rw [SN.out]; exact OT14.out, N14.out⟩
                        case measure => simp [intOf]; omega
                      · try go_frame
                        go_wp2_with fail
                        refine PS.out.mono ?_
                        rintro e w12 ⟨rfl, hbs⟩
                        have O12 := Lib.hid (ownN_below O11.out hbs (Nat.le_refl _))
                        have OT12 := Lib.hid (ownN_below OT11.out hbs (Nat.le_refl _))
                        have RC12 := Lib.hid (RC11.out.below hbs hC11)
                        have RK12 := Lib.hid (RK11.out.below hbs hK11)
                        have RT12 := Lib.hid (RT11.out.below hbs hT11)
                        have N12 := Lib.hid (N11.out.trans (But.of_below (hbs.mono hz11)))
                        have hz12 : w7.heap.size ≤ w12.heap.size := Nat.le_trans hz11 hbs.size
                        have hcC2 := RC12.out.cell 2
                        rw [show (cbCells h nb sv (.slice (some ⟨b, o, none⟩) al.length ac) tv)[2]? = some sv from rfl] at hcC2
                        have hcC2a := (RC12.out.alloc (.cells #[.string (str y)] 9)).cell 2
                        rw [show (cbCells h nb sv (.slice (some ⟨b, o, none⟩) al.length ac) tv)[2]? = some sv from rfl] at hcC2a
                        have S12 : Reg.cls (fun u => Row u K (keyCells kd) ∧ Row u T (txCells t)) w12 := Reg.cls_mk ⟨RK12.out, RT12.out⟩
                        have S12a : Reg.cls (fun u => Row u K (keyCells kd) ∧ Row u T (txCells t)) (w12.alloc (.cells #[.string (str y)] 9)) := Reg.cls_mk ⟨RK12.out.alloc _, RT12.out.alloc _⟩
                        go_wp2_with fail
                        refine ⟨S12, ?_⟩
                        refine Reg.two 1 6 _ _ (by kernel_rfl) rfl rfl rfl rfl ?_ ?_
                        · try go_frame
                          go_wp2_with fail
                          refine ⟨S12, ?_⟩
                          refine Reg.one 6 _ (by kernel_rfl) rfl rfl ?_
                          try go_frame
                          go_wp2_with fail
                          refine ⟨S12a, ?_⟩
                          refine Reg.one 7 _ (by kernel_rfl) rfl rfl ?_
                          refine wpList_append_own _ rfl _ _ 26 rfl w7.heap.size 9 i1 (.string ByteArray.empty) 1 16 Tryd.underlying26 HI1.out hs0 hs1 hs2 rfl (by decide) _ _ _ rfl (O12.out.alloc _) ⟨w12.heap.size, 0, none⟩ 1 1 [.string (str y)] rfl rfl (cell_one_new _ _ _) (wt_one [y]) (by unfold maxLen; omega) (by omega) (by rw [World.size_alloc]; omega) ?_
                          intro sv2 w13 hown13 hgr13 _
                          obtain ⟨pa, pc, rfl, RC13, OT13, hb13⟩ := enc_app hz12 hC7 RC12.out OT12.out O12.out (by decide) hown13 hgr13
                          have S13 : Row w13 K (keyCells kd) ∧ Row w13 T (txCells t) := ⟨RK12.out.below hb13 hK7, (RT12.out.alloc _).grown hgr13 hsT⟩
                          refine ⟨Reg.cls_mk S13, ?_⟩
                          refine Reg.one 8 _ (by kernel_rfl) rfl rfl ?_
                          try go_frame
                          go_wp2_with fail
                          refine ⟨Reg.cls_mk S13, ?_⟩
                          refine Reg.one 9 _ (by kernel_rfl) rfl rfl ?_
                          have hz13 := RC13.free 2
                          have hc13 := RC13.cell 2
                          have R14 := Lib.hid (RC13.set 2 (.slice pa ((En.kept (En.short h nb) al ts i).length + 1) pc))
                          have O14 := Lib.hid (ownN_cell (a := ⟨C, 2, none⟩) hown13 (.slice pa ((En.kept (En.short h nb) al ts i).length + 1) pc) hC7)
                          have OT14 := Lib.hid (ownN_cell (a := ⟨C, 2, none⟩) OT13 (.slice pa ((En.kept (En.short h nb) al ts i).length + 1) pc) hC7)
                          have N14 := Lib.hid ((N12.out.trans (But.of_below hb13)).setOwn 2 (.slice pa ((En.kept (En.short h nb) al ts i).length + 1) pc))
                          have S14 : Reg.cls (fun u => Row u K (keyCells kd) ∧ Row u T (txCells t)) (w13.setCell ⟨C, 2, none⟩ (.slice pa ((En.kept (En.short h nb) al ts i).length + 1) pc)) := Reg.cls_mk ⟨S13.1.other (show C ≠ K by omega) _, S13.2.other (show C ≠ T by omega) _⟩
                          clear hown13 hgr13 hb13 S13 OT13 RC13
                          try go_frame
                          go_wp2_with fail
                          refine ⟨S14, ?_⟩
                          refine wpAnyH_done (by kernel_rfl) ?_ 0
                          go_wp2_with fail
                          go_roundw
                          case rel => exact ⟨i + 1, _, tv, by omega, by go_num, R14.out, by rw [KN.out, List.length_append, ← wt_snoc]; exact O14.out, by rw [SN.out]; exact OT14.out, N14.out⟩
                          case measure => simp [intOf]; omega
                        · try go_frame
                          go_wp2_with fail
                          refine ⟨S12a, ?_⟩
                          refine Reg.one 1 _ (by kernel_rfl) rfl rfl ?_
                          try go_frame
                          go_wp2_with fail
                          refine ⟨S12a, ?_⟩
                          refine Reg.one 7 _ (by kernel_rfl) rfl rfl ?_
                          refine wpList_append_own _ rfl _ _ 26 rfl w7.heap.size 9 i1 (.string ByteArray.empty) 1 16 Tryd.underlying26 HI1.out hs0 hs1 hs2 rfl (by decide) _ _ _ rfl (O12.out.alloc _) ⟨w12.heap.size, 0, none⟩ 1 1 [.string (str y)] rfl rfl (cell_one_new _ _ _) (wt_one [y]) (by unfold maxLen; omega) (by omega) (by rw [World.size_alloc]; omega) ?_
                          intro sv2 w13 hown13 hgr13 _
                          obtain ⟨pa, pc, rfl, RC13, OT13, hb13⟩ := enc_app hz12 hC7 RC12.out OT12.out O12.out (by decide) hown13 hgr13
                          have S13 : Row w13 K (keyCells kd) ∧ Row w13 T (txCells t) := ⟨RK12.out.below hb13 hK7, (RT12.out.alloc _).grown hgr13 hsT⟩
                          refine ⟨Reg.cls_mk S13, ?_⟩
                          refine Reg.one 8 _ (by kernel_rfl) rfl rfl ?_
                          try go_frame
                          go_wp2_with fail
                          refine ⟨Reg.cls_mk S13, ?_⟩
                          refine Reg.one 9 _ (by kernel_rfl) rfl rfl ?_
                          have hz13 := RC13.free 2
                          have hc13 := RC13.cell 2
                          have R14 := Lib.hid (RC13.set 2 (.slice pa ((En.kept (En.short h nb) al ts i).length + 1) pc))
                          have O14 := Lib.hid (ownN_cell (a := ⟨C, 2, none⟩) hown13 (.slice pa ((En.kept (En.short h nb) al ts i).length + 1) pc) hC7)
                          have OT14 := Lib.hid (ownN_cell (a := ⟨C, 2, none⟩) OT13 (.slice pa ((En.kept (En.short h nb) al ts i).length + 1) pc) hC7)
                          have N14 := Lib.hid ((N12.out.trans (But.of_below hb13)).setOwn 2 (.slice pa ((En.kept (En.short h nb) al ts i).length + 1) pc))
                          have S14 : Reg.cls (fun u => Row u K (keyCells kd) ∧ Row u T (txCells t)) (w13.setCell ⟨C, 2, none⟩ (.slice pa ((En.kept (En.short h nb) al ts i).length + 1) pc)) := Reg.cls_mk ⟨S13.1.other (show C ≠ K by omega) _, S13.2.other (show C ≠ T by omega) _⟩
                          clear hown13 hgr13 hb13 S13 OT13 RC13
                          try go_frame
                          go_wp2_with fail
                          refine ⟨S14, ?_⟩
                          refine wpAnyH_done (by kernel_rfl) ?_ 0
                          go_wp2_with fail
                          go_roundw
                          case rel => exact ⟨i + 1, _, tv, by omega, by go_num, R14.out, by rw [KN.out, List.length_append, ← wt_snoc]; exact O14.out, by rw [SN.out]; exact OT14.out, N14.out⟩
                          case measure => simp [intOf]; omega
                  · obtain rfl : i = ts.length := by omega
                    have CB := Lib.hid (compactBytes_calls h nb sv (.slice (some ⟨b, o, none⟩) al.length ac) tv (En.kept (En.short h nb) al ts ts.length) (En.sent al ts ts.length) al w7.heap.size ts.length wr hos (by
                      obtain ⟨b', o', hb', hlt', hc'⟩ := A7.out.at (by omega)
                      cases hb'
                      exact .inr ⟨b, o, ac, rfl, by omega, fun j hj => (World.cell?_of_block (w := w7) (hN.block b (by omega) (by omega))).trans (hc' j hj)⟩) hot RI.out hts16 hl16 (sent_full al ts RI.out) (by omega) (kept_all _ al ts (fun t => by show (En.six _).length ≤ 610; unfold En.six; rw [Wr.low_length]; omega) _) (sent_all al ts (fun j => by
                        by_cases hj : j < ts.length
                        · exact HS.out _ (by rw [List.getD_eq_getElem?_getD, List.getElem?_eq_getElem hj]; exact List.getElem_mem hj)
                        · rw [List.getD_eq_getElem?_getD, List.getElem?_eq_none (by omega)]; simp) _) (by omega) (by omega))
                    have N2 := Lib.hid (B7.out.trans ⟨hN.os, hN.tape, hN.output, hN.size, fun k hk => hN.block k (by have := B7.out.size; omega) (by have := B1.out.size; omega)⟩)
                    clear hos hot hN
                    obtain ⟨res, hres⟩ : ∃ res, En.bytes h nb (En.kept (En.short h nb) al ts ts.length) al (En.sent al ts ts.length) = res := ⟨_, rfl⟩
                    rw [hres] at CB ES3
                    clear hres hkl hsl
                    go_wp2_with (refine load_cells (o := ⟨some 118, _, _, _, _, _⟩) rfl _ _ rfl C (cbCells h nb sv (.slice (some ⟨b, o, none⟩) al.length ac) tv) rfl hRC _ Tryd.underlying91 (info_Compact.trans rfl) _ rfl ?_)
                    refine CB.out.mono ?_
                    rintro e w9 ⟨rfl, hb9⟩
                    have N3 := Lib.hid (N2.out.trans (hb9.mono N2.out.size))
                    clear hb9
                    go_wp2_with fail
                    go_ret2
                    exact ⟨by rw [ES3.out]; rfl, N3.out⟩
          · have ES3 := Lib.hid (show ans = ([], 11) by
              have h0 : En.chk ts.length al = 11 := by rw [chk_eq, CF.out, if_neg (fun h => h rfl), HD.out, if_neg hxz]
              rw [ES.out, h0]; rfl)
            have hne1 : (x0 == 0) = false := by simpa using hxz
            have hne0 : (x0 != 0) = true := by simpa using hxz
            clear hlt
            go_wp2_with fail
            go_ret2
            exact ⟨by rw [ES3.out]; rfl, B1.out⟩
end Go.Proofs.YtlpcjiollnnmgaaDoor
