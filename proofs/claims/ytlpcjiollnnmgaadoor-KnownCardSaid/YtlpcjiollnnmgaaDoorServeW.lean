/-
  THE WALK OF relay.Serve.
-/
import Derived.Test.YtlpcjiollnnmgaaDoorReplyB
import Derived.Test.YtlpcjiollnnmgaaDoorEnc
import Derived.Test.YtlpcjiollnnmgaaDoorRfBlk
set_option maxRecDepth 100000
namespace Go.Proofs.YtlpcjiollnnmgaaDoor
open Go.RowKit Nums
namespace Wr
theorem take_len {n : Nat} {l t r : List UInt8} (h : take n l = .ok t r) : t.length = n := by
  unfold take at h
  by_cases c : l.length < n
  · rw [if_pos c] at h; cases h
  · rw [if_neg c] at h; cases h; rw [List.length_take]; omega
theorem txs_short : ∀ (n : Nat) (l : List UInt8) (ts : List (List UInt8)) (r : List UInt8), txs n l = .ok ts r → ts.length = n ∧ ∀ t ∈ ts, t.length ≤ 610
  | 0, l, ts, r, h => by cases h; exact ⟨rfl, fun _ h => by cases h⟩
  | n + 1, l, ts, r, h => by
    rw [txs] at h
    cases hx : tx l with
    | bad e => rw [hx] at h; cases h
    | ok t s =>
      rw [hx, R.bind_ok] at h
      cases hy : txs n s with
      | bad e => rw [hy] at h; cases h
      | ok us q =>
        rw [hy] at h
        cases h
        obtain ⟨h1, h2⟩ := txs_short n s us _ hy
        refine ⟨by rw [List.length_cons, h1], fun x hx' => ?_⟩
        rcases List.mem_cons.1 hx' with rfl | hm
        · exact tx_short hx
        · exact h2 x hm
theorem indexes_len (B : Nat) : ∀ (n nx : Nat) (l : List UInt8) (is : List Nat) (r : List UInt8), indexes B n nx l = .ok is r → is.length = n
  | 0, nx, l, is, r, h => by cases h; rfl
  | n + 1, nx, l, is, r, h => by
    rw [indexes] at h
    cases hx : index nx B l with
    | bad e => rw [hx] at h; cases h
    | ok i s =>
      rw [hx, R.bind_ok] at h
      cases hy : indexes B n (i + 1) s with
      | bad e => rw [hy] at h; cases h
      | ok us q => rw [hy] at h; cases h; rw [List.length_cons, indexes_len B n _ s us _ hy]
theorem fin_inv {α : Type} {x : R α} {a : α} {r : List UInt8} (h : fin x = .ok a r) : x = .ok a r := by
  unfold fin at h
  cases x with
  | bad e => cases h
  | ok b s =>
    have h' : (if s = [] then (.ok b s : R α) else .bad 5) = .ok a r := h
    by_cases hs : s = []
    · rw [if_pos hs] at h'; exact h'
    · rw [if_neg hs] at h'; cases h'
theorem blk_inv {l : List UInt8} {a : List UInt8 × List (List UInt8)} {r : List UInt8} (h : readBlock l = .ok a r) : a.1.length = 80 ∧ 1 ≤ a.2.length ∧ a.2.length ≤ 16 ∧ ∀ t ∈ a.2, t.length ≤ 610 := by
  have h := fin_inv h
  cases h1 : take 80 l with
  | bad e => rw [h1] at h; cases h
  | ok t s =>
    rw [h1, R.bind_ok] at h
    cases h2 : upTo 1 16 s with
    | bad e => rw [h2] at h; cases h
    | ok n s2 =>
      rw [h2, R.bind_ok] at h
      cases h3 : txs n s2 with
      | bad e => rw [h3] at h; cases h
      | ok ts s3 =>
        rw [h3] at h
        cases h
        obtain ⟨h4, h5⟩ := txs_short n s2 ts _ h3
        have := upTo_le h2
        exact ⟨take_len h1, by dsimp only; omega, by dsimp only; omega, h5⟩
theorem req_inv {l : List UInt8} {a : List UInt8 × List Nat} {r : List UInt8} (h : readRequest l = .ok a r) : a.1.length = 32 ∧ a.2.length ≤ 16 := by
  have h := fin_inv h
  cases h1 : take 32 l with
  | bad e => rw [h1] at h; cases h
  | ok t s =>
    rw [h1, R.bind_ok] at h
    cases h2 : upTo 1 16 s with
    | bad e => rw [h2] at h; cases h
    | ok n s2 =>
      rw [h2, R.bind_ok] at h
      cases h3 : indexes 16 n 0 s2 with
      | bad e => rw [h3] at h; cases h
      | ok is s3 =>
        rw [h3] at h
        cases h
        have := upTo_le h2
        have h4 := indexes_len 16 n 0 s2 is _ h3
        exact ⟨take_len h1, by dsimp only; omega⟩
end Wr
/-- a transaction out of a slice, in a quiet walk -/
theorem wpQuiet_loadtx {ops : Array Oper} {rest : List Oper} {o : Oper} {a : Act} {C : World → Prop} {Q : Act → Prop} (hgd : o.guard = none) (x : Operand) (ho : o.op = .load 66 x)
    (g off : Nat) (t : List UInt8) (hx : a.eval x = .pointer (some ⟨g, off, none⟩)) (hr : ∀ w, C w → w.rangeAt g off (txCells t))
    (h : wpQuiet Tryd.prog ops C Q rest (a.put o.dst (txV t))) : wpQuiet Tryd.prog ops C Q (o :: rest) a := by
  unfold wpQuiet
  rw [if_pos (by simp [Region.wanted, hgd])]
  refine ⟨_, fun w hw => ?_, h⟩
  have := run_loadAt_mid (P := Tryd.prog) w g off 66 (txCells t) _ (hr w hw) Tryd.underlying66 rfl (by rw [infoTx, txCells_len])
  unfold Oper.quietAt execOp
  simp only [ho, hx, Sem.run_bind, this, Result.andThen_ok, Sem.run_pure, Oper.quietUpon]
  first | trivial | exact ⟨trivial, trivial⟩ | exact ⟨rfl, rfl⟩ | exact ⟨rfl, hw⟩
theorem wns_get (is : List Nat) (i : Nat) (h : i < is.length) : (wns is)[i]? = some (.int .i64 ((is.getD i 0 : Nat) : Int)) := by
  unfold wns; rw [List.getElem?_map, List.getD_eq_getElem?_getD, List.getElem?_eq_getElem h]; rfl
theorem Row.of_block {w w' : World} {b : Nat} {l : List Value} (h : Row w b l) (e : w'.heap[b]? = w.heap[b]?) : Row w' b l := by
  obtain ⟨T, h⟩ := h; exact ⟨T, by rw [e]; exact h⟩
theorem pick_step (txs : List (List UInt8)) (is : List Nat) (i : Nat) (us : List (List UInt8)) (hi : i < is.length) (h : En.pick txs is = (En.pick txs (is.drop i)).map (fun ts => us ++ ts)) (hx : ¬ txs.length ≤ is.getD i 0) :
    En.pick txs is = (En.pick txs (is.drop (i + 1))).map (fun ts => (us ++ [txs.getD (is.getD i 0) []]) ++ ts) := by
  rw [h, List.drop_eq_getElem_cons hi]
  have e : is.getD i 0 = is[i] := by rw [List.getD_eq_getElem?_getD, List.getElem?_eq_getElem hi]; rfl
  rw [e] at hx ⊢
  rw [En.pick, if_neg hx]
  cases En.pick txs (is.drop (i + 1)) with
  | none => rfl
  | some q => simp
theorem pick_none (txs : List (List UInt8)) (is : List Nat) (i : Nat) (us : List (List UInt8)) (hi : i < is.length) (h : En.pick txs is = (En.pick txs (is.drop i)).map (fun ts => us ++ ts)) (hx : txs.length ≤ is.getD i 0) :
    En.pick txs is = none := by
  rw [h, List.drop_eq_getElem_cons hi]
  have e : is.getD i 0 = is[i] := by rw [List.getD_eq_getElem?_getD, List.getElem?_eq_getElem hi]; rfl
  rw [e] at hx
  rw [En.pick, if_pos hx]; rfl
theorem info_Reply : (Tryd.prog.info? 84).map (·.size) = some 2 := by kernel_rfl
/-- what the reads of Serve's round stand on -/
def SvS (A gb n cb off : Nat) (t : List UInt8) (u : World) : Prop := u.cell? ⟨A, 1, none⟩ = some (.slice (some ⟨gb, 0, none⟩) n cb) ∧ u.rangeAt gb off (txCells t)
/-- an answer: bytes, or what is wrong -/
def ansV (p : List UInt8 × Nat) : Value := .tuple #[.string (str p.1), .int .i64 (p.2 : Int)]
set_option maxHeartbeats 8000000 in
theorem serve_calls (blk req : List UInt8) (w : World) (hT : Tabs w) (hl1 : blk.length ≤ 9223372036854775807) (hl2 : req.length ≤ 9223372036854775807) :
    Calls Tryd.prog 23 #[.string (str blk), .string (str req)] w fun e w' => e = .returned (ansV (En.serve blk req)) ∧ Below w.heap.size w w' := by
  have h1w := hT.lt
  have HT := Lib.hid hT
  have T1 := Lib.hid (wreadBlock_calls blk w hT hl1)
  have ES := Lib.hid (show En.serve blk req = match Wr.readBlock blk with
    | .bad e => ([], e)
    | .ok (h, txs) _ => match Wr.readRequest req with
      | .bad e => ([], e)
      | .ok (n, l) _ => if n ≠ Sha.sum (Sha.sum h) then ([], 6) else match En.pick txs l with
        | none => ([], 4)
        | some ts => (n ++ (Wr.sizeB ts.length ++ ts.flatten), 0) from rfl)
  obtain ⟨ans, hans⟩ : ∃ p, En.serve blk req = p := ⟨_, rfl⟩
  rw [hans] at ES ⊢
  clear hT hans
  go_enter Tryd.func23, Tryd.ntmps23
  go_wp2_with fail
  refine T1.out.mono ?_
  clear T1
  cases hx : Wr.readBlock blk with
  | bad n =>
    rintro e w1 ⟨rfl, hb⟩
    rw [hx] at ES
    have hn := Rf.readBlk_pos hx
    have p1 : ¬ (n : Int) = 0 := by omega
    have r1 : Row (w1.alloc (.cells #[.string (str []), .slice none 0 0] 76)) w1.heap.size pr0 := Row.new w1 pr0 76
    have hB : Below w1.heap.size w1 (w1.alloc (.cells #[.string (str []), .slice none 0 0] 76)) := (Below.refl _ _).alloc (Nat.le_refl _) _
    have B1 := Lib.hid (hb.trans ((below_setRow hB (Nat.le_refl _) pr0.toArray).mono hb.size))
    clear hx hb hB hn
    go_wp2_with (with_reducible refine store_cells (o := ⟨none, _, _, _, _, _⟩) rfl _ _ _ rfl w1.heap.size pr0 pr0 rfl rfl r1 (info_Block.trans rfl) rfl (by decide +kernel) ?_)
    go_ret2
    exact ⟨by rw [show ans = ([], n) from ES.out]; rfl, B1.out⟩
  | ok a r =>
    obtain ⟨h, ts⟩ := a
    obtain ⟨hh80, hts1, hts16, htsS⟩ := Wr.blk_inv hx
    rintro e w1 ⟨bv, rfl, hob, hb⟩
    rw [hx] at ES
    dsimp only at hh80 hts1 hts16 htsS hob ES
    have hv1 := ownN_one hob
    have r1 : Row (w1.alloc (.cells #[.string (str []), .slice none 0 0] 76)) w1.heap.size pr0 := Row.new w1 pr0 76
    have hB : Below w1.heap.size w1 (w1.alloc (.cells #[.string (str []), .slice none 0 0] 76)) := (Below.refl _ _).alloc (Nat.le_refl _) _
    have B1' := below_setRow hB (Nat.le_refl _) (pr h bv).toArray
    have B1 := Lib.hid (hb.trans (B1'.mono hb.size))
    have R1 := Lib.hid (r1.setRow (pr h bv))
    have O1 := Lib.hid (ownN_below hob B1' (Nat.le_refl _))
    have hz1 := hb.size
    have HS := Lib.hid htsS
    clear hx hb hB B1' hob htsS
    go_wp2_with (with_reducible refine store_cells (o := ⟨none, _, _, _, _, _⟩) rfl _ _ _ rfl w1.heap.size pr0 (pr h bv) rfl rfl r1 (info_Block.trans rfl) rfl (pr_one h hv1) ?_)
    clear r1 hv1
    generalize World.setRow _ _ _ = w2 at B1 R1 O1 ⊢
    generalize w1.heap.size = A at R1 hz1 ⊢
    have hA2 := R1.out.lt
    have T2 := Lib.hid (wreadRequest_calls req w2 (HT.out.below B1.out h1w) hl2)
    refine T2.out.mono ?_
    clear T2
    cases hx : Wr.readRequest req with
    | bad n =>
      rintro e w3 ⟨rfl, hb⟩
      rw [hx] at ES
      have hn := Rf.readReq_pos hx
      have p1 : ¬ (n : Int) = 0 := by omega
      have r1 : Row (w3.alloc (.cells #[.string (str []), .slice none 0 0] 80)) w3.heap.size pr0 := Row.new w3 pr0 80
      have hB : Below w3.heap.size w3 (w3.alloc (.cells #[.string (str []), .slice none 0 0] 80)) := (Below.refl _ _).alloc (Nat.le_refl _) _
      have hz2 := B1.out.size
      have hz3 := hb.size
      have B3 := Lib.hid (B1.out.trans ((hb.trans ((below_setRow hB (Nat.le_refl _) pr0.toArray).mono hb.size)).mono hz2))
      clear hx hb hB hn
      go_wp2_with (with_reducible refine store_cells (o := ⟨none, _, _, _, _, _⟩) rfl _ _ _ rfl w3.heap.size pr0 pr0 rfl rfl r1 (info_Request.trans rfl) rfl (by decide +kernel) ?_)
      go_ret2
      exact ⟨by rw [show ans = ([], n) from ES.out]; rfl, B3.out⟩
    | ok a r' =>
      obtain ⟨nm, is⟩ := a
      obtain ⟨hn32, his16⟩ := Wr.req_inv hx
      rintro e w3 ⟨qv, rfl, hoq, hb⟩
      rw [hx] at ES
      dsimp only at hn32 his16 hoq ES
      have hv1 := ownN_one hoq
      have r1 : Row (w3.alloc (.cells #[.string (str []), .slice none 0 0] 80)) w3.heap.size pr0 := Row.new w3 pr0 80
      have hB : Below w3.heap.size w3 (w3.alloc (.cells #[.string (str []), .slice none 0 0] 80)) := (Below.refl _ _).alloc (Nat.le_refl _) _
      have hz2 := B1.out.size
      have hz3 := hb.size
      have B3' := below_setRow hB (Nat.le_refl _) (pr nm qv).toArray
      have B3 := Lib.hid (B1.out.trans ((hb.trans (B3'.mono hb.size)).mono hz2))
      have R3 := Lib.hid (r1.setRow (pr nm qv))
      have O3 := Lib.hid (ownN_below hoq B3' (Nat.le_refl _))
      have O1' := Lib.hid (ownN_below (ownN_below O1.out hb (Nat.le_refl _)) B3' (Nat.le_refl _))
      have R1' := Lib.hid ((R1.out.below hb hA2).below B3' (by omega))
      clear hx hb hB B3' hoq O1 R1 B1
      go_upto_region 7 with (with_reducible refine store_cells (o := ⟨none, _, _, _, _, _⟩) rfl _ _ _ rfl w3.heap.size pr0 (pr nm qv) rfl rfl r1 (info_Request.trans rfl) rfl (pr_one nm hv1) ?_)
      clear r1 hv1
      generalize World.setRow _ _ _ = w4 at B3 R3 O3 O1' R1' ⊢
      generalize w3.heap.size = C at R3 hz3 ⊢
      have hC4 := R3.out.lt
      have hA4 := R1'.out.lt
      have hu0 : ∀ u : Reg.Of (fun u => Row u A (pr h bv) ∧ Row u C (pr nm qv)), u.w.cell? ⟨C, 0, none⟩ = some (.string (str nm)) := fun u => u.h.2.cell 0
      have hu1 : ∀ u : Reg.Of (fun u => Row u A (pr h bv) ∧ Row u C (pr nm qv)), u.w.cell? ⟨A, 0, none⟩ = some (.string (str h)) := fun u => u.h.1.cell 0
      haveI hne : Nonempty (Reg.Of (fun u => Row u A (pr h bv) ∧ Row u C (pr nm qv))) := ⟨⟨w4, R1'.out, R3.out⟩⟩
      refine Reg.startL [0, 1, 2, 3] 2 mixed (by kernel_rfl) rfl rfl (fun c a d v w h => by cases d <;> exact h) (by as_aux_lemma => kernel_rfl) rfl (fun u => Row u A (pr h bv) ∧ Row u C (pr nm qv)) ⟨R1'.out.drew, R3.out.drew⟩ ?_
      show wpQuiet _ _ _ _ [_, _, _, _] _
      repeat (go_big_quiet_step (fail))
      refine wpQuiet_nil ?_
      have B4 := Lib.hid B3.out.drew
      have P1 := Lib.hid R1'.out.drew
      have P2 := Lib.hid R3.out.drew
      have P3 := Lib.hid (show w4.drew.ownsRow w2.heap.size 3 1 qv is.length (wns is) from O3.out)
      have P4 := Lib.hid (show w4.drew.ownsRow w.heap.size 66 33 bv ts.length (txsCells ts) from O1'.out)
      have hA5 : A < w4.drew.heap.size := hA4
      have hC5 : C < w4.drew.heap.size := hC4
      have T3 := Lib.hid (name_calls h w4.drew (HT.out.below B4.out h1w) (by omega))
      clear B3 R3 O3 O1' R1' hA4 hC4 hu0 hu1
      generalize w4.drew = w5 at B4 P1 P2 P3 P4 hA5 hC5 T3 ⊢
      refine Reg.one 4 _ (by kernel_rfl) rfl rfl ?_
      try go_frame
      go_wp2_with fail
      refine T3.out.mono ?_
      clear T3
      rintro e w6 ⟨rfl, hb⟩
      have hz6 := hb.size
      have B6 := Lib.hid (B4.out.trans (hb.mono (by have := B4.out.size; omega)))
      have P1' := Lib.hid (P1.out.below hb hA5)
      have P2' := Lib.hid (P2.out.below hb hC5)
      have P3' := Lib.hid (ownN_below P3.out hb (Nat.le_refl _))
      have P4' := Lib.hid (ownN_below P4.out hb (Nat.le_refl _))
      clear hb B4 P1 P2 P3 P4
      obtain ⟨tw, htw⟩ : ∃ tw, Mk.twice h = tw := ⟨_, rfl⟩
      have ES2 := Lib.hid (show ans = if nm ≠ tw then ([], 6) else match En.pick ts is with
          | none => ([], 4)
          | some ts => (nm ++ (Wr.sizeB ts.length ++ ts.flatten), 0) by rw [← htw]; exact ES.out)
      rw [htw]
      clear htw ES
      by_cases hnm : nm = tw
      · subst hnm
        rw [if_neg (fun h => h rfl)] at ES2
        go_wp2_with fail
        refine ⟨Reg.cls_mk ⟨P1'.out, P2'.out⟩, ?_⟩
        refine Reg.one 5 _ (by kernel_rfl) rfl rfl ?_
        try go_frame
        go_wp2_with fail
        refine ⟨Reg.cls_mk ⟨P1'.out, P2'.out⟩, ?_⟩
        refine wpAnyH_done (by kernel_rfl) ?_ 0
        have hc0 := P2'.out.cell 0
        have hc1 := P2'.out.cell 1
        rw [show (pr nm qv)[0]? = some (.string (str nm)) from rfl] at hc0
        rw [show (pr nm qv)[1]? = some qv from rfl] at hc1
        obtain ⟨qa, qc, rfl⟩ := own_slice P3'.out
        obtain ⟨i0, hi0, hz0i, hz1i, hz2i⟩ := info_parts infoTx3
        have HI := Lib.hid hi0
        have d1 : Row (w6.alloc (.cells #[.string (str []), .slice none 0 0] 84)) w6.heap.size pr0 := Row.new w6 pr0 84
        have dB := below_setRow ((Below.refl w6.heap.size w6).alloc (Nat.le_refl _) (.cells #[.string (str []), .slice none 0 0] 84)) (Nat.le_refl _) (pr nm (.slice none 0 0)).toArray
        have RD := Lib.hid (d1.setRow (pr nm (.slice none 0 0)))
        have BD := Lib.hid dB
        have hcC := (P2'.out.below dB (by omega)).cell 1
        rw [show (pr nm (.slice qa is.length qc))[1]? = some (.slice qa is.length qc) from rfl] at hcC
        clear hi0 dB
        go_upto_region 10 with (with_reducible refine store_cells (o := ⟨none, _, _, _, _, _⟩) rfl _ _ _ rfl w6.heap.size pr0 (pr nm (.slice none 0 0)) rfl rfl d1 (info_Reply.trans rfl) rfl (pr_one nm rfl) ?_)
        clear d1 hc0 hc1
        generalize World.setRow _ _ _ = w7 at RD BD hcC ⊢
        obtain ⟨D, hD⟩ : ∃ D, w6.heap.size = D := ⟨_, rfl⟩
        rw [hD] at RD BD ⊢
        have hD7 := RD.out.lt
        have hB7 := Lib.hid (B6.out.trans (BD.out.mono (by have := B6.out.size; omega)))
        obtain ⟨gb, cb, rfl, hgbB, hgb, hTA⟩ := own_txs P4'.out (by omega)
        have HTA := Lib.hid hTA
        clear hTA
        have EP := Lib.hid (show En.pick ts is = (En.pick ts (is.drop 0)).map (fun us => [] ++ us) by rw [List.drop_zero]; cases En.pick ts is <;> rfl)
        go_wp2_with fail
        clear hcC
        go_loopw [11, 40] (fun xv iv wr => ∃ (i : Nat) (us : List (List UInt8)) (pv : Value), i ≤ is.length ∧ iv = .int .i64 i ∧ us.length = i ∧ Row wr D (pr nm pv) ∧ wr.ownsRow w7.heap.size 66 33 pv us.length (txsCells us) ∧ But w7.heap.size D w7 wr ∧ En.pick ts is = (En.pick ts (is.drop i)).map (fun vs => us ++ vs) ∧ ∀ t ∈ us, t.length ≤ 610) (fun _ iv _ => is.length - (intOf iv).toNat)
        case atStart => exact ⟨0, [], .slice none 0 0, by omega, rfl, rfl, RD.out, World.ownsRow_nil _ _ _ _, But.refl _ _ _, EP.out, fun _ h => by cases h⟩
        case round =>
          obtain ⟨i, us, pv, hi, rfl, hul, hRD, hown, hN, hEP, hus⟩ := hrel
          have KB := Lib.hid (show ∀ k, k < D → wr.heap[k]? = w6.heap[k]? from fun k hk => (hN.block k (by omega) (by omega)).trans (BD.out.block k hk))
          have N1 := Lib.hid hN
          have O1 := Lib.hid hown
          have HU := Lib.hid hus
          have hzr := hN.size
          by_cases hlt : i < is.length
          · have p1 : (i : Int) < (is.length : Int) := by omega
            obtain ⟨gq, cq, hq, _, hgq, hcq⟩ := own_cells P3'.out (by omega : 0 < is.length)
            cases hq
            have hcx : wr.cell? ⟨gq, i, none⟩ = some (.int .i64 ((is.getD i 0 : Nat) : Int)) := by
              rw [← wns_get is i hlt, ← hcq i (by omega)]
              exact World.cell?_of_block (w := w6) (KB.out gq (by omega))
            have hcA : wr.cell? ⟨A, 1, none⟩ = some (.slice (some ⟨gb, 0, none⟩) ts.length cb) := (P1'.out.of_block (KB.out A (by omega))).cell 1
            obtain ⟨x, hxe⟩ : ∃ x, is.getD i 0 = x := ⟨_, rfl⟩
            have HP0 := fun c => pick_none ts is i us hlt hEP c
            have HP1 := fun c => Lib.hid (pick_step ts is i us hlt hEP c)
            rw [hxe] at hcx HP0 HP1
            clear hcq hEP hus hown hN
            by_cases c : ts.length ≤ x
            · have p2 : (x : Int) ≥ (ts.length : Int) := by omega
              have ES3 := Lib.hid (show ans = ([], 4) by rw [ES2.out, HP0 c])
              have N2 := Lib.hid (hB7.out.trans ⟨N1.out.os, N1.out.tape, N1.out.output, N1.out.size, fun k hk => N1.out.block k (by have := hB7.out.size; omega) (by have := B6.out.size; omega)⟩)
              clear HP1
              go_wp2_with fail
              go_ret2
              exact ⟨by rw [ES3.out]; rfl, N2.out⟩
            · have p2 : ¬ (x : Int) ≥ (ts.length : Int) := by omega
              have HP := HP1 c
              clear HP0 HP1 hxe
              have htl : (ts.getD x []).length ≤ 610 := HS.out _ (by rw [List.getD_eq_getElem?_getD, List.getElem?_eq_getElem (by omega)]; exact List.getElem_mem (by omega))
              have hra : wr.rangeAt gb (33 * x) (txCells (ts.getD x [])) := rangeAt_of_block (HTA.out x (by omega)) (KB.out gb (by omega))
              obtain ⟨t, hte⟩ : ∃ t, ts.getD x [] = t := ⟨_, rfl⟩
              rw [hte] at htl hra HP
              have HU2 := Lib.hid (show ∀ y ∈ us ++ [t], y.length ≤ 610 from fun y hy => by
                rcases List.mem_append.1 hy with h | h
                · exact HU.out y h
                · rw [List.mem_singleton.1 h]; exact htl)
              have hub : us.length < 17 := by omega
              have HUL := Lib.hid hul
              clear hte htl hul
              go_upto_region 15 with fail
              rw [Nat.mul_comm] at hra
              have hu1 : ∀ u : Reg.Of (SvS A gb ts.length cb (x * 33) t), u.w.cell? ⟨A, 1, none⟩ = some (.slice (some ⟨gb, 0, none⟩) ts.length cb) := fun u => u.h.1
              haveI hne : Nonempty (Reg.Of (SvS A gb ts.length cb (x * 33) t)) := ⟨⟨wr, hcA, hra⟩⟩
              have i1 : (x : Int) < (ts.length : Int) := by omega
              refine Reg.startL [0, 2, 3, 4, 5, 6] 5 mixed (by kernel_rfl) rfl rfl (fun c a d v w h => by cases d <;> exact h) (by as_aux_lemma => kernel_rfl) rfl (SvS A gb ts.length cb (x * 33) t) ⟨hcA, hra⟩ ?_
              show wpQuiet _ _ _ _ [_, _, _, _, _, _] _
              iterate 5 (go_big_quiet_step (fail))
              refine wpQuiet_loadtx (o := ⟨some 55, _, _, _, _, _⟩) rfl _ rfl gb (x * 33) t rfl (fun w hw => by obtain ⟨u, rfl⟩ := hw; exact u.h.2) ?_
              go_frame
              repeat (go_big_quiet_step (fail))
              refine wpQuiet_nil ?_
              have r8 := hRD.drew
              have N8 := Lib.hid N1.out.drew
              have O8 := Lib.hid (show wr.drew.ownsRow w7.heap.size 66 33 pv us.length (txsCells us) from O1.out)
              have hz8 : w7.heap.size ≤ wr.drew.heap.size := hzr
              have hSS : ∀ w' : World, (∀ k, k < D → w'.heap[k]? = wr.drew.heap[k]?) → Reg.cls (SvS A gb ts.length cb (x * 33) t) w' := fun w' hw' =>
                Reg.cls_mk ⟨(World.cell?_of_block (w := wr.drew) (hw' A (by omega))).trans hcA, rangeAt_of_block (w := wr.drew) hra (hw' gb (by omega))⟩
              clear hRD N1 O1 hzr hu1 hcx hcA hra
              generalize wr.drew = w8 at r8 N8 O8 hz8 hSS ⊢
              have hcD := r8.cell 1
              rw [show (pr nm pv)[1]? = some pv from rfl] at hcD
              have L1 := Lib.hid (show ∀ (j : Nat) (u : Value), (txCells t)[j]? = some u → (w8.alloc (.cells (txCells t).toArray 66)).cell? (Addr.add ⟨w8.heap.size, 0, none⟩ j) = some u from fun j u hu => by rw [Addr.add_lit, Nat.zero_add, (Row.new w8 _ _).cell]; exact hu)
              have hSa := hSS (w8.alloc (.cells (txCells t).toArray 66)) (fun k hk => Below.heap_alloc _ _ _ (by omega))
              have hcDa := (r8.alloc (.cells (txCells t).toArray 66)).cell 1
              rw [show (pr nm pv)[1]? = some pv from rfl] at hcDa
              refine Reg.two 1 7 _ _ (by kernel_rfl) rfl rfl rfl rfl ?_ ?_
              · try go_frame
                go_wp2_with fail
                refine ⟨hSS w8 (fun _ _ => rfl), ?_⟩
                refine Reg.one 7 _ (by kernel_rfl) rfl rfl ?_
                refine build_tx1 (o := ⟨some 56, _, _, _, _, _⟩) rfl _ rfl t rfl ?_
                refine ⟨hSa, ?_⟩
                refine Reg.one 8 _ (by kernel_rfl) rfl rfl ?_
                refine wpList_append_own _ rfl _ _ 74 rfl w7.heap.size 66 i0 (.agg tx0.toArray) 33 48 Tryd.underlying74 HI.out hz0i hz1i hz2i (by rw [Value.cells, List.size_toArray, tx0_len]) (by decide) _ _ _ rfl (O8.out.alloc _) ⟨w8.heap.size, 0, none⟩ 1 1 (txCells t) rfl (by rw [txCells_len]) L1.out (fun u hu => List.all_eq_true.1 (txCells_one t) u hu) (by unfold maxLen; omega) (by omega) (by rw [World.size_alloc]; omega) ?_
                intro pv2 w10 hown10 hgr10 _
                have hb10 : Below w7.heap.size w8 w10 := ((Below.refl w7.heap.size w8).alloc hz8 _).grown hgr10 (by rw [World.size_alloc]; omega) (fun k hk => (O8.out.lt k hk).1)
                refine ⟨hSS _ (fun k hk => hb10.block k (by omega)), ?_⟩
                refine Reg.one 9 _ (by kernel_rfl) rfl rfl ?_
                obtain ⟨pa, pc, rfl⟩ := own_slice hown10
                try go_frame
                go_wp2_with fail
                refine ⟨hSS _ (fun k hk => hb10.block k (by omega)), ?_⟩
                refine Reg.one 10 _ (by kernel_rfl) rfl rfl ?_
                have rD := r8.below hb10 (by omega)
                have hzD := rD.free 1
                have hcD2 := rD.cell 1
                have R11 := Lib.hid (rD.set 1 (.slice pa (us.length + 1) pc))
                have O11 := Lib.hid (ownN_cell (a := ⟨D, 1, none⟩) hown10 (.slice pa (us.length + 1) pc) hD7)
                have N11 := Lib.hid ((N8.out.trans (But.of_below hb10)).setOwn 1 (.slice pa (us.length + 1) pc))
                have hS11 : Reg.cls (SvS A gb ts.length cb (x * 33) t) (w10.setCell ⟨D, 1, none⟩ (.slice pa (us.length + 1) pc)) := hSS _ (fun k hk => (Below.heap_setCell _ _ _ _ (by show k ≠ D; omega)).trans (hb10.block k (by omega)))
                clear hown10 hgr10 hb10
                try go_frame
                go_wp2_with fail
                refine ⟨hS11, ?_⟩
                refine wpAnyH_done (by kernel_rfl) ?_ 0
                go_wp2_with fail
                go_roundw
                case rel => exact ⟨i + 1, us ++ [t], _, by omega, by go_num, by rw [List.length_append, HUL.out]; rfl, R11.out, by rw [List.length_append, ← txsCells_snoc]; exact O11.out, N11.out, HP.out, HU2.out⟩
                case measure => simp [intOf]; omega
              · refine build_tx1 (o := ⟨some 56, _, _, _, _, _⟩) rfl _ rfl t rfl ?_
                refine ⟨hSa, ?_⟩
                refine Reg.one 1 _ (by kernel_rfl) rfl rfl ?_
                try go_frame
                go_wp2_with fail
                refine ⟨hSa, ?_⟩
                refine Reg.one 8 _ (by kernel_rfl) rfl rfl ?_
                refine wpList_append_own _ rfl _ _ 74 rfl w7.heap.size 66 i0 (.agg tx0.toArray) 33 48 Tryd.underlying74 HI.out hz0i hz1i hz2i (by rw [Value.cells, List.size_toArray, tx0_len]) (by decide) _ _ _ rfl (O8.out.alloc _) ⟨w8.heap.size, 0, none⟩ 1 1 (txCells t) rfl (by rw [txCells_len]) L1.out (fun u hu => List.all_eq_true.1 (txCells_one t) u hu) (by unfold maxLen; omega) (by omega) (by rw [World.size_alloc]; omega) ?_
                intro pv2 w10 hown10 hgr10 _
                have hb10 : Below w7.heap.size w8 w10 := ((Below.refl w7.heap.size w8).alloc hz8 _).grown hgr10 (by rw [World.size_alloc]; omega) (fun k hk => (O8.out.lt k hk).1)
                refine ⟨hSS _ (fun k hk => hb10.block k (by omega)), ?_⟩
                refine Reg.one 9 _ (by kernel_rfl) rfl rfl ?_
                obtain ⟨pa, pc, rfl⟩ := own_slice hown10
                try go_frame
                go_wp2_with fail
                refine ⟨hSS _ (fun k hk => hb10.block k (by omega)), ?_⟩
                refine Reg.one 10 _ (by kernel_rfl) rfl rfl ?_
                have rD := r8.below hb10 (by omega)
                have hzD := rD.free 1
                have hcD2 := rD.cell 1
                have R11 := Lib.hid (rD.set 1 (.slice pa (us.length + 1) pc))
                have O11 := Lib.hid (ownN_cell (a := ⟨D, 1, none⟩) hown10 (.slice pa (us.length + 1) pc) hD7)
                have N11 := Lib.hid ((N8.out.trans (But.of_below hb10)).setOwn 1 (.slice pa (us.length + 1) pc))
                have hS11 : Reg.cls (SvS A gb ts.length cb (x * 33) t) (w10.setCell ⟨D, 1, none⟩ (.slice pa (us.length + 1) pc)) := hSS _ (fun k hk => (Below.heap_setCell _ _ _ _ (by show k ≠ D; omega)).trans (hb10.block k (by omega)))
                clear hown10 hgr10 hb10
                try go_frame
                go_wp2_with fail
                refine ⟨hS11, ?_⟩
                refine wpAnyH_done (by kernel_rfl) ?_ 0
                go_wp2_with fail
                go_roundw
                case rel => exact ⟨i + 1, us ++ [t], _, by omega, by go_num, by rw [List.length_append, HUL.out]; rfl, R11.out, by rw [List.length_append, ← txsCells_snoc]; exact O11.out, N11.out, HP.out, HU2.out⟩
                case measure => simp [intOf]; omega
          · obtain rfl : i = is.length := by omega
            have ES3 := Lib.hid (show ans = (nm ++ Mk.joined us, 0) by rw [ES2.out, hEP, List.drop_length]; simp [En.pick, Mk.joined])
            have RB := Lib.hid (replyBytes_calls nm pv us w7.heap.size wr hown hus (by omega) (by omega))
            have N2 := Lib.hid (hB7.out.trans ⟨hN.os, hN.tape, hN.output, hN.size, fun k hk => hN.block k (by have := hB7.out.size; omega) (by have := B6.out.size; omega)⟩)
            clear hown hN hEP hus
            go_wp2_with (refine load_cells (o := ⟨some 60, _, _, _, _, _⟩) rfl _ _ rfl D (pr nm pv) rfl hRD _ Tryd.underlying84 (info_Reply.trans rfl) _ rfl ?_)
            refine RB.out.mono ?_
            rintro e w9 ⟨rfl, hb9⟩
            have N3 := Lib.hid (N2.out.trans (hb9.mono N2.out.size))
            clear hb9
            go_wp2_with fail
            go_ret2
            exact ⟨by rw [ES3.out]; rfl, N3.out⟩
      · rw [if_pos hnm] at ES2
        have hne2 : (nm == tw) = false := by simpa using hnm
        go_wp2_with fail
        refine ⟨Reg.cls_mk ⟨P1'.out, P2'.out⟩, ?_⟩
        refine Reg.one 5 _ (by kernel_rfl) rfl rfl ?_
        try go_frame
        go_wp2_with fail
        refine ⟨Reg.cls_mk ⟨P1'.out, P2'.out⟩, ?_⟩
        refine wpAnyH_done (by kernel_rfl) ?_ 0
        go_wp2_with fail
        go_ret2
        exact ⟨by rw [ES2.out]; rfl, B6.out⟩
end Go.Proofs.YtlpcjiollnnmgaaDoor
