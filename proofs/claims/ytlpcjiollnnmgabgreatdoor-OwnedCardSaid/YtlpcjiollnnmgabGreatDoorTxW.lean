/-
  THE PROGRAM's READER OF A TRANSACTION.
-/
import Derived.Test.YtlpcjiollnnmgabGreatDoorCur
import Derived.Great.BuildSlice
set_option maxRecDepth 100000
namespace Go.Proofs.YtlpcjiollnnmgabGreatDoor
open Go.RowKit Nums
namespace Wr
/-- how much a reader takes at most -/
def Eats {α : Type} (k : Nat) (l : List UInt8) (x : R α) : Prop := ∀ a r, x = .ok a r → l.length ≤ r.length + k
theorem Eats.ok {α : Type} (l : List UInt8) (a : α) : Eats 0 l (.ok a l) := fun _ _ h => by cases h; exact Nat.le_refl _
theorem Eats.bad {α : Type} (k : Nat) (l : List UInt8) (e : Nat) : Eats (α := α) k l (.bad e) := fun _ _ h => by cases h
theorem Eats.mono {α : Type} {k m : Nat} {l : List UInt8} {x : R α} (h : Eats k l x) (hk : k ≤ m) : Eats m l x := fun a r e => by have := h a r e; omega
theorem Eats.bind {α β : Type} {k m : Nat} {l : List UInt8} {x : R α} {f : α → List UInt8 → R β} (h : Eats k l x) (hf : ∀ a r, x = .ok a r → Eats m r (f a r)) : Eats (k + m) l (x.bind f) := by
  cases x with
  | bad e => exact Eats.bad _ _ _
  | ok a r =>
    intro b s hs
    have h1 := h a r rfl
    have h2 := hf a r rfl b s hs
    omega
theorem Eats.void {α : Type} {k : Nat} {l : List UInt8} {x : R α} (h : Eats k l x) : Eats k l x.void := by
  cases x with
  | bad e => exact Eats.bad _ _ _
  | ok a r => intro b s hs; cases hs; exact h a r rfl
theorem take_eats (n : Nat) (l : List UInt8) : Eats n l (take n l) := by
  unfold take; split
  · exact Eats.bad _ _ _
  · intro a r h; cases h; rw [List.length_drop]; omega
theorem more_le (b : UInt8) : more b ≤ 8 := by unfold more; split <;> (try split) <;> omega
theorem rest_eats (b : UInt8) (l : List UInt8) : Eats 8 l (rest b l) :=
  ((take_eats _ l).bind (m := 0) fun u r _ => by split; exact Eats.bad _ _ _; exact Eats.ok _ _).mono (more_le b)
theorem size_eats (l : List UInt8) : Eats 9 l (size l) :=
  ((take_eats 1 l).bind (m := 8) fun t r _ => by split; exact (Eats.ok _ _).mono (by omega); exact rest_eats _ _).mono (by omega)
theorem upTo_eats (lo hi : Nat) (l : List UInt8) : Eats 9 l (upTo lo hi l) :=
  (size_eats l).bind (m := 0) fun x r _ => by split; exact Eats.bad _ _ _; exact Eats.ok _ _
theorem upTo_le {lo hi : Nat} {l : List UInt8} {n : Nat} {r : List UInt8} (h : upTo lo hi l = .ok n r) : lo ≤ n ∧ n ≤ hi := by
  unfold upTo at h
  cases hx : size l with
  | bad e => rw [hx] at h; cases h
  | ok x s =>
    rw [hx] at h
    by_cases c : x < lo ∨ hi < x
    · have : (R.ok x s).bind (fun x r => if x < lo ∨ hi < x then (.bad 3 : R Nat) else .ok x r) = .bad 3 := if_pos c
      rw [this] at h; cases h
    · have : (R.ok x s).bind (fun x r => if x < lo ∨ hi < x then (.bad 3 : R Nat) else .ok x r) = .ok x s := if_neg c
      rw [this] at h; cases h; omega
theorem script_eats (l : List UInt8) : Eats 49 l (script l) :=
  (upTo_eats _ _ l).bind (m := 40) fun n r h => ((take_eats n r).void).mono (upTo_le h).2
theorem inp_eats (l : List UInt8) : Eats 89 l (inp l) := (take_eats 36 l).bind (m := 53) fun _ r _ => (script_eats r).bind (m := 4) fun _ r _ => (take_eats 4 r).void
theorem outp_eats (l : List UInt8) : Eats 57 l (outp l) := (take_eats 8 l).bind (m := 49) fun _ r _ => script_eats r
theorem rep_eats {p : List UInt8 → R Unit} {k : Nat} (hp : ∀ l, Eats k l (p l)) : ∀ (n : Nat) (l : List UInt8), Eats (n * k) l (rep p n l)
  | 0, l => by rw [Nat.zero_mul]; exact Eats.ok _ _
  | n + 1, l => by rw [Nat.succ_mul, Nat.add_comm]; exact (hp l).bind fun _ r _ => rep_eats hp n r
theorem body_eats (l : List UInt8) : Eats 610 l (body l) :=
  (take_eats 4 l).bind (m := 606) fun _ r _ => (upTo_eats _ _ r).bind (m := 597) fun n r h => ((rep_eats inp_eats n r).mono (show n * 89 ≤ 356 by have := (upTo_le h).2; omega)).bind (m := 241) fun _ r _ =>
    (upTo_eats _ _ r).bind (m := 232) fun n r h => ((rep_eats outp_eats n r).mono (show n * 57 ≤ 228 by have := (upTo_le h).2; omega)).bind (m := 4) fun _ r _ => (take_eats 4 r).void
theorem tx_short {l t r : List UInt8} (h : tx l = .ok t r) : t.length ≤ 610 := by
  unfold tx at h
  cases hx : body l with
  | bad e => rw [hx] at h; cases h
  | ok a s =>
    rw [hx] at h
    cases h
    have := body_eats l a _ hx
    rw [List.length_take]; omega
/-- the bytes of what was taken -/
def txF (l : List UInt8) (x : R Unit) : R (List UInt8) := x.bind fun _ r => .ok (l.take (l.length - r.length)) r
def outs (r : List UInt8) : R Unit := (upTo 1 4 r).bind fun n r => (rep outp n r).bind fun _ r => (take 4 r).void
def ins (r : List UInt8) : R Unit := (upTo 1 4 r).bind fun n r => (rep inp n r).bind fun _ r => outs r
theorem tx_eq (l : List UInt8) : tx l = txF l ((take 4 l).bind fun _ r => ins r) := rfl
end Wr
theorem But.tabs {B S : Nat} {w w' : World} (h : But B S w w') (hT : Tabs w) (hB : 1 < B) (hS : 1 < S) : Tabs w' := ⟨h.row hT.1 (by omega) (by omega), h.row hT.2 hB (by omega)⟩
theorem script_calls (b : Nat) (l : List UInt8) (w : World) (hr : Row w b [.string (str l)]) :
    Calls Tryz.prog 113 #[.pointer (some ⟨b, 0, none⟩)] w (RP (Wr.script l) (fun _ => .tuple #[]) b w) := by
  have T1 := Lib.hid (upTo_calls b 0 40 l w.drew hr.drew (by omega) (by omega))
  have B0 := Lib.hid ((But.refl w.heap.size b w).drew)
  clear hr
  go_enter Tryz.func113, Tryz.ntmps113
  haveI hne : Nonempty (Reg.Of (fun _ => True)) := ⟨⟨w, trivial⟩⟩
  refine Reg.startL [0, 1, 2, 3, 4, 5] 2 mixed (by kernel_rfl) rfl rfl (fun c a d v w h => by cases d <;> exact h) (by as_aux_lemma => kernel_rfl) rfl (fun _ => True) trivial ?_
  show wpQuiet _ _ _ _ [_, _, _, _, _, _] _
  repeat (go_big_quiet_step (fail))
  refine wpQuiet_nil ?_
  generalize w.drew = w0 at T1 B0 ⊢
  refine Reg.one 6 _ (by kernel_rfl) rfl rfl ?_
  try go_frame
  go_wp2_with fail
  refine T1.out.mono ?_
  clear T1
  cases hx : Wr.upTo 0 40 l with
  | bad n =>
    rintro e w1 ⟨rfl, h⟩
    exact ⟨rfl, RP.mkBad (by unfold Wr.script; rw [hx]; rfl) (B0.out.trans (h.mono B0.out.size))⟩
  | ok n r =>
    rintro e w1 ⟨rfl, h3, h4⟩
    have hn := Wr.upTo_le hx
    have T2 := Lib.hid (take_calls b n r w1 h3 (by omega))
    have B1 := Lib.hid (B0.out.trans (h4.mono B0.out.size))
    clear h3 h4 B0
    go_wp2_with fail
    refine ⟨Reg.cls_mk trivial, ?_⟩
    refine Reg.one 7 _ (by kernel_rfl) rfl rfl ?_
    try go_frame
    go_wp2_with fail
    refine T2.out.mono ?_
    clear T2
    cases hx2 : Wr.take n r with
    | bad n =>
      rintro e w2 ⟨rfl, h⟩
      exact ⟨rfl, RP.mkBad (by unfold Wr.script; rw [hx, Wr.R.bind_ok, hx2]; rfl) (B1.out.trans (h.mono B1.out.size))⟩
    | ok t r2 =>
      rintro e w2 ⟨rfl, h3, h4⟩
      go_wp2_with fail
      refine ⟨Reg.cls_mk trivial, ?_⟩
      refine wpAnyH_done (by kernel_rfl) ?_ 0
      go_wp2_with fail
      first | go_end0 | refine bodyPost_ret (results_none rfl _ _ _) rfl ?_
      exact RP.mkOk (a := ()) (by unfold Wr.script; rw [hx, Wr.R.bind_ok, hx2]; rfl) h3 (B1.out.trans (h4.mono B1.out.size))
def txCells (t : List UInt8) : List Value := .string (str t) :: w8 (Mk.twice t)
def txV (t : List UInt8) : Value := .agg (txCells t).toArray
def tx0 : List Value := .string (str []) :: w8 (List.replicate 32 0)
theorem Tryz.zeroTx : tx0.toArray = #[.string (str []), .int .u8 0, .int .u8 0, .int .u8 0, .int .u8 0, .int .u8 0, .int .u8 0, .int .u8 0, .int .u8 0, .int .u8 0, .int .u8 0, .int .u8 0, .int .u8 0, .int .u8 0, .int .u8 0, .int .u8 0, .int .u8 0, .int .u8 0, .int .u8 0, .int .u8 0, .int .u8 0, .int .u8 0, .int .u8 0, .int .u8 0, .int .u8 0, .int .u8 0, .int .u8 0, .int .u8 0, .int .u8 0, .int .u8 0, .int .u8 0, .int .u8 0, .int .u8 0] := by kernel_rfl
theorem txCells_len (t : List UInt8) : (txCells t).length = 33 := by unfold txCells; rw [List.length_cons, w8_length]; unfold Mk.twice; rw [Sha.sum32]
theorem tx0_len : tx0.length = 33 := by unfold tx0; rw [List.length_cons, w8_length]; simp
theorem infoTx : (Tryz.prog.info? 78).map (·.size) = some 33 := by kernel_rfl
theorem txCells_one (t : List UInt8) : (txCells t).all (·.oneCell') = true := by
  unfold txCells
  rw [List.all_cons, Bool.and_eq_true]
  exact ⟨rfl, List.all_eq_true.2 (w8_one _)⟩
theorem built_tx32 (s : ByteArray) (a0 a1 a2 a3 a4 a5 a6 a7 a8 a9 a10 a11 a12 a13 a14 a15 a16 a17 a18 a19 a20 a21 a22 a23 a24 a25 a26 a27 a28 a29 a30 a31 : UInt8) : Tryz.prog.built 78 [(0, .string s), (1, .agg (w8 [a0, a1, a2, a3, a4, a5, a6, a7, a8, a9, a10, a11, a12, a13, a14, a15, a16, a17, a18, a19, a20, a21, a22, a23, a24, a25, a26, a27, a28, a29, a30, a31]).toArray)] = some (.string s :: w8 [a0, a1, a2, a3, a4, a5, a6, a7, a8, a9, a10, a11, a12, a13, a14, a15, a16, a17, a18, a19, a20, a21, a22, a23, a24, a25, a26, a27, a28, a29, a30, a31]).toArray := by kernel_rfl
theorem built_tx (s : ByteArray) (d : List UInt8) (hd : d.length = 32) : Tryz.prog.built 78 [(0, .string s), (1, .agg (w8 d).toArray)] = some (.string s :: w8 d).toArray :=
  match d, hd with
  | [a0, a1, a2, a3, a4, a5, a6, a7, a8, a9, a10, a11, a12, a13, a14, a15, a16, a17, a18, a19, a20, a21, a22, a23, a24, a25, a26, a27, a28, a29, a30, a31], _ => built_tx32 s a0 a1 a2 a3 a4 a5 a6 a7 a8 a9 a10 a11 a12 a13 a14 a15 a16 a17 a18 a19 a20 a21 a22 a23 a24 a25 a26 a27 a28 a29 a30 a31
/-- 'Tx{s, d}' -/
theorem build_tx {ops : Array Oper} {rest : List Oper} {o : Oper} {a : Act} {w : World} {Q : Exit → Act → World → Prop} (hgd : o.guard = none) (x y : Operand) (ho : o.op = .build 78 #[(0, x), (1, y)])
    (s d : List UInt8) (hd : d.length = 32) (hx : a.eval x = .string (str s)) (hy : a.eval y = .agg (w8 d).toArray)
    (h : wpList Tryz.prog ops Q rest (a.put o.dst (.agg (.string (str s) :: w8 d).toArray)) w) : wpList Tryz.prog ops Q (o :: rest) a w := by
  refine wpList_buildTo hgd 78 _ ho _ rfl _ ?_ h
  simp only [List.map_toArray, List.map_cons, List.map_nil, hx, hy]
  exact built_tx (str s) d hd
/-- a struct into a block of its own -/
theorem store_cells {ops : Array Oper} {rest : List Oper} {o : Oper} {a : Act} {w : World} {Q : Exit → Act → World → Prop} (hgd : o.guard = none) (ty : TypeId) (x y : Operand) (ho : o.op = .store ty x y)
    (g : Nat) (l m : List Value) (hx : a.eval x = .pointer (some ⟨g, 0, none⟩)) (hy : a.eval y = .agg m.toArray) (hr : Row w g l) (hi : (Tryz.prog.info? ty).map (·.size) = some m.length) (hl : l.length = m.length) (h1 : m.all (·.oneCell') = true)
    (h : wpList Tryz.prog ops Q rest (a.put o.dst undef) (w.setRow g m.toArray)) : wpList Tryz.prog ops Q (o :: rest) a w := by
  obtain ⟨T, hT⟩ := hr
  refine wpList_store_row hgd _ x y ho g _ hx hy T _ hT (by rw [hi, List.size_toArray]) (by rw [List.size_toArray, List.size_toArray, hl]) (by rw [List.all_toArray]; exact h1) h
/-- a struct out of a block of its own -/
theorem load_cells {ops : Array Oper} {rest : List Oper} {o : Oper} {a : Act} {w : World} {Q : Exit → Act → World → Prop} (hgd : o.guard = none) (ty : TypeId) (x : Operand) (ho : o.op = .load ty x)
    (g : Nat) (l : List Value) (hx : a.eval x = .pointer (some ⟨g, 0, none⟩)) (hr : Row w g l) (d : TypeDesc) (hu : Tryz.prog.underlying ty = some d) (hi : (Tryz.prog.info? ty).map (·.size) = some l.length) (fs : _) (hd : d = .struct fs)
    (h : wpList Tryz.prog ops Q rest (a.put o.dst (.agg l.toArray)) w) : wpList Tryz.prog ops Q (o :: rest) a w := by
  obtain ⟨T, hT⟩ := hr
  subst hd
  exact wpList_load_row hgd _ x ho g hx T _ (0, 0) _ hT hu rfl (by rw [hi, List.size_toArray]) h
/-- how the reading of a transaction stands: what is left, the result's own block -/
structure TxI (w : World) (b : Nat) (n : Nat) (lk : List UInt8) (wk : World) : Prop where
  cur : Row wk b [.string (str lk)]
  own : Row wk w.heap.size tx0
  but : But w.heap.size b w wk
  le : lk.length ≤ n
theorem TxI.step {w : World} {b n : Nat} {lk lk' : List UInt8} {wk wk' : World} (h : TxI w b n lk wk) (hb : b < w.heap.size) (h1 : Row wk' b [.string (str lk')]) (h2 : But wk.heap.size b wk wk') (hl : lk'.length ≤ lk.length) : TxI w b n lk' wk' :=
  ⟨h1, h2.row h.own h.own.lt (by omega), h.but.trans (h2.mono h.but.size), Nat.le_trans hl h.le⟩
theorem TxI.bad {w : World} {b n : Nat} {lk : List UInt8} {wk wk' : World} (h : TxI w b n lk wk) (h2 : But wk.heap.size b wk wk') : But w.heap.size b w wk' := h.but.trans (h2.mono h.but.size)
set_option maxHeartbeats 4000000 in
theorem tx_calls (b : Nat) (l : List UInt8) (w : World) (hT : Tabs w) (h1b : 1 < b) (hr : Row w b [.string (str l)]) (hl : l.length ≤ 9223372036854775807) :
    Calls Tryz.prog 69 #[.pointer (some ⟨b, 0, none⟩)] w (RP (Wr.tx l) txV b w) := by
  have hb := hr.lt
  have h1w := hT.lt
  have I0 : TxI w b l.length l (w.alloc (.cells tx0.toArray 78)) := ⟨hr.alloc _, Row.new w _ _, (But.refl _ _ _).alloc (Nat.le_refl _) _, Nat.le_refl _⟩
  rw [Tryz.zeroTx] at I0
  have HT := Lib.hid hT
  have EQ := Lib.hid (Wr.tx_eq l)
  clear hr hT
  go_enter Tryz.func69, Tryz.ntmps69
  go_upto_region 1 with fail
  generalize w.alloc _ = w1 at I0 ⊢
  have hc := I0.cur.cell 0
  have T1 := Lib.hid (take_calls b 4 l w1 I0.cur (by omega))
  have J := Lib.hid I0
  clear I0
  go_wp2_with fail
  refine T1.out.mono ?_
  clear T1 hc
  cases hx : Wr.take 4 l with
  | bad n => 
    rintro e w2 ⟨rfl, h⟩
    rw [hx] at EQ
    rw [show Wr.tx l = .bad n from EQ.out]
    exact ⟨rfl, rfl, J.out.bad h⟩
  | ok t1 r1 =>
    rintro e w2 ⟨rfl, h3, h4⟩
    rw [hx] at EQ
    have EQ2 := Lib.hid (show Wr.tx l = Wr.txF l ((Wr.upTo 1 4 r1).bind fun n r => (Wr.rep Wr.inp n r).bind fun _ r => Wr.outs r) from EQ.out)
    have J2 := Lib.hid (J.out.step hb h3 h4 ((Wr.take_tail 4 l).le hx))
    have T2 := Lib.hid (upTo_calls b 1 4 r1 w2 h3 (by omega) (by omega))
    clear h3 h4 J EQ hx
    go_wp2_with fail
    refine T2.out.mono ?_
    clear T2
    cases hx : Wr.upTo 1 4 r1 with
    | bad n =>
      rintro e w3 ⟨rfl, h⟩
      rw [hx] at EQ2
      rw [show Wr.tx l = .bad n from EQ2.out]
      exact ⟨rfl, rfl, J2.out.bad h⟩
    | ok n r2 =>
      rintro e w3 ⟨rfl, h3, h4⟩
      rw [hx] at EQ2
      have hn := (Wr.upTo_le hx).2
      have EQ3 := Lib.hid (show Wr.tx l = Wr.txF l ((Wr.rep Wr.inp n r2).bind fun _ r => Wr.outs r) from EQ2.out)
      have J3 := Lib.hid (J2.out.step hb h3 h4 ((Wr.upTo_tail 1 4 r1).le hx))
      clear h3 h4 J2 EQ2 hx
      go_wp2_with fail
      go_loopw [18] (fun iv wr => ∃ (i : Nat) (ri : List UInt8), i ≤ n ∧ iv = .int .i64 i ∧ TxI w b l.length ri wr ∧ Wr.rep Wr.inp n r2 = Wr.rep Wr.inp (n - i) ri) (fun iv _ => n - (intOf iv).toNat)
      case atStart => exact ⟨0, r2, by omega, rfl, J3.out, rfl⟩
      case round =>
        obtain ⟨i, ri, hi, rfl, hI, hE⟩ := hrel
        by_cases hlt : i < n
        · have p1 : (i : Int) < (n : Int) := by omega
          have E1 := Lib.hid (show Wr.rep Wr.inp n r2 = ((Wr.take 36 ri).bind fun _ r => (Wr.script r).bind fun _ r => (Wr.take 4 r).void).bind fun _ r => Wr.rep Wr.inp (n - (i + 1)) r by rw [hE, show n - i = (n - (i + 1)) + 1 by omega]; rfl)
          have T1 := Lib.hid (take_calls b 36 ri wr hI.cur (by omega))
          have K1 := Lib.hid hI
          clear hI hE
          go_wp2_with fail
          refine T1.out.mono ?_
          clear T1
          cases hx : Wr.take 36 ri with
          | bad k =>
            rintro e w4 ⟨rfl, h⟩
            rw [hx] at E1
            exact ⟨rfl, RP.mkBad (by rw [EQ3.out, show Wr.rep Wr.inp n r2 = .bad k from E1.out]; rfl) (K1.out.bad h)⟩
          | ok t1 r3 =>
            rintro e w4 ⟨rfl, h3, h4⟩
            rw [hx] at E1
            have E2 := Lib.hid (show Wr.rep Wr.inp n r2 = ((Wr.script r3).bind fun _ r => (Wr.take 4 r).void).bind fun _ r => Wr.rep Wr.inp (n - (i + 1)) r from E1.out)
            have K2 := Lib.hid (K1.out.step hb h3 h4 ((Wr.take_tail 36 ri).le hx))
            have T2 := Lib.hid (script_calls b r3 w4 h3)
            clear h3 h4 K1 E1 hx
            go_wp2_with fail
            refine T2.out.mono ?_
            clear T2
            cases hx : Wr.script r3 with
            | bad k =>
              rintro e w5 ⟨rfl, h⟩
              rw [hx] at E2
              exact ⟨rfl, RP.mkBad (by rw [EQ3.out, show Wr.rep Wr.inp n r2 = .bad k from E2.out]; rfl) (K2.out.bad h)⟩
            | ok u1 r4 =>
              rintro e w5 ⟨rfl, h3, h4⟩
              rw [hx] at E2
              have E3 := Lib.hid (show Wr.rep Wr.inp n r2 = ((Wr.take 4 r4).void).bind fun _ r => Wr.rep Wr.inp (n - (i + 1)) r from E2.out)
              have K3 := Lib.hid (K2.out.step hb h3 h4 ((Wr.script_tail r3).le hx))
              have T3 := Lib.hid (take_calls b 4 r4 w5 h3 (by omega))
              clear h3 h4 K2 E2 hx
              go_wp2_with fail
              refine T3.out.mono ?_
              clear T3
              cases hx : Wr.take 4 r4 with
              | bad k =>
                rintro e w6 ⟨rfl, h⟩
                rw [hx] at E3
                exact ⟨rfl, RP.mkBad (by rw [EQ3.out, show Wr.rep Wr.inp n r2 = .bad k from E3.out]; rfl) (K3.out.bad h)⟩
              | ok t2 r5 =>
                rintro e w6 ⟨rfl, h3, h4⟩
                rw [hx] at E3
                have E4 := Lib.hid (show Wr.rep Wr.inp n r2 = Wr.rep Wr.inp (n - (i + 1)) r5 from E3.out)
                have K4 := Lib.hid (K3.out.step hb h3 h4 ((Wr.take_tail 4 r4).le hx))
                clear h3 h4 K3 E3 hx
                go_wp2_with fail
                go_roundw
                case rel => exact ⟨i + 1, r5, by omega, by go_num, K4.out, E4.out⟩
                case measure => simp [intOf]; omega
        · obtain rfl : i = n := by omega
          have EQ4 := Lib.hid (show Wr.tx l = Wr.txF l ((Wr.upTo 1 4 ri).bind fun n r => (Wr.rep Wr.outp n r).bind fun _ r => (Wr.take 4 r).void) by rw [EQ3.out, hE, Nat.sub_self]; rfl)
          have J4 := Lib.hid hI
          have T4 := Lib.hid (upTo_calls b 1 4 ri wr hI.cur (by omega) (by omega))
          clear hI hE J3 EQ3 hn hi
          go_wp2_with fail
          refine T4.out.mono ?_
          clear T4
          cases hx : Wr.upTo 1 4 ri with
          | bad k =>
            rintro e w4 ⟨rfl, h⟩
            rw [hx] at EQ4
            exact ⟨rfl, RP.mkBad EQ4.out (J4.out.bad h)⟩
          | ok m r6 =>
            rintro e w4 ⟨rfl, h3, h4⟩
            rw [hx] at EQ4
            have hm := (Wr.upTo_le hx).2
            have EQ5 := Lib.hid (show Wr.tx l = Wr.txF l ((Wr.rep Wr.outp m r6).bind fun _ r => (Wr.take 4 r).void) from EQ4.out)
            have J5 := Lib.hid (J4.out.step hb h3 h4 ((Wr.upTo_tail 1 4 ri).le hx))
            clear h3 h4 J4 EQ4 hx
            go_wp2_with fail
            go_loopw [35] (fun iv wr => ∃ (j : Nat) (rj : List UInt8), j ≤ m ∧ iv = .int .i64 j ∧ TxI w b l.length rj wr ∧ Wr.rep Wr.outp m r6 = Wr.rep Wr.outp (m - j) rj) (fun iv _ => m - (intOf iv).toNat)
            case atStart => exact ⟨0, r6, by omega, rfl, J5.out, rfl⟩
            case round =>
              obtain ⟨j, rj, hj, rfl, hI, hE⟩ := hrel
              by_cases hlt : j < m
              · have p1 : (j : Int) < (m : Int) := by omega
                have E1 := Lib.hid (show Wr.rep Wr.outp m r6 = ((Wr.take 8 rj).bind fun _ r => Wr.script r).bind fun _ r => Wr.rep Wr.outp (m - (j + 1)) r by rw [hE, show m - j = (m - (j + 1)) + 1 by omega]; rfl)
                have T1 := Lib.hid (take_calls b 8 rj wr hI.cur (by omega))
                have K1 := Lib.hid hI
                clear hI hE
                go_wp2_with fail
                refine T1.out.mono ?_
                clear T1
                cases hx : Wr.take 8 rj with
                | bad k =>
                  rintro e w5 ⟨rfl, h⟩
                  rw [hx] at E1
                  exact ⟨rfl, RP.mkBad (by rw [EQ5.out, show Wr.rep Wr.outp m r6 = .bad k from E1.out]; rfl) (K1.out.bad h)⟩
                | ok t1 r3 =>
                  rintro e w5 ⟨rfl, h3, h4⟩
                  rw [hx] at E1
                  have E2 := Lib.hid (show Wr.rep Wr.outp m r6 = (Wr.script r3).bind fun _ r => Wr.rep Wr.outp (m - (j + 1)) r from E1.out)
                  have K2 := Lib.hid (K1.out.step hb h3 h4 ((Wr.take_tail 8 rj).le hx))
                  have T2 := Lib.hid (script_calls b r3 w5 h3)
                  clear h3 h4 K1 E1 hx
                  go_wp2_with fail
                  refine T2.out.mono ?_
                  clear T2
                  cases hx : Wr.script r3 with
                  | bad k =>
                    rintro e w6 ⟨rfl, h⟩
                    rw [hx] at E2
                    exact ⟨rfl, RP.mkBad (by rw [EQ5.out, show Wr.rep Wr.outp m r6 = .bad k from E2.out]; rfl) (K2.out.bad h)⟩
                  | ok u1 r4 =>
                    rintro e w6 ⟨rfl, h3, h4⟩
                    rw [hx] at E2
                    have E3 := Lib.hid (show Wr.rep Wr.outp m r6 = Wr.rep Wr.outp (m - (j + 1)) r4 from E2.out)
                    have K3 := Lib.hid (K2.out.step hb h3 h4 ((Wr.script_tail r3).le hx))
                    clear h3 h4 K2 E2 hx
                    go_wp2_with fail
                    go_roundw
                    case rel => exact ⟨j + 1, r4, by omega, by go_num, K3.out, E3.out⟩
                    case measure => simp [intOf]; omega
              · obtain rfl : j = m := by omega
                have EQ6 := Lib.hid (show Wr.tx l = Wr.txF l (Wr.take 4 rj).void by rw [EQ5.out, hE, Nat.sub_self]; rfl)
                have J6 := Lib.hid hI
                have T6 := Lib.hid (take_calls b 4 rj wr hI.cur (by omega))
                clear hI hE J5 EQ5 hm hj
                go_wp2_with fail
                refine T6.out.mono ?_
                clear T6
                cases hx : Wr.take 4 rj with
                | bad k =>
                  rintro e w5 ⟨rfl, h⟩
                  rw [hx] at EQ6
                  exact ⟨rfl, RP.mkBad EQ6.out (J6.out.bad h)⟩
                | ok t9 r9 =>
                  rintro e w5 ⟨rfl, h3, h4⟩
                  rw [hx] at EQ6
                  have J7 := Lib.hid (J6.out.step hb h3 h4 ((Wr.take_tail 4 rj).le hx))
                  have EQ7 := Lib.hid (show Wr.tx l = .ok (l.take (l.length - r9.length)) r9 from EQ6.out)
                  have hsh := Wr.tx_short EQ7.out
                  have hle := J7.out.le
                  have hc := J7.out.cur.cell 0
                  clear h3 h4 J6 EQ6 hx
                  have q1 : wrap64 ((l.length : Int) - (r9.length : Int)) = (l.length : Int) - (r9.length : Int) := by unfold wrap64; omega
                  have q2 : (0 : Int) ≤ (l.length : Int) - (r9.length : Int) := by omega
                  have q3 : ((l.length : Int) - (r9.length : Int)).toNat = l.length - r9.length := by omega
                  go_upto_region 16 with fail
                  generalize l.take (l.length - r9.length) = t at hsh EQ7 ⊢
                  clear hc q1 q2 q3
                  have HTx := Lib.hid (J7.out.but.tabs HT.out h1w h1b)
                  have hz5 := J7.out.but.size
                  go_wp2_with fail
                  have I8 : TxI w b l.length r9 (w5.alloc (.cells #[.string (str t)] 9)) := J7.out.step hb (J7.out.cur.alloc _) ((But.refl _ _ _).alloc (Nat.le_refl _) _) (Nat.le_refl _)
                  refine (htwice_one w5.heap.size 1 t _ (HTx.out.below ((Below.refl w5.heap.size w5).alloc (Nat.le_refl _) _) (by omega)) ((Row.new w5 [.string (str t)] 9).cell 0) (by omega)).mono ?_
                  rintro e w6 ⟨rfl, hb6⟩
                  have I9 : TxI w b l.length r9 w6 := I8.step hb (I8.cur.below hb6 I8.cur.lt) (But.of_below hb6) (Nat.le_refl _)
                  have HI := Lib.hid I9
                  have hro := I9.own
                  clear I8 I9 hb6 HTx J7
                  go_wp2_with (first | (refine build_tx (o := ⟨some 63, _, _, _, _, _⟩) rfl _ _ rfl t (Mk.twice t) (Sha.sum32 _) rfl rfl ?_) | (with_reducible refine store_cells (o := ⟨none, _, _, _, _, _⟩) rfl _ _ _ rfl w.heap.size tx0 (txCells t) rfl rfl hro (infoTx.trans (by rw [txCells_len])) (by rw [txCells_len, tx0_len]) (txCells_one t) ?_))
                  obtain ⟨T2, hT2⟩ := hro.setRow (txCells t)
                  exact bodyPost_ret (v := txV t) (results_cell_row (fn := Tryz.f69) rfl _ _ w.heap.size T2 _ (0, 0) _ rfl hT2 Tryz.underlying78 rfl (by rw [infoTx, List.size_toArray, txCells_len])) rfl
                    (RP.mkOk EQ7.out (HI.out.cur.setOther (by omega) _) (HI.out.but.trans (But.of_below (below_setRow (Below.refl _ _) (Nat.le_refl _) _))))
end Go.Proofs.YtlpcjiollnnmgabGreatDoor
