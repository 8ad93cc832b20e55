import Derived.Test.YtlpcjiollnnmgaaGreatDoorM04
import Derived.Test.YtlpcjiollnnmgaaGreatDoorM08
set_option maxRecDepth 100000
set_option maxHeartbeats 8000000
set_option linter.all false
namespace Go.Proofs.YtlpcjiollnnmgaaGreatDoor
open Go.Proofs.Tryz
namespace Ph
open Go.Conc Rn Nums
open Go.RowKit
open Tp (Bodied bodied Term Ld Arr arr_stop arr_step arr_steps gor)
noncomputable def W:Code:=cb Tryz.f65
noncomputable def WX:Code:=ci (ci (cr (cl W)))
def bw:Frame:={(default:Frame)with fn:=65,kind:=.deferred}
def Hw(kd:List UInt8):List Obj:=[junk,junk,junk,junk,junk,fz [.chan (some 2)] 132,fz [.chan (some 3)] 133,fz (keyCells kd) 93,fz [.chan (some 4)] 134]
abbrev lp(r:Nat):Value:=.pointer (some ⟨r,0,none⟩)
def fvT(kd t:List UInt8):Value:=.agg (.string (str (En.six (Sip.sip (En.key0 kd) (En.key1 kd) (Mk.twice t))))::txCells t).toArray
noncomputable def tJ:List Item:=[.inRegion (co (cl WX)) [0,1],.code (cr WX),.inLoop WX,.inBlock 0,.code (cr W)]
noncomputable def tR:List Item:=[.inRegion (co (cr (ci (cr (cr WX))))) [7],.inBlock 1,.inLoop WX,.inBlock 0,.code (cr W)]
noncomputable def tD:List Item:=[.inRegion (co (cr W)) [2]]
def WA(kd:List UInt8):Ctl (List UInt8)->Goroutine->World->Prop
 |.recvJ=>λg v=>(∃x4 x6 x7 x8 x9 x10 x11 x12 x13 x14 x15 x16 x17,g=gor (bw.at ⟨#[lp 5,lp 6,lp 7,lp 8,x4,.chan (some 2),x6,x7,x8,x9,x10,x11,x12,x13,x14,x15,x16,x17],[]⟩ tJ) [wall])/\Pre v (Hw kd)|.sendR t=>λg v=>(∃x4 x6 x7 x8 x10 x11 x12 x13 x14 x16 x17,g=gor (bw.at ⟨#[lp 5,lp 6,lp 7,lp 8,x4,.chan (some 2),x6,x7,x8,.chan (some 3),x10,x11,x12,x13,x14,fvT kd t,x16,x17],[]⟩ tR) [wall])/\Pre v (Hw kd)|.sendD=>λg v=>(∃x4 x6 x7 x8 x9 x10 x11 x12 x13 x14 x15,g=gor (bw.at ⟨#[lp 5,lp 6,lp 7,lp 8,x4,.chan (some 2),x6,x7,x8,x9,x10,x11,x12,x13,x14,x15,.chan (some 4),.agg #[]],[]⟩ tD) [wall])/\Pre v (Hw kd)|_=>λ_ _=>False
def WA.re{kd c g v}(h:WA kd c g v) τ n:WA kd c g (v.re τ n):=by cases c<;>exact h
def hW:W=.seq (cl W) (cr W):=rfl
def hWl:cl W=.seq (cl (cl W)) (cr (cl W)):=rfl
def hWb:cr (cl W)=.block 0 (ci (cr (cl W))):=rfl
def hWo:ci (cr (cl W))=.loop WX:=rfl
def hWX:WX=.seq (cl WX) (cr WX):=rfl
def enter_w(p q r u:Value):Frame.enter prog 65 #[p,q,r,u] .deferred=bw.at ⟨#[p,q,r,u,undef,undef,undef,undef,undef,undef,undef,undef,undef,undef,undef,undef,undef,undef],[]⟩ [.code W]:=by unfold Frame.enter;rw[func65];rfl
def built_found32(x s:ByteArray)(a0 a1 a2 a3 a4 a5 a6 a7 a8 a9 a10 a11 a12 a13 a14 a15 a16 a17 a18 a19 a20 a21 a22 a23 a24 a25 a26 a27 a28 a29 a30 a31:UInt8):prog.built 136 [(0,.string x),(1,.agg (.string s::w8 [a0,a1,a2,a3,a4,a5,a6,a7,a8,a9,a10,a11,a12,a13,a14,a15,a16,a17,a18,a19,a20,a21,a22,a23,a24,a25,a26,a27,a28,a29,a30,a31]).toArray)]=some (.string x::.string s::w8 [a0,a1,a2,a3,a4,a5,a6,a7,a8,a9,a10,a11,a12,a13,a14,a15,a16,a17,a18,a19,a20,a21,a22,a23,a24,a25,a26,a27,a28,a29,a30,a31]).toArray:=by kernel_rfl
def built_found(x s:ByteArray)(d:List UInt8)(hd:d.length=32):prog.built 136 [(0,.string x),(1,.agg (.string s::w8 d).toArray)]=some (.string x::.string s::w8 d).toArray:=
 match d,hd with
 |[a0,a1,a2,a3,a4,a5,a6,a7,a8,a9,a10,a11,a12,a13,a14,a15,a16,a17,a18,a19,a20,a21,a22,a23,a24,a25,a26,a27,a28,a29,a30,a31],_=>built_found32 x s a0 a1 a2 a3 a4 a5 a6 a7 a8 a9 a10 a11 a12 a13 a14 a15 a16 a17 a18 a19 a20 a21 a22 a23 a24 a25 a26 a27 a28 a29 a30 a31
def build_found{ops:Array Oper}{rest:List Oper}{o:Oper}{a:Act}{w:World}{Q:Exit->Act->World->Prop}(hgd:o.guard=none)(x y:Operand)(ho:o.op=.build 136 #[(0,x),(1,y)]) (s t:List UInt8) (hx:a.eval x=.string (str s)) (hy:a.eval y=.agg (txCells t).toArray) (h:wpList prog ops Q rest (a.put o.dst (.agg (.string (str s)::txCells t).toArray)) w):wpList prog ops Q (o::rest) a w:=by refine wpList_buildTo hgd 136 _ ho _ rfl _ ?_ h;simp only[List.map_toArray,List.map_cons,List.map_nil,hx,hy];exact built_found (str s) (str t) (Mk.twice t) (twice32 t)
def quiet_key{ops:Array Oper}{rest:List Oper}{o:Oper}{a:Act}{C:World->Prop}{Q:Act->Prop}(hgd:o.guard=none)(x:Operand)(ho:o.op=.load 93 x) (g off:Nat) (kd:List UInt8) (hx:a.eval x=.pointer (some ⟨g,off,none⟩)) (hr:∀w,C w->w.rangeAt g off (keyCells kd)) (h:wpQuiet prog ops C Q rest (a.put o.dst (.agg (keyCells kd).toArray))):wpQuiet prog ops C Q (o::rest) a:=by unfold wpQuiet;rw[if_pos (by simp[Region.wanted,hgd])];refine⟨_,λw hw=>?_,h⟩;have:=run_loadAt_mid (P:=prog) w g off 93 (keyCells kd) _ (hr w hw) underlying93 rfl (info_key.trans rfl);unfold Oper.quietAt execOp;simp only[ho,hx,Sem.run_bind,this,Result.andThen_ok,Sem.run_pure,Oper.quietUpon];first|trivial|exact⟨trivial,trivial⟩|exact⟨rfl,rfl⟩|exact⟨rfl,hw⟩
def Pre.below{v w l B}(h:Pre v l)(hb:Below B v w)(hl:l.length<=B):Pre w l:=h.keep λb hb'=>hb.block b (by omega)
section
variable{kd:List UInt8}{v:World}
def w_round(h:Pre v (Hw kd)) x4 x6 x7 x8 x9 x10 x11 x12 x13 x14 x15 x16 x17:Arr prog (WA kd .recvJ) (bw.at ⟨#[lp 5,lp 6,lp 7,lp 8,x4,.chan (some 2),x6,x7,x8,x9,x10,x11,x12,x13,x14,x15,x16,x17],[]⟩ [.code WX,.inLoop WX,.inBlock 0,.code (cr W)]) [wall] v:=by refine arr_seqE hWX ?_;refine arr_cut0E (s:=0) (r:=[0,1]) rfl rfl ?_;show Arr _ _ _ _ _;exact arr_stop ⟨⟨_,_,_,_,_,_,_,_,_,_,_,_,_,rfl⟩,h⟩
def w_start(h:Pre v (Hw kd)):Term prog (WA kd .recvJ) (gor (Frame.enter prog 65 #[lp 5,lp 6,lp 7,lp 8] .deferred) [wall]) v:=by rw[enter_w];refine term_of_arr bodied (λg w τ n (h:WA kd .recvJ g w)=>h.re τ n) rfl λτ n=>?_;have h:Pre (v.re τ n) (Hw kd):=h;generalize v.re τ n=v at h;refine arr_seqE hW (arr_seqE hWl ?_);have l5:v.cell? ⟨5,0,none⟩=some (.chan (some 2)):=h.row (i:=5) rfl 0;refine arr_wpE (c':=.region _ _ _) rfl ?_;go_wp2_with fail;refine arr_blockE hWb (arr_loopE hWo ?_);exact w_round h _ _ _ _ _ _ _ _ _ _ _ _ _
def hWX1:cr WX=.seq (cl (cr WX)) (cr (cr WX)):=rfl
def hWX2:cr (cr WX)=.block 1 (ci (cr (cr WX))):=rfl
def hWX3:ci (cr (cr WX))=.seq (cl (ci (cr (cr WX)))) (cr (ci (cr (cr WX)))):=rfl
def w_recv{t g}(h:WA kd .recvJ g v):Term prog (WA kd (.sendR t)) (Go.Conc.served g (.tuple #[txV t,.bool true])) v:=by
 obtain⟨⟨x4,x6,x7,x8,x9,x10,x11,x12,x13,x14,x15,x16,x17,rfl⟩,h⟩:=h;unfold tJ;rw[served_at (o:=⟨some 6,_,_,_,_,_⟩) rfl];show Term _ _ (gor (bw.at ⟨#[lp 5,lp 6,lp 7,lp 8,x4,.chan (some 2),.tuple #[.agg (txCells t).toArray,.bool true],x7,x8,x9,x10,x11,x12,x13,x14,x15,x16,x17],[]⟩ _) _) v;refine term_of_arr bodied (λg w τ n (h:WA kd (.sendR t) g w)=>h.re τ n) rfl λτ n=>?_;have h:Pre (v.re τ n) (Hw kd):=h;generalize v.re τ n=v at h;refine Tp.arr_value (o:=⟨some 7,_,_,_,_,_⟩) (v:=.bool true) rfl rfl rfl ?_;show Arr _ _ (bw.at ⟨#[lp 5,lp 6,lp 7,lp 8,x4,.chan (some 2),.tuple #[.agg (txCells t).toArray,.bool true],.bool true,x8,x9,x10,x11,x12,x13,x14,x15,x16,x17],[]⟩ _) _ _;refine Tp.arr_regionEnd (arr_seqE hWX1 (arr_condE (t:=true) rfl rfl (arr_skipE rfl (arr_blockE hWX2 (arr_seqE hWX3 ?_)))));have r1:Row (v.alloc (.cells tx0.toArray 69)) v.heap.size tx0:=Row.new v tx0 69;have hB:Below v.heap.size v (v.alloc (.cells tx0.toArray 69)):=(Below.refl _ _).alloc (Nat.le_refl _) _;have B1:=Lib.hid (below_setRow hB (Nat.le_refl _) (txCells t).toArray);have H2:=r1.setRow (txCells t);rw[Tryz.zeroTx]at r1 hB B1 H2;have H1:=r1;have HP:=Lib.hid h;clear r1 hB h;refine arr_wpE (c':=.region _ _ _) rfl ?_;go_wp2_with (with_reducible refine store_cells (o:=⟨none,_,_,_,_,_⟩) rfl _ _ _ rfl v.heap.size tx0 (txCells t) rfl rfl H1 (infoTx.trans (by rw[txCells_len])) (by rw[txCells_len,tx0_len]) (txCells_one t) ?_);clear H1;have P2:Pre _ (Hw kd):=HP.out.below B1.out HP.out.le;have hA9:9<=v.heap.size:=HP.out.le;obtain⟨A,hA⟩:∃A,v.heap.size=A:=⟨_,rfl⟩;rw[hA]at B1 H2 P2 hA9|-;clear B1 HP hA;generalize World.setRow _ A (txCells t).toArray=w2 at H2 P2|-;have hu6:∀u:Reg.Of (λu=>Pre u (Hw kd)/\Row u A (txCells t)),u.w.cell? ⟨6,0,none⟩=some (.chan (some 3)):=λu=>u.h.1.row (i:=6) rfl 0;haveI hne:Nonempty (Reg.Of (λu=>Pre u (Hw kd)/\Row u A (txCells t))):=⟨⟨w2,P2,H2⟩⟩;refine arr_cutE (S:=Reg.cls (λu=>Pre u (Hw kd)/\Row u A (txCells t))) (s:=7) (fo:=#[_,_,_,_,_,_,_,⟨none,.move (.const undef),0,"relay.go:183",#[_,_,_],none⟩]) rfl mixed (by kernel_rfl) (by kernel_rfl) rfl rfl ?_;refine Reg.restL [0,1,2,3,5] 3 (by rfl) (by kernel_rfl) (by rfl) (λc a d v w h=>h) (by as_aux_lemma=>kernel_rfl) (by rfl) (Reg.cls_mk ⟨P2,H2⟩) ?_;show wpQuiet _ _ _ _ [_,_,_,_,_] _;go_big_quiet_step (fail);refine quiet_key (o:=⟨some 10,_,_,_,_,_⟩) rfl _ rfl 7 0 kd rfl (λw hw=>by obtain⟨u,rfl⟩:=hw;exact λj x hx=>by rw[Nat.zero_add,u.h.1.row (i:=7) rfl j];exact hx) ?_;go_frame;go_big_quiet_step (fail);refine wpQuiet_load (o:=⟨some 12,_,_,_,_,_⟩) rfl _ rfl A 1 (Mk.twice t) (twice32 t) rfl (λw hw=>by obtain⟨u,rfl⟩:=hw;exact λj x hx=>by rw[u.h.2.cell];show(Value.string (str t)::w8 (Mk.twice t))[1+j]? =_;rw[Nat.add_comm];exact hx) ?_;go_frame;refine Mp.quiet_tx (o:=⟨some 14,_,_,_,_,_⟩) rfl _ rfl A 0 t rfl (λw hw=>by obtain⟨u,rfl⟩:=hw;exact λj x hx=>by rw[Nat.zero_add,u.h.2.cell];exact hx) ?_;go_frame;refine wpQuiet_nil ?_;have T1:=Lib.hid (pshort_calls kd (Mk.twice t) w2.drew (twice32 t));have P3:Pre w2.drew (Hw kd):=P2;have R3:=H2.drew;have hAl:=R3.lt;clear hu6 P2 H2;show wpAnyH _ _ _ _ _ _ _ _ w2.drew;generalize w2.drew=w3 at P3 R3 T1 hAl|-;refine Reg.one 4 _ (by kernel_rfl) rfl rfl ?_;try go_frame
 go_wp2_with fail;refine T1.out.mono ?_;clear T1;rintro e w4⟨rfl,hb4⟩;have P4:Pre w4 (Hw kd):=P3.below hb4 P3.le;have R4:=R3.below hb4 hAl;clear hb4 P3 R3 hAl;go_wp2_with fail;refine⟨Reg.cls_mk ⟨P4,R4⟩,?_⟩;refine Reg.one 6 _ (by kernel_rfl) rfl rfl ?_
 try go_frame
 refine build_found (o:=⟨some 15,_,_,_,_,_⟩) rfl _ _ rfl _ t rfl rfl ?_;go_frame;go_wp2_with fail;refine⟨Reg.cls_mk ⟨P4,R4⟩,?_⟩;refine Reg.one 7 _ (by kernel_rfl) rfl rfl ?_;go_wp2_with fail;refine⟨Reg.cls_mk ⟨P4,R4⟩,?_⟩;refine wpAnyH_done (by kernel_rfl) ?_ 0
 exact arr_stop ⟨⟨_,_,_,_,_,_,_,_,_,_,_,rfl⟩,P4⟩
def w_end{g z}(h:WA kd .recvJ g v):Term prog (WA kd .sendD) (Go.Conc.served g (.tuple #[z,.bool false])) v:=by obtain⟨⟨x4,x6,x7,x8,x9,x10,x11,x12,x13,x14,x15,x16,x17,rfl⟩,h⟩:=h;unfold tJ;rw[served_at (o:=⟨some 6,_,_,_,_,_⟩) rfl];show Term _ _ (gor (bw.at ⟨#[lp 5,lp 6,lp 7,lp 8,x4,.chan (some 2),.tuple #[z,.bool false],x7,x8,x9,x10,x11,x12,x13,x14,x15,x16,x17],[]⟩ _) _) v;refine term_of_arr bodied (λg w τ n (h:WA kd .sendD g w)=>h.re τ n) rfl λτ n=>?_;have h:Pre (v.re τ n) (Hw kd):=h;generalize v.re τ n=v at h;refine Tp.arr_value (o:=⟨some 7,_,_,_,_,_⟩) (v:=.bool false) rfl rfl rfl ?_;show Arr _ _ (bw.at ⟨#[lp 5,lp 6,lp 7,lp 8,x4,.chan (some 2),.tuple #[z,.bool false],.bool false,x8,x9,x10,x11,x12,x13,x14,x15,x16,x17],[]⟩ _) _ _;refine Tp.arr_regionEnd (arr_seqE hWX1 (arr_condE (t:=false) rfl rfl (arr_exitE rfl rfl ?_)));have l8:v.cell? ⟨8,0,none⟩=some (.chan (some 4)):=h.row (i:=8) rfl 0;refine arr_pre 2 [2] rfl rfl (by decide +kernel) ?_;show wpList _ _ _ [_,_] _ _;go_wp2_with fail;exact arr_stop ⟨⟨_,_,_,_,_,_,_,_,_,_,_,rfl⟩,h⟩
def w_sent{t g}(h:WA kd (.sendR t) g v):Term prog (WA kd .recvJ) (Go.Conc.served g undef) v:=by obtain⟨⟨x4,x6,x7,x8,x10,x11,x12,x13,x14,x16,x17,rfl⟩,h⟩:=h;unfold tR;rw[served_at (o:=⟨none,_,_,_,_,_⟩) rfl];show Term _ _ (gor (bw.at ⟨#[lp 5,lp 6,lp 7,lp 8,x4,.chan (some 2),x6,x7,x8,.chan (some 3),x10,x11,x12,x13,x14,fvT kd t,x16,x17],[]⟩ _) _) v;refine term_of_arr bodied (λg w τ n (h:WA kd .recvJ g w)=>h.re τ n) rfl λτ n=>?_;have h:Pre (v.re τ n) (Hw kd):=h;generalize v.re τ n=v at h;refine Tp.arr_regionEnd (Tp.arr_inBlock (Tp.arr_inLoop ?_));exact w_round h _ _ _ _ _ _ _ _ _ _ _ _ _
end
end Ph
namespace Ph
open Go.Conc Rn Nums
open Go.RowKit
open Tp (Bodied bodied Term Ld Arr arr_stop arr_step arr_steps gor)
noncomputable def F:Code:=cb Tryz.f66
noncomputable def FX:Code:=ci (ci (cr (cl F)))
noncomputable def FY:Code:=ci (ci (cr (cl (cr (cr F)))))
def bf:Frame:={(default:Frame)with fn:=66,kind:=.deferred}
def poison:Value:=.func (.method "") #[.nilIface] #[]
def Hf(es:Array MapEntry)(clock:Nat):List Obj:=[junk,junk,junk,junk,junk,fz [lp 9] 72,fz [.chan (some 2)] 132,fz [.chan (some 4)] 134,fz [.chan (some 3)] 133,fz [.map (some 10),poison,poison,poison] 41,.map es clock]
noncomputable def tS:List Item:=[.inRegion (co (cr (ci (cr (cr FX))))) [2],.inBlock 1,.inLoop FX,.inBlock 0,.code (cr F)]
noncomputable def tCJ:List Item:=[.inRegion (co (cl (cr F))) [1],.code (cr (cr F))]
noncomputable def tRD:List Item:=[.inRegion (co (ci (cl (cr (cr FY))))) [1],.inBlock 3,.code (cr (cr (cr FY))),.inLoop FY,.inBlock 2,.code (cr (cr (cr F)))]
noncomputable def tCR:List Item:=[.inRegion (co (cr (cr (cr F)))) [1]]
def remL(left:Lit->Bool)(P:List (List UInt8)):List (List UInt8):=P.filter λt=>left (.string (Mk.twice t))
def remL_none{left}(h:∀kl,left kl=false) P:remL left P=[]:=by unfold remL;rw[List.filter_eq_nil_iff];intro t _;rw[h];simp
def remL_all(P:List (List UInt8))(hup:Pl.Up Mk.twice P):remL (Maps.has (Mp.D P)) P=P:=by unfold remL;rw[List.filter_eq_self];intro t ht;rw[Mp.has_ents P _ hup];exact(Pl.at_mem Mk.twice (Mk.twice t) P hup).2 ⟨t,ht,rfl⟩
theorem remL_next(left:Lit->Bool)(t:List UInt8)(hl:left (.string (Mk.twice t))=true):∀(P:List (List UInt8)),Pl.Up Mk.twice P->t∈P->(remL left P).Perm (t::remL (λz=>left z&& !z.sameKey (.string (Mk.twice t))) P)
 |[],_,h=>by cases h
 |y::P,hup,h=>by
  obtain⟨h1,h2⟩:=List.pairwise_cons.1 hup;unfold remL at *;by_cases hy:y=t;subst hy;rw[List.filter_cons_of_pos (p:=λt=>left (.string (Mk.twice t))) hl,List.filter_cons_of_neg (by dsimp only;rw[Mp.same_iff];simp)];refine List.Perm.cons _ ?_;have:P.filter (λu=>left (.string (Mk.twice u)))=P.filter (λu=>left (.string (Mk.twice u))&& !(Lit.string (Mk.twice u)).sameKey (.string (Mk.twice y))):=List.filter_congr λu hu=>by
   have hne:Mk.twice y≠Mk.twice u:=λe=>by have:=h1 u hu;rw[e]at this;exact Pl.lt_irr _ this
   rw[Mp.same_iff];have:(Mk.twice u==Mk.twice y)=false:=by simpa using λe=>hne e.symm
   rw[this];simp
  rw[this];have ht:t∈P:=by rcases List.mem_cons.1 h with e|h;exact absurd e.symm hy;exact h
  have ih:=remL_next left t hl P h2 ht;unfold remL at ih;have hne:Mk.twice y≠Mk.twice t:=λe=>by have:=h1 t ht;rw[e]at this;exact Pl.lt_irr _ this
  have hk:(!(Lit.string (Mk.twice y)).sameKey (.string (Mk.twice t)))=true:=by
   rw[Mp.same_iff];have:(Mk.twice y==Mk.twice t)=false:=by simpa using hne
   rw[this];rfl
  by_cases hyl:left (.string (Mk.twice y))=true;rw[List.filter_cons_of_pos (p:=λt=>left (.string (Mk.twice t))) hyl,List.filter_cons_of_pos (by dsimp only;rw[hyl,hk];rfl)];exact(List.Perm.cons y ih).trans (List.Perm.swap t y _);rw[List.filter_cons_of_neg (p:=λt=>left (.string (Mk.twice t))) hyl,List.filter_cons_of_neg (by simp[hyl])];exact ih
def at_key{P:List (List UInt8)}{x:List UInt8}{z:DataW Unit}(h:∀zd,(Mp.D P).atKey (.string x) zd=z):∃t∈P,Mk.twice t=x/\z=.lit (.string t):=by
 unfold Mp.D DataW.atKey at h;dsimp only at h;cases hf:(Mp.ents P).find? (λp=>p.1.sameKey (.string x))with
 |none=>rw[hf]at h;have h1:=h .nil;have h2:=h (.lit (.bool true));rw[<-h1]at h2;cases h2
 |some p=>rw[hf]at h;have hm:=List.mem_of_find?_eq_some hf;have hp:=List.find?_some hf;unfold Mp.ents at hm;obtain⟨t,ht,rfl⟩:=List.mem_map.1 hm;rw[Mp.same_iff]at hp;exact⟨t,ht,by simpa using hp,(h .nil).symm⟩
def FA(P:List (List UInt8))(es:Array MapEntry)(clock:Nat):Ctl (List UInt8)->Goroutine->World->Prop
 |.sendJ t rem=>λg v=>(∃x4 x5 x6 x7 x8 x9 x11 x12 x13 x14 x17 x18 x19 x20 x21 x22 x23,g=gor (bf.at ⟨#[lp 5,lp 6,lp 7,lp 8,x4,x5,x6,x7,x8,x9,lp 11,x11,x12,x13,x14,.chan (some 2),txV t,x17,x18,x19,x20,x21,x22,x23],[]⟩ tS) [wall])/\Pre v (Hf es clock)/\∃left cnt,v.ranges prog 67 Mp.txR 10 11 20 (Mp.D P) left cnt/\rem.Perm (remL left P)|.closeJ=>λg v=>(∃x4 x5 x6 x7 x8 x9 x10 x11 x12 x13 x14 x15 x16 x18 x19 x20 x21 x22 x23,g=gor (bf.at ⟨#[lp 5,lp 6,lp 7,lp 8,x4,x5,x6,x7,x8,x9,x10,x11,x12,x13,x14,x15,x16,.chan (some 2),x18,x19,x20,x21,x22,x23],[]⟩ tCJ) [wall])/\Pre v (Hf es clock)|.recvD k=>λg v=>(∃x4 x5 x6 x7 x8 x9 x10 x11 x12 x13 x14 x15 x16 x17 x19 x21 x22 x23,g=gor (bf.at ⟨#[lp 5,lp 6,lp 7,lp 8,x4,x5,x6,x7,x8,x9,x10,x11,x12,x13,x14,x15,x16,x17,.int .i64 (k:Int),x19,.chan (some 4),x21,x22,x23],[]⟩ tRD) [wall])/\Pre v (Hf es clock)/\k<3|.closeR=>λg v=>(∃x4 x5 x6 x7 x8 x9 x10 x11 x12 x13 x14 x15 x16 x17 x18 x19 x20 x21 x22,g=gor (bf.at ⟨#[lp 5,lp 6,lp 7,lp 8,x4,x5,x6,x7,x8,x9,x10,x11,x12,x13,x14,x15,x16,x17,x18,x19,x20,x21,x22,.chan (some 3)],[]⟩ tCR) [wall])/\Pre v (Hf es clock)|_=>λ_ _=>False
def FA.re{P es clock c g v}(h:FA P es clock c g v) τ n:FA P es clock c g (v.re τ n):=by cases c<;>exact h
def FStop(P:List (List UInt8))(es:Array MapEntry)(clock:Nat)(rem:List (List UInt8))(g:Goroutine)(v:World):Prop:=(∃a rem',rem.Perm (a::rem')/\FA P es clock (.sendJ a rem') g v)∨(rem=[]/\FA P es clock .closeJ g v)
theorem FStop.re{P es clock rem g v}(h:FStop P es clock rem g v) τ n:FStop P es clock rem g (v.re τ n):=h.imp (λ⟨a,r,h1,h2⟩=>⟨a,r,h1,h2.re τ n⟩) (λ⟨h1,h2⟩=>⟨h1,h2.re τ n⟩)
def hF:F=.seq (cl F) (cr F):=rfl
def hFl:cl F=.seq (cl (cl F)) (cr (cl F)):=rfl
def hFb:cr (cl F)=.block 0 (ci (cr (cl F))):=rfl
def hFo:ci (cr (cl F))=.loop FX:=rfl
def hFX:FX=.seq (cl FX) (cr FX):=rfl
def hFX1:cr FX=.seq (cl (cr FX)) (cr (cr FX)):=rfl
def hFX2:cr (cr FX)=.block 1 (ci (cr (cr FX))):=rfl
def hFX3:ci (cr (cr FX))=.seq (cl (ci (cr (cr FX)))) (cr (ci (cr (cr FX)))):=rfl
def hFr:cr F=.seq (cl (cr F)) (cr (cr F)):=rfl
def hFrr:cr (cr F)=.seq (cl (cr (cr F))) (cr (cr (cr F))):=rfl
def hFy:cl (cr (cr F))=.seq (cl (cl (cr (cr F)))) (cr (cl (cr (cr F)))):=rfl
def hFyb:cr (cl (cr (cr F)))=.block 2 (ci (cr (cl (cr (cr F))))):=rfl
def hFyo:ci (cr (cl (cr (cr F))))=.loop FY:=rfl
def hFY:FY=.seq (cl FY) (cr FY):=rfl
def hFY1:cr FY=.seq (cl (cr FY)) (cr (cr FY)):=rfl
def hFY2:cr (cr FY)=.seq (cl (cr (cr FY))) (cr (cr (cr FY))):=rfl
def hFY3:cl (cr (cr FY))=.block 3 (ci (cl (cr (cr FY)))):=rfl
def enter_f(p q r u:Value):Frame.enter prog 66 #[p,q,r,u] .deferred=bf.at ⟨#[p,q,r,u,undef,undef,undef,undef,undef,undef,undef,undef,undef,undef,undef,undef,undef,undef,undef,undef,undef,undef,undef,undef],[]⟩ [.code F]:=by unfold Frame.enter;rw[func66];kernel_rfl
def rg_below{P:List (List UInt8)}{v w:World}{left:Lit->Bool}{cnt B:Nat}(h:v.ranges prog 67 Mp.txR 10 11 20 (Mp.D P) left cnt)(h12:11<B)(hb:Below B v w):w.ranges prog 67 Mp.txR 10 11 20 (Mp.D P) left cnt:=by obtain⟨es,clock,since,seen,c0,h1,h2,h3,h4,h5,h6⟩:=h;exact⟨es,clock,since,seen,c0,(hb.block 10 (by omega)).trans h1,h2,h3,h4,(hb.block 11 h12).trans h5,h6⟩
def Pre.rg{P:List (List UInt8)}{v:World}{l:List Obj}{left:Lit->Bool}{cnt:Nat}(_:Pre v l)(h:v.ranges prog 67 Mp.txR 10 11 20 (Mp.D P) left cnt):11<v.heap.size:=h.lt
section
variable{P:List (List UInt8)}{es:Array MapEntry}{clock:Nat}{v:World}
def f_round(hup:Pl.Up Mk.twice P)(h:Pre v (Hf es clock)){left:Lit->Bool}{cnt:Nat}(hrg:v.ranges prog 67 Mp.txR 10 11 20 (Mp.D P) left cnt){rem:List (List UInt8)}(hrem:rem.Perm (remL left P))(x4 x5 x6 x7 x8 x9 x11 x12 x13 x14 x15 x16 x17 x18 x19 x20 x21 x22 x23:Value):Arr prog (FStop P es clock rem) (bf.at ⟨#[lp 5,lp 6,lp 7,lp 8,x4,x5,x6,x7,x8,x9,lp 11,x11,x12,x13,x14,x15,x16,x17,x18,x19,x20,x21,x22,x23],[]⟩ [.code FX,.inLoop FX,.inBlock 0,.code (cr F)]) [wall] v:=by
 have HP:=Lib.hid h;have HUP:=Lib.hid hup;have HREM:=Lib.hid hrem;clear h hup hrem;refine arr_seqE hFX (arr_wpE (c':=.region _ _ _) rfl ?_);go_wp2_with (at_next;refine wpList_next_ranges _ (o:=⟨some 11,_,_,_,_,_⟩) rfl _ rfl 67 Mp.law Mp.txR (λd:{d:List UInt8 // d.length=32}=>Value.agg (w8 d.1).toArray) (λc:Value=>c) (λkey kl hk=>by obtain⟨d,hd,hv,_⟩:=key_inv hk;exact⟨⟨d,hd⟩,hv⟩) (λv y hv=>⟨v,rfl⟩) 10 11 20 _ _ _ rfl hrg ?_ ?_)
 ·intro hc0 hl0;go_wp2_with fail;show Arr _ _ _ _ _;refine arr_seqE hFX1 (arr_condE (t:=false) rfl rfl (arr_exitE rfl rfl ?_));have h:=HP.out;have l6:v.cell? ⟨6,0,none⟩=some (.chan (some 2)):=h.row (i:=6) rfl 0;refine arr_seqE hFr (arr_pre 1 [1] rfl rfl (by decide +kernel) ?_);show wpList _ _ _ [_] _ _;go_wp2_with fail;exact arr_stop (.inr ⟨by have:=HREM.out;rw[remL_none hl0]at this;exact this.eq_nil,⟨_,_,_,_,_,_,_,_,_,_,_,_,_,_,_,_,_,_,_,rfl⟩,h⟩)
 intro x hx c kl yd yp w2 cnt2 hkey hlk hv hat hrg2 hlt hg2 hs2 hen;obtain rfl:kl=.string x:=by rw[Mp.key_dg x hx]at hkey;exact(Option.some.inj hkey).symm
 obtain⟨t,htP,rfl,rfl⟩:=at_key hat;obtain⟨t',rfl,hz⟩|⟨_,hz⟩:=Mp.txR_inv hv;case inr=>cases hz
 obtain rfl:t=t':=by have:=(Prod.mk.inj hz).1;injection this with this;injection this
 have HPERM:=Lib.hid (HREM.out.trans (remL_next left t hlk P HUP.out htP));have h2:Pre w2 (Hf es clock):=HP.out.keep λb hb=>hg2.block b (Nat.lt_of_lt_of_le hb HP.out.le) (λe=>by have:b=11:=Option.some.inj e;have:b<11:=hb;omega);have HRG:=Lib.hid hrg2;have H2:=Lib.hid h2;clear hkey hlk hv hat hz hg2 hs2 hrg2 hlt hx hrg HP HREM h2;go_wp2_with fail;show Arr _ _ _ _ _;refine arr_seqE hFX1 (arr_condE (t:=true) rfl rfl (arr_skipE rfl (arr_blockE hFX2 (arr_seqE hFX3 ?_))));have r1:Row (w2.alloc (.cells tx0.toArray 69)) w2.heap.size tx0:=Row.new w2 tx0 69;have hB:Below w2.heap.size w2 (w2.alloc (.cells tx0.toArray 69)):=(Below.refl _ _).alloc (Nat.le_refl _) _;have B1:=Lib.hid (below_setRow hB (Nat.le_refl _) (txCells t).toArray);have H4:=r1.setRow (txCells t);rw[Tryz.zeroTx]at r1 hB B1 H4;have H1:=r1;clear r1 hB;have hen':Sem.run prog (Instr.entry (Value.pointer (some {block:=11,off:=0}))) w2=Result.ok (Value.tuple #[Value.agg (w8 (Mk.twice t)).toArray,.agg (txCells t).toArray]) w2:=hen;clear hen;refine arr_wpE (c':=.region _ _ _) rfl ?_;go_wp2_with (with_reducible refine store_cells (o:=⟨none,_,_,_,_,_⟩) rfl _ _ _ rfl w2.heap.size tx0 (txCells t) rfl rfl H1 (infoTx.trans (by rw[txCells_len])) (by rw[txCells_len,tx0_len]) (txCells_one t) ?_);clear H1 hen';have P3:Pre _ (Hf es clock):=H2.out.below B1.out H2.out.le;have R3:=rg_below HRG.out (Pre.rg H2.out HRG.out) B1.out;have hA9:11<=w2.heap.size:=H2.out.le;obtain⟨A,hA⟩:∃A,w2.heap.size=A:=⟨_,rfl⟩;rw[hA]at B1 H4 P3 R3|-;clear B1 hA HRG H2;generalize World.setRow _ A (txCells t).toArray=w3 at H4 P3 R3|-;have l6:w3.cell? ⟨6,0,none⟩=some (.chan (some 2)):=P3.row (i:=6) rfl 0;refine arr_pre 2 [2] rfl rfl (by decide +kernel) ?_;show wpList _ _ _ [_,_] _ _;go_wp2_with (refine load_cells (o:=⟨some 16,_,_,_,_,_⟩) rfl _ _ rfl A (txCells t) rfl H4 _ underlying69 (infoTx.trans (by rw[txCells_len])) _ rfl ?_);exact arr_stop (.inl ⟨t,_,HPERM.out,⟨_,_,_,_,_,_,_,_,_,_,_,_,_,_,_,_,_,rfl⟩,P3,_,_,R3,.refl _⟩)
def f_start(hup:Pl.Up Mk.twice P)(h:Pre v (Hf es clock))(hs:v.heap.size=11)(hm:v.ownsMap prog 67 Mp.txR 10 20 (Mp.D P)):Term prog (FStop P es clock P) (gor (Frame.enter prog 66 #[lp 5,lp 6,lp 7,lp 8] .deferred) [wall]) v:=by rw[enter_f];refine term_of_arr bodied (λg w τ n (h:FStop P es clock P g w)=>h.re τ n) rfl λτ n=>?_;have h:Pre (v.re τ n) (Hf es clock):=h;have hs:(v.re τ n).heap.size=11:=hs;have hm:(v.re τ n).ownsMap prog 67 Mp.txR 10 20 (Mp.D P):=hm;generalize v.re τ n=v at h hs hm;have HU:=Lib.hid hup;have HP:=Lib.hid h;have HM:=Lib.hid hm;have HS:=Lib.hid hs;have l5:v.cell? ⟨5,0,none⟩=some (lp 9):=h.row (i:=5) rfl 0;have l9:v.cell? ⟨9,0,none⟩=some (.map (some 10)):=h.row (i:=9) rfl 0;clear h hup hm hs;refine arr_seqE hF (arr_seqE hFl (arr_wpE (c':=.region _ _ _) rfl ?_));go_wp2_with (at_range;refine wpList_range_own _ (o:=⟨some 10,_,_,_,_,_⟩) rfl _ 35 rfl 67 69 Mp.law underlying35 Mp.txR 10 20 (Mp.D P) rfl HM.out ?_;intro w0 hrg0 hg0 hs0);rw[HS.out]at hrg0;show Arr _ _ (bf.at ⟨#[_,_,_,_,_,_,_,_,_,_,.pointer (some ⟨v.heap.size,0,none⟩),_,_,_,_,_,_,_,_,_,_,_,_,_],[]⟩ _) _ _;rw[HS.out];have h0:Pre w0 (Hf es clock):=HP.out.keep λb hb=>hg0.block b (Nat.lt_of_lt_of_le hb HP.out.le) (λe=>by cases e);refine arr_blockE hFb (arr_loopE hFo ?_);exact f_round HU.out h0 hrg0 (by rw[remL_all P HU.out]) _ _ _ _ _ _ _ _ _ _ _ _ _ _ _ _ _ _ _
def f_sent(hup:Pl.Up Mk.twice P){t rem g}(h:FA P es clock (.sendJ t rem) g v):Term prog (FStop P es clock rem) (Go.Conc.served g undef) v:=by obtain⟨⟨x4,x5,x6,x7,x8,x9,x11,x12,x13,x14,x17,x18,x19,x20,x21,x22,x23,rfl⟩,h,left,cnt,hrg,hrem⟩:=h;unfold tS;rw[served_at (o:=⟨none,_,_,_,_,_⟩) rfl];show Term _ _ (gor (bf.at ⟨#[lp 5,lp 6,lp 7,lp 8,x4,x5,x6,x7,x8,x9,lp 11,x11,x12,x13,x14,.chan (some 2),txV t,x17,x18,x19,x20,x21,x22,x23],[]⟩ _) _) v;refine term_of_arr bodied (λg w τ n (h:FStop P es clock rem g w)=>h.re τ n) rfl λτ n=>?_;have h:Pre (v.re τ n) (Hf es clock):=h;have hrg:(v.re τ n).ranges prog 67 Mp.txR 10 11 20 (Mp.D P) left cnt:=hrg;generalize v.re τ n=v at h hrg;refine Tp.arr_regionEnd (Tp.arr_inBlock (Tp.arr_inLoop ?_));exact f_round hup h hrg hrem _ _ _ _ _ _ _ _ _ _ _ _ _ _ _ _ _ _ _
def f_done(h:Pre v (Hf es clock)){k}(hk:k<3) x4 x5 x6 x7 x8 x9 x10 x11 x12 x13 x14 x15 x16 x17 x19 x20 x21 x22 x23:Arr prog (FA P es clock (.recvD k)) (bf.at ⟨#[lp 5,lp 6,lp 7,lp 8,x4,x5,x6,x7,x8,x9,x10,x11,x12,x13,x14,x15,x16,x17,.int .i64 (k:Int),x19,x20,x21,x22,x23],[]⟩ [.code FY,.inLoop FY,.inBlock 2,.code (cr (cr (cr F)))]) [wall] v:=by
 have l7:v.cell? ⟨7,0,none⟩=some (.chan (some 4)):=h.row (i:=7) rfl 0;have HP:=Lib.hid h;clear h;have hk':((k:Int)<3):=by omega
 refine arr_seqE hFY (arr_wpE (c':=.region _ _ _) rfl ?_);go_wp2_with fail;show Arr _ _ _ _ _;refine arr_seqE hFY1 (arr_condE (t:=true) rfl (by simp[Act.eval,hk']) (arr_skipE rfl (arr_seqE hFY2 (arr_blockE hFY3 ?_))));refine arr_pre 1 [1] rfl rfl (by decide +kernel) ?_;show wpList _ _ _ [_] _ _;go_wp2_with fail;exact arr_stop ⟨⟨_,_,_,_,_,_,_,_,_,_,_,_,_,_,_,_,_,_,rfl⟩,HP.out,hk⟩
def f_closed{g}(h:FA P es clock .closeJ g v):Term prog (FA P es clock (.recvD 0)) (doneG g (.tuple #[])) v:=by obtain⟨⟨x4,x5,x6,x7,x8,x9,x10,x11,x12,x13,x14,x15,x16,x18,x19,x20,x21,x22,x23,rfl⟩,h⟩:=h;unfold tCJ;rw[doneG_at (o:=⟨none,_,_,_,_,_⟩) rfl];show Term _ _ (gor (bf.at ⟨#[lp 5,lp 6,lp 7,lp 8,x4,x5,x6,x7,x8,x9,x10,x11,x12,x13,x14,x15,x16,.chan (some 2),x18,x19,x20,x21,x22,x23],[]⟩ _) _) v;refine term_of_arr bodied (λg w τ n (h:FA P es clock (.recvD 0) g w)=>h.re τ n) rfl λτ n=>?_;have h:Pre (v.re τ n) (Hf es clock):=h;generalize v.re τ n=v at h;have HP:=Lib.hid h;clear h;refine Tp.arr_regionEnd (arr_seqE hFrr (arr_seqE hFy (arr_wpE (c':=.region _ _ _) rfl ?_)));go_wp2_with fail;show Arr _ _ _ _ _;refine arr_blockE hFyb (arr_loopE hFyo ?_);exact f_done (k:=0) HP.out (by omega) _ _ _ _ _ _ _ _ _ _ _ _ _ _ _ _ _ _ _
def f_heard{k g} z(hk:k<2)(h:FA P es clock (.recvD k) g v):Term prog (FA P es clock (.recvD (k+1))) (Go.Conc.served g z) v:=by
 obtain⟨⟨x4,x5,x6,x7,x8,x9,x10,x11,x12,x13,x14,x15,x16,x17,x19,x21,x22,x23,rfl⟩,h,_⟩:=h;unfold tRD;rw[served_at (o:=⟨some 21,_,_,_,_,_⟩) rfl];show Term _ _ (gor (bf.at ⟨#[lp 5,lp 6,lp 7,lp 8,x4,x5,x6,x7,x8,x9,x10,x11,x12,x13,x14,x15,x16,x17,.int .i64 (k:Int),x19,.chan (some 4),z,x22,x23],[]⟩ _) _) v;refine term_of_arr bodied (λg w τ n (h:FA P es clock (.recvD (k+1)) g w)=>h.re τ n) rfl λτ n=>?_;have h:Pre (v.re τ n) (Hf es clock):=h;generalize v.re τ n=v at h;have HP:=Lib.hid h;clear h;have hw:wrap64 ((k:Int)+1)=((k+1:Nat):Int):=by unfold wrap64;omega
 refine Tp.arr_regionEnd (Tp.arr_inBlock (arr_wpE (c':=.region _ _ _) rfl ?_));go_wp2_with fail;show Arr _ _ _ _ _;refine Tp.arr_inLoop ?_;first|rw[hw]|skip
 exact f_done (k:=k+1) HP.out (by omega) _ _ _ _ _ _ _ _ _ _ _ _ _ _ _ _ _ _ _
def f_last{g} z(h:FA P es clock (.recvD 2) g v):Term prog (FA P es clock .closeR) (Go.Conc.served g z) v:=by obtain⟨⟨x4,x5,x6,x7,x8,x9,x10,x11,x12,x13,x14,x15,x16,x17,x19,x21,x22,x23,rfl⟩,h,_⟩:=h;unfold tRD;rw[served_at (o:=⟨some 21,_,_,_,_,_⟩) rfl];show Term _ _ (gor (bf.at ⟨#[lp 5,lp 6,lp 7,lp 8,x4,x5,x6,x7,x8,x9,x10,x11,x12,x13,x14,x15,x16,x17,.int .i64 2,x19,.chan (some 4),z,x22,x23],[]⟩ _) _) v;refine term_of_arr bodied (λg w τ n (h:FA P es clock .closeR g w)=>h.re τ n) rfl λτ n=>?_;have h:Pre (v.re τ n) (Hf es clock):=h;generalize v.re τ n=v at h;have l8:v.cell? ⟨8,0,none⟩=some (.chan (some 3)):=h.row (i:=8) rfl 0;have HP:=Lib.hid h;clear h;refine Tp.arr_regionEnd (Tp.arr_inBlock (arr_wpE (c':=.region _ _ _) rfl ?_));go_wp2_with fail;show Arr _ _ _ _ _;refine Tp.arr_inLoop (arr_seqE hFY (arr_wpE (c':=.region _ _ _) rfl ?_));go_wp2_with fail;show Arr _ _ _ _ _;refine arr_seqE hFY1 (arr_condE (t:=false) rfl (by simp[Act.eval]) (arr_exitE rfl rfl ?_));refine arr_pre 1 [1] rfl rfl (by decide +kernel) ?_;show wpList _ _ _ [_] _ _;go_wp2_with fail;exact arr_stop ⟨⟨_,_,_,_,_,_,_,_,_,_,_,_,_,_,_,_,_,_,_,rfl⟩,HP.out⟩
end
end Ph
namespace Ph
open Go.Conc Rn Nums
open Go.RowKit
open Tp (Bodied bodied Term Ld Arr arr_stop arr_step arr_steps gor)
noncomputable def M:Code:=cb Tryz.f33
noncomputable def M4:Code:=cr (cr (cr (cr M)))
noncomputable def MX:Code:=ci (ci (cr (cl M4)))
noncomputable def M8:Code:=cr M4
noncomputable def M9:Code:=cr M8
noncomputable def M10:Code:=cr M9
noncomputable def MY:Code:=ci (ci (cr (cl M10)))
noncomputable def M14:Code:=cr M10
def bm:Frame:={(default:Frame)with fn:=33,kind:=.normal}
def Hs(kd:List UInt8):List Obj:=[junk,junk,junk,junk,junk,fz [poison] 72,fz (keyCells kd) 93,fz [.chan (some 2)] 132,fz [.chan (some 3)] 133,fz [.chan (some 4)] 134]
noncomputable def tG:List Item:=[.inRegion (co (ci (cl (cr (cr MX))))) [1],.inBlock 1,.code (cr (cr (cr MX))),.inLoop MX,.inBlock 0,.code M8]
noncomputable def tG3:List Item:=[.inRegion (co (cl M8)) [1],.code M9]
noncomputable def tRR:List Item:=[.inRegion (co (cl MY)) [0,1],.code (cr MY),.inLoop MY,.inBlock 2,.code M14]
def shortOf(kd t:List UInt8):List UInt8:=En.six (Sip.sip (En.key0 kd) (En.key1 kd) (Mk.twice t))
def SA(kd:List UInt8):Ctl (List UInt8)->Goroutine->World->Prop
 |.spawn k=>λg v=>((k<3/\∃x0 x1 x4 x8 x9 x10 x11 x12 x14 x16 x17 x18 x19 x20 x21 x22 x23 x24 x25 x26 x27 x28 x29 x30 x31 x32 x33 x34,g=gor (bm.at ⟨#[x0,x1,lp 5,lp 6,x4,lp 7,lp 8,lp 9,x8,x9,x10,x11,x12,.int .i64 (k:Int),x14,.func (.func 65) #[] #[lp 7,lp 8,lp 6,lp 9],x16,x17,x18,x19,x20,x21,x22,x23,x24,x25,x26,x27,x28,x29,x30,x31,x32,x33,x34],[]⟩ tG) [wall])∨(k=3/\∃x0 x1 x4 x8 x9 x10 x11 x12 x13 x14 x15 x16 x18 x19 x20 x21 x22 x23 x24 x25 x26 x27 x28 x29 x30 x31 x32 x33 x34,g=gor (bm.at ⟨#[x0,x1,lp 5,lp 6,x4,lp 7,lp 8,lp 9,x8,x9,x10,x11,x12,x13,x14,x15,x16,.func (.func 66) #[] #[lp 5,lp 7,lp 9,lp 8],x18,x19,x20,x21,x22,x23,x24,x25,x26,x27,x28,x29,x30,x31,x32,x33,x34],[]⟩ tG3) [wall]))/\Pre v (Hs kd)/\v.heap.size=10|.recvR got=>λg v=>(∃x0 x1 x4 x9 x10 x11 x12 x13 x14 x15 x16 x17 x18 x20 x21 x22 x23 x24 x25 x26 x27 x28 x29 x30 x31 x32 x33 x34,g=gor (bm.at ⟨#[x0,x1,lp 5,lp 6,x4,lp 7,lp 8,lp 9,.map (some 10),x9,x10,x11,x12,x13,x14,x15,x16,x17,x18,.chan (some 3),x20,x21,x22,x23,x24,x25,x26,x27,x28,x29,x30,x31,x32,x33,x34],[]⟩ tRR) [wall])/\Pre v (Hs kd)/\Outs v 11 10 (shortOf kd) got/\got.length<=1000|_=>λ_ _=>False
def SA.re{kd c g v}(h:SA kd c g v) τ n:SA kd c g (v.re τ n):=by cases c<;>exact h
def hM4:M4=.seq (cl M4) (cr M4):=rfl
def hM4l:cl M4=.seq (cl (cl M4)) (cr (cl M4)):=rfl
def hM4b:cr (cl M4)=.block 0 (ci (cr (cl M4))):=rfl
def hM4o:ci (cr (cl M4))=.loop MX:=rfl
def hMX:MX=.seq (cl MX) (cr MX):=rfl
def hMX1:cr MX=.seq (cl (cr MX)) (cr (cr MX)):=rfl
def hMX2:cr (cr MX)=.seq (cl (cr (cr MX))) (cr (cr (cr MX))):=rfl
def hMX3:cl (cr (cr MX))=.block 1 (ci (cl (cr (cr MX)))):=rfl
def hM8:M8=.seq (cl M8) M9:=rfl
def hM9:M9=.seq (cl M9) M10:=rfl
def hM10:M10=.seq (cl M10) M14:=rfl
def hM10l:cl M10=.seq (cl (cl M10)) (cr (cl M10)):=rfl
def hM10b:cr (cl M10)=.block 2 (ci (cr (cl M10))):=rfl
def hM10o:ci (cr (cl M10))=.loop MY:=rfl
def hMY:MY=.seq (cl MY) (cr MY):=rfl
def hMY1:cr MY=.seq (cl (cr MY)) (cr (cr MY)):=rfl
def hMY2:cr (cr MY)=.block 3 (ci (cr (cr MY))):=rfl
def hMY3:ci (cr (cr MY))=.seq (cl (ci (cr (cr MY)))) (cr (ci (cr (cr MY)))):=rfl
def upd_skip{P ev o w w' t m k x}(ho:o.op=.mapUpdate t m k x)(h:(Instr.mapUpdate t (ev m) (ev k) (ev x)).run P w=.ok () w'):(execOp ev o).run P w=.ok .skip w':=by unfold execOp;simp only[ho,Sem.run_bind,h,Result.andThen_ok,Sem.run_pure]
def fd0:List Value:=.string (str [])::tx0
def fdCells(kd t:List UInt8):List Value:=.string (str (shortOf kd t))::txCells t
def zeroFd:fd0.toArray=#[.string (str []),.string (str []),.int .u8 0,.int .u8 0,.int .u8 0,.int .u8 0,.int .u8 0,.int .u8 0,.int .u8 0,.int .u8 0,.int .u8 0,.int .u8 0,.int .u8 0,.int .u8 0,.int .u8 0,.int .u8 0,.int .u8 0,.int .u8 0,.int .u8 0,.int .u8 0,.int .u8 0,.int .u8 0,.int .u8 0,.int .u8 0,.int .u8 0,.int .u8 0,.int .u8 0,.int .u8 0,.int .u8 0,.int .u8 0,.int .u8 0,.int .u8 0,.int .u8 0,.int .u8 0]:=by kernel_rfl
def fd0_len:fd0.length=34:=by unfold fd0;rw[List.length_cons,tx0_len]
def fdCells_len kd t:(fdCells kd t).length=34:=by unfold fdCells;rw[List.length_cons,txCells_len]
def fdCells_one kd t:(fdCells kd t).all (·.oneCell')=true:=by unfold fdCells;rw[List.all_cons,Bool.and_eq_true];exact⟨rfl,txCells_one t⟩
def infoFd:(prog.info? 136).map (·.size)=some 34:=by kernel_rfl
section
variable{kd:List UInt8}{v:World}
def s_next(h:Pre v (Hs kd))(hs:v.heap.size=10){k}(hk:k<3) x0 x1 x4 x8 x9 x10 x11 x12 x14 x15 x16 x17 x18 x19 x20 x21 x22 x23 x24 x25 x26 x27 x28 x29 x30 x31 x32 x33 x34:Arr prog (SA kd (.spawn k)) (bm.at ⟨#[x0,x1,lp 5,lp 6,x4,lp 7,lp 8,lp 9,x8,x9,x10,x11,x12,.int .i64 (k:Int),x14,x15,x16,x17,x18,x19,x20,x21,x22,x23,x24,x25,x26,x27,x28,x29,x30,x31,x32,x33,x34],[]⟩ [.code MX,.inLoop MX,.inBlock 0,.code M8]) [wall] v:=by
 have HP:=Lib.hid h;have HS:=Lib.hid hs;clear h hs;have hk':((k:Int)<3):=by omega
 refine arr_seqE hMX (arr_wpE (c':=.region _ _ _) rfl ?_);go_wp2_with fail;show Arr _ _ _ _ _;refine arr_seqE hMX1 (arr_condE (t:=true) rfl (by simp[Act.eval,hk']) (arr_skipE rfl (arr_seqE hMX2 (arr_blockE hMX3 ?_))));refine arr_pre 1 [1] rfl rfl (by decide +kernel) ?_;show wpList _ _ _ [_] _ _;go_wp2_with fail;exact arr_stop ⟨.inl ⟨hk,_,_,_,_,_,_,_,_,_,_,_,_,_,_,_,_,_,_,_,_,_,_,_,_,_,_,_,_,rfl⟩,HP.out,HS.out⟩
def s_went{k g}(hk:k<3)(h:SA kd (.spawn k) g v):Term prog (SA kd (.spawn (k+1))) (doneG g undef) v:=by
 obtain⟨⟨_,x0,x1,x4,x8,x9,x10,x11,x12,x14,x16,x17,x18,x19,x20,x21,x22,x23,x24,x25,x26,x27,x28,x29,x30,x31,x32,x33,x34,rfl⟩|⟨hk3,_⟩,h,hs⟩:=h;case inr=>omega
 unfold tG;rw[doneG_at (o:=⟨none,_,_,_,_,_⟩) rfl];show Term _ _ (gor (bm.at ⟨#[x0,x1,lp 5,lp 6,x4,lp 7,lp 8,lp 9,x8,x9,x10,x11,x12,.int .i64 (k:Int),x14,.func (.func 65) #[] #[lp 7,lp 8,lp 6,lp 9],x16,x17,x18,x19,x20,x21,x22,x23,x24,x25,x26,x27,x28,x29,x30,x31,x32,x33,x34],[]⟩ _) _) v;refine term_of_arr bodied (λg w τ n (h:SA kd (.spawn (k+1)) g w)=>h.re τ n) rfl λτ n=>?_;have h:Pre (v.re τ n) (Hs kd):=h;have hs:(v.re τ n).heap.size=10:=hs;generalize v.re τ n=v at h hs;have HP:=Lib.hid h;have HS:=Lib.hid hs;clear h hs;have hw:wrap64 ((k:Int)+1)=((k+1:Nat):Int):=by unfold wrap64;omega
 refine Tp.arr_regionEnd (Tp.arr_inBlock (arr_wpE (c':=.region _ _ _) rfl ?_));go_wp2_with fail;show Arr _ _ _ _ _;refine Tp.arr_inLoop ?_;by_cases hk2:k<2;first|rw[hw]|skip
 exact s_next (k:=k+1) HP.out HS.out (by omega) _ _ _ _ _ _ _ _ _ _ _ _ _ _ _ _ _ _ _ _ _ _ _ _ _ _ _ _ _;obtain rfl:k=2:=by omega
 refine arr_seqE hMX (arr_wpE (c':=.region _ _ _) rfl ?_);go_wp2_with fail;show Arr _ _ _ _ _;refine arr_seqE hMX1 (arr_condE (t:=false) rfl (by simp[Act.eval]) (arr_exitE rfl rfl ?_));refine arr_seqE hM8 (arr_pre 1 [1] rfl rfl (by decide +kernel) ?_);show wpList _ _ _ [_] _ _;go_wp2_with fail;exact arr_stop ⟨.inr ⟨rfl,_,_,_,_,_,_,_,_,_,_,_,_,_,_,_,_,_,_,_,_,_,_,_,_,_,_,_,_,_,rfl⟩,HP.out,HS.out⟩
def s_round(h:Pre v (Hs kd)){got:List (List UInt8)}(ho:Outs v 11 10 (shortOf kd) got)(hn:got.length<=1000)(x0 x1 x4 x9 x10 x11 x12 x13 x14 x15 x16 x17 x18 x20 x21 x22 x23 x24 x25 x26 x27 x28 x29 x30 x31 x32 x33 x34:Value):Arr prog (SA kd (.recvR got)) (bm.at ⟨#[x0,x1,lp 5,lp 6,x4,lp 7,lp 8,lp 9,.map (some 10),x9,x10,x11,x12,x13,x14,x15,x16,x17,x18,.chan (some 3),x20,x21,x22,x23,x24,x25,x26,x27,x28,x29,x30,x31,x32,x33,x34],[]⟩ [.code MY,.inLoop MY,.inBlock 2,.code M14]) [wall] v:=by refine arr_seqE hMY ?_;refine arr_cut0E (s:=0) (r:=[0,1]) rfl rfl ?_;show Arr _ _ _ _ _;exact arr_stop ⟨⟨_,_,_,_,_,_,_,_,_,_,_,_,_,_,_,_,_,_,_,_,_,_,_,_,_,_,_,_,rfl⟩,h,ho,hn⟩
def s_all{g}(h:SA kd (.spawn 3) g v):Term prog (SA kd (.recvR [])) (doneG g undef) v:=by
 obtain⟨⟨hk,_⟩|⟨_,x0,x1,x4,x8,x9,x10,x11,x12,x13,x14,x15,x16,x18,x19,x20,x21,x22,x23,x24,x25,x26,x27,x28,x29,x30,x31,x32,x33,x34,rfl⟩,h,hs⟩:=h;case inl=>omega
 unfold tG3;rw[doneG_at (o:=⟨none,_,_,_,_,_⟩) rfl];show Term _ _ (gor (bm.at ⟨#[x0,x1,lp 5,lp 6,x4,lp 7,lp 8,lp 9,x8,x9,x10,x11,x12,x13,x14,x15,x16,.func (.func 66) #[] #[lp 5,lp 7,lp 9,lp 8],x18,x19,x20,x21,x22,x23,x24,x25,x26,x27,x28,x29,x30,x31,x32,x33,x34],[]⟩ _) _) v;refine term_of_arr bodied (λg w τ n (h:SA kd (.recvR []) g w)=>h.re τ n) rfl λτ n=>?_;have h:Pre (v.re τ n) (Hs kd):=h;have hs:(v.re τ n).heap.size=10:=hs;generalize v.re τ n=v at h hs;have HP:=Lib.hid h;have HS:=Lib.hid hs;clear h hs;have hmm:=@run_makeMap prog;refine Tp.arr_regionEnd (arr_seqE hM9 (arr_wpE (c':=.region _ _ _) rfl ?_));go_wp2_with fail;show Arr _ _ (bm.at ⟨#[_,_,_,_,_,_,_,_,.map (some v.heap.size),_,_,_,_,_,_,_,_,_,_,_,_,_,_,_,_,_,_,_,_,_,_,_,_,_,_],[]⟩ _) _ _;rw[HS.out];have h1:Pre (v.alloc (.map #[] 0)) (Hs kd):=HP.out.alloc _;have O1:Outs (v.alloc (.map #[] 0)) 11 10 (shortOf kd) []:=Outs.nil _ _ _ _ (by rw[<-HS.out];exact(MapKept.heap_alloc v _).1);have H1:=Lib.hid h1;have H2:=Lib.hid O1;clear HP HS hmm h1 O1;generalize v.alloc _=v1 at H1 H2|-;have l8:v1.cell? ⟨8,0,none⟩=some (.chan (some 3)):=H1.out.row (i:=8) rfl 0;refine arr_seqE hM10 (arr_seqE hM10l (arr_wpE (c':=.region _ _ _) rfl ?_));go_wp2_with fail;show Arr _ _ _ _ _;refine arr_blockE hM10b (arr_loopE hM10o ?_);exact s_round H1.out H2.out (by simp) _ _ _ _ _ _ _ _ _ _ _ _ _ _ _ _ _ _ _ _ _ _ _ _ _ _ _ _
def s_tail{t s got w4 A Z es clock K}(hn:(t::got).length<=1000)(hs:shortOf kd t=s)(hP:Pre w4 (Hs kd))(hR:Row w4 A (fdCells kd t)) (hK:Slot w4 11 10 (shortOf kd) got s es clock K) (hlt:∀g,(val0 K s).ownBlock=some g->g<A) (hZ:Row w4 Z (txCells t)) (hZs:w4.heap.size=Z+1) x0 x1 x4 x10 x11 x12 x13 x14 x15 x16 x17 x18 x33 x34:wpAnyH prog .any (co (cr (ci (cr (cr MY))))) (Tp.onlyN λa' w'=>Arr prog (SA kd (.recvR (t::got))) (bm.at a' [.inBlock 3,.inLoop MY,.inBlock 2,.code M14]) [wall] w') (Reg.cls λu=>Row u A (fdCells kd t)) 2 #[true,true,true,true,true,true,true,true,true,true,false,false] ⟨#[x0,x1,lp 5,lp 6,x4,lp 7,lp 8,lp 9,.map (some 10),.pointer (some ⟨A,0,none⟩),x10,x11,x12,x13,x14,x15,x16,x17,x18,.chan (some 3),.tuple #[.agg (fdCells kd t).toArray,.bool true],.bool true,.agg (fdCells kd t).toArray,.map (some 10),.pointer (some ⟨A,0,none⟩),.string (str s),.map (some 10),.pointer (some ⟨A,0,none⟩),.string (str s),val0 K s,.pointer (some ⟨A,1,none⟩),txV t,.slice (some ⟨Z,0,none⟩) 1 1,x33,x34],[]⟩ w4:=by
 obtain⟨i0,hi0,hz0,hz1,hz2⟩:=info_parts infoTx3;have HI:=Lib.hid hi0;have HP:=Lib.hid hP;have HK:=Lib.hid hK;have HR:=Lib.hid hR;have HZ:=Lib.hid hZ;have HE:=Lib.hid hs;have hO:=hK.own;have hgl:(grp (shortOf kd) got s).length<=1000:=Nat.le_trans (List.length_filter_le _ _) (by simp at hn|-;omega);have hcz:∀(j:Nat)(u:Value),(txCells t)[j]? =some u->w4.cell? ((⟨Z,0,none⟩:Addr).add j)=some u:=λj u hu=>by rw[Addr.add_lit,Nat.zero_add,hZ.cell];exact hu
 have h10:10<w4.heap.size:=(Array.getElem?_eq_some_iff.1 hK.at_).1;have hAz:=hR.lt;clear hi0 hP hK hR hZ hs;show wpAnyH _ _ #[_,_,_,_,_,_,_,_,_,_,_,_] _ _ _ _ _ _;refine Reg.one 10 _ (by kernel_rfl) rfl rfl ?_;refine wpList_append_own_at _ (o:=⟨some 33,_,_,_,_,_⟩) rfl _ _ 38 rfl 11 69 i0 (.agg tx0.toArray) 33 48 underlying38 HI.out hz0 hz1 hz2 (by rw[Value.cells,List.size_toArray,tx0_len]) (by decide) _ _ _ rfl hO ⟨Z,0,none⟩ 1 1 (txCells t) rfl (by rw[txCells_len]) hcz (λu hu=>List.all_eq_true.1 (txCells_one t) u hu) (by unfold maxLen;omega) (by omega) (by omega) ?_;intro v5 w5 hown5 hgr5 _ hb5;go_frame;go_wp2_with fail;have hne10:∀g,(val0 K s).ownBlock=some g->11<=g:=λg hg=>(hO.lt g hg).1;have k10:w5.heap[10]? =w4.heap[10]?:=hgr5.block 10 h10 (λe=>by have:=hne10 _ e.symm;omega);have kA:w5.heap[A]? =w4.heap[A]?:=hgr5.block A hAz (λe=>by have:=hlt _ e.symm;omega);have R5:Row w5 A (fdCells kd t):=by obtain⟨T,hT⟩:=HR.out;exact⟨T,kA.trans hT⟩
 refine⟨Reg.cls_mk R5,?_⟩;have P5:Pre w5 (Hs kd):=HP.out.keep λb hb=>hgr5.block b (Nat.lt_of_lt_of_le hb HP.out.le) (λe=>by have:=hne10 _ e.symm;have:b<10:=hb;omega);obtain⟨es',clock',hu,hes⟩:=upd_run (w:=w5) (m:=10) (K:=K) (k10.trans HK.out.at_) HK.out.key s v5;have OUT:Outs {w5 with heap:=w5.heap.setIfInBounds 10 (.map es' clock')} 11 10 (shortOf kd) (t::got):=by
  have hKt:Slot w4 11 10 (shortOf kd) got (shortOf kd t) es clock K:=by rw[HE.out];exact HK.out
  have hee:s=shortOf kd t:=HE.out.symm;rw[hee]at hgr5 hown5 hb5 hes;exact hKt.put hgr5 hown5 (hb5.imp id λe=>⟨_,e,Nat.le_refl _⟩) hes
 have h10':10<w5.heap.size:=Nat.lt_of_lt_of_le h10 hgr5.size;have P6:Pre {w5 with heap:=w5.heap.setIfInBounds 10 (.map es' clock')} (Hs kd):=P5.keep λb hb=>by have:b<10:=hb;show(w5.heap.setIfInBounds 10 _)[b]? =_;rw[Array.getElem?_setIfInBounds_ne (by omega)]
 have hA10:A≠10:=λe=>by subst e;obtain⟨T,hT⟩:=HR.out;rw[HK.out.at_]at hT;cases hT
 have R6:Row {w5 with heap:=w5.heap.setIfInBounds 10 (.map es' clock')} A (fdCells kd t):=by obtain⟨T,hT⟩:=R5;exact⟨T,by show(w5.heap.setIfInBounds 10 _)[A]? =_;rw[Array.getElem?_setIfInBounds_ne (Ne.symm hA10)];exact hT⟩
 refine Reg.one 11 _ (by kernel_rfl) rfl rfl ?_;refine list_skip (o:=⟨none,.mapUpdate 90 (.tmp 23) (.tmp 25) (.tmp 33),_,_,_,_⟩) rfl (upd_skip rfl hu) ?_;go_wp2_with fail;refine⟨Reg.cls_mk R6,?_⟩;refine wpAnyH_done (by kernel_rfl) ?_ 0;show Arr _ _ _ _ _;refine Tp.arr_inBlock (Tp.arr_inLoop ?_);exact s_round P6 OUT hn _ _ _ _ _ _ _ _ _ _ _ _ _ _ _ _ _ _ _ _ _ _ _ _ _ _ _ _
def s_recv{t got g}(hn:(t::got).length<=1000)(h:SA kd (.recvR got) g v):Term prog (SA kd (.recvR (t::got))) (Go.Conc.served g (.tuple #[.agg (fdCells kd t).toArray,.bool true])) v:=by
 obtain⟨⟨x0,x1,x4,x9,x10,x11,x12,x13,x14,x15,x16,x17,x18,x20,x21,x22,x23,x24,x25,x26,x27,x28,x29,x30,x31,x32,x33,x34,rfl⟩,h,ho,_⟩:=h;unfold tRR;rw[served_at (o:=⟨some 20,_,_,_,_,_⟩) rfl];show Term _ _ (gor (bm.at ⟨#[x0,x1,lp 5,lp 6,x4,lp 7,lp 8,lp 9,.map (some 10),x9,x10,x11,x12,x13,x14,x15,x16,x17,x18,.chan (some 3),.tuple #[.agg (fdCells kd t).toArray,.bool true],x21,x22,x23,x24,x25,x26,x27,x28,x29,x30,x31,x32,x33,x34],[]⟩ _) _) v;refine term_of_arr bodied (λg w τ n (h:SA kd (.recvR (t::got)) g w)=>h.re τ n) rfl λτ n=>?_;have h:Pre (v.re τ n) (Hs kd):=h;have ho:Outs (v.re τ n) 11 10 (shortOf kd) got:=ho;generalize v.re τ n=v at h ho;refine Tp.arr_value (o:=⟨some 21,_,_,_,_,_⟩) (v:=.bool true) rfl rfl rfl ?_;show Arr _ _ (bm.at ⟨#[x0,x1,lp 5,lp 6,x4,lp 7,lp 8,lp 9,.map (some 10),x9,x10,x11,x12,x13,x14,x15,x16,x17,x18,.chan (some 3),.tuple #[.agg (fdCells kd t).toArray,.bool true],.bool true,x22,x23,x24,x25,x26,x27,x28,x29,x30,x31,x32,x33,x34],[]⟩ _) _ _;refine Tp.arr_regionEnd (arr_seqE hMY1 (arr_condE (t:=true) rfl rfl (arr_skipE rfl (arr_blockE hMY2 (arr_seqE hMY3 ?_)))));obtain⟨es,clock,K,hK⟩:=ho.slot (shortOf kd t);have hlt:∀g,(val0 K (shortOf kd t)).ownBlock=some g->g<v.heap.size:=λg hg=>(hK.own.lt g hg).2;have h10:10<v.heap.size:=(Array.getElem?_eq_some_iff.1 hK.at_).1;have r1:Row (v.alloc (.cells fd0.toArray 136)) v.heap.size fd0:=Row.new v fd0 136;have hB:Below v.heap.size v (v.alloc (.cells fd0.toArray 136)):=(Below.refl _ _).alloc (Nat.le_refl _) _;have B1:=Lib.hid (below_setRow hB (Nat.le_refl _) (fdCells kd t).toArray);have H2:=r1.setRow (fdCells kd t);rw[zeroFd]at r1 hB B1 H2;have H1:=r1;have HP:=Lib.hid h;have HK:=Lib.hid hK;have HLT:=Lib.hid hlt;clear r1 hB h ho hK hlt;refine arr_wpE (c':=.region _ _ _) rfl ?_;go_wp2_with (with_reducible refine store_cells (o:=⟨none,_,_,_,_,_⟩) rfl _ _ _ rfl v.heap.size fd0 (fdCells kd t) rfl rfl H1 (infoFd.trans (by rw[fdCells_len])) (by rw[fdCells_len,fd0_len]) (fdCells_one kd t) ?_);clear H1;have P2:Pre _ (Hs kd):=HP.out.below B1.out HP.out.le;have K2:Slot _ 11 10 (shortOf kd) got (shortOf kd t) es clock K:=HK.out.below B1.out (Nat.le_refl _);obtain⟨A,hA⟩:∃A,v.heap.size=A:=⟨_,rfl⟩;rw[hA]at B1 H2 P2 K2 h10 HLT|-;clear B1 HP HK hA;generalize World.setRow _ A (fdCells kd t).toArray=w2 at H2 P2 K2|-;obtain⟨s,hs⟩:∃s,shortOf kd t=s:=⟨_,rfl⟩;rw[hs]at K2 HLT;have hu0:∀u:Reg.Of (λu=>Row u A (fdCells kd t)),u.w.cell? ⟨A,0,none⟩=some (.string (str s)):=λu=>by rw[u.h.cell,<-hs];rfl
 haveI hne:Nonempty (Reg.Of (λu=>Row u A (fdCells kd t))):=⟨⟨w2,H2⟩⟩;have HK2:=Lib.hid K2;have HP2:=Lib.hid P2;have HE:=Lib.hid hs;clear K2 P2 hs;show Arr _ _ _ _ _;refine arr_wpE (c':=.region _ _ _) rfl ?_;refine Reg.startL [0,1,2,3,4,5,7,8] 4 mixed (by kernel_rfl) rfl rfl (λc a d v w h=>h) (by as_aux_lemma=>kernel_rfl) rfl (λu=>Row u A (fdCells kd t)) H2 ?_;show wpQuiet _ _ _ _ [_,_,_,_,_,_,_,_] _;iterate 7 (go_big_quiet_step (fail))
 refine Mp.quiet_tx (o:=⟨some 31,_,_,_,_,_⟩) rfl _ rfl A 1 t rfl (λw hw=>by obtain⟨u,rfl⟩:=hw;exact λj x hx=>by rw[u.h.cell];show(Value.string (str (shortOf kd t))::txCells t)[1+j]? =_;rw[Nat.add_comm];exact hx) ?_;go_frame;refine wpQuiet_nil ?_;have K3:Slot w2.drew 11 10 (shortOf kd) got s es clock K:=HK2.out.below (w':=w2.drew) (C:=w2.heap.size) ⟨rfl,rfl,rfl,Nat.le_refl _,λ_ _=>rfl⟩ (Nat.le_refl _);have P3:Pre w2.drew (Hs kd):=HP2.out;have R3:Row w2.drew A (fdCells kd t):=H2;clear H2 HK2 HP2;show wpAnyH _ _ _ _ _ _ _ _ w2.drew;generalize w2.drew=w3 at R3 K3 P3|-;have hAl:=R3.lt;have B4:Below w3.heap.size w3 (w3.alloc (.cells (txCells t).toArray 69)):=(Below.refl _ _).alloc (Nat.le_refl _) _;have R4:=R3.alloc (.cells (txCells t).toArray 69);have Z4:Row (w3.alloc (.cells (txCells t).toArray 69)) w3.heap.size (txCells t):=Row.new w3 (txCells t) _;have z4:(w3.alloc (.cells (txCells t).toArray 69)).heap.size=w3.heap.size+1:=by simp
 have K4:=K3.below B4 (Nat.le_refl _);have P4:=P3.below B4 P3.le;have L3:=Lib.hid (look_run K3.at_ K3.key s);have L4:=Lib.hid (look_run K4.at_ K4.key s);have HK4:=Lib.hid K4;have HP4:=Lib.hid P4;have HR3:=Lib.hid R3;have HR4:=Lib.hid R4;have HZ4:=Lib.hid Z4;clear B4 R3 R4 Z4 K3 K4 P3 P4;refine Reg.two 6 9 _ _ (by kernel_rfl) rfl rfl rfl rfl ?_ ?_
 ·refine list_val (o:=⟨some 29,.lookup 90 (.tmp 26) (.tmp 28) false,_,_,_,_⟩) rfl (v:=val0 K s) (w':=w3) (Reg.lookup_run rfl L3.out) ?_;try go_frame
  go_wp2_with fail;refine⟨Reg.cls_mk HR3.out,?_⟩;refine Reg.one 9 _ (by kernel_rfl) rfl rfl ?_
  try go_frame
  refine build_tx1 (o:=⟨some 32,_,_,_,_,_⟩) rfl _ rfl t rfl ?_;go_frame;go_wp2_with fail;refine⟨Reg.cls_mk HR4.out,?_⟩;exact s_tail hn HE.out HP4.out HR4.out HK4.out HLT.out HZ4.out z4 _ _ _ _ _ _ _ _ _ _ _ _ _ _
 refine build_tx1 (o:=⟨some 32,_,_,_,_,_⟩) rfl _ rfl t rfl ?_;try go_frame
 go_wp2_with fail;refine⟨Reg.cls_mk HR4.out,?_⟩;refine Reg.one 6 _ (by kernel_rfl) rfl rfl ?_
 refine list_val (o:=⟨some 29,.lookup 90 (.tmp 26) (.tmp 28) false,_,_,_,_⟩) rfl (v:=val0 K s) (w':=w3.alloc _) (Reg.lookup_run rfl L4.out) ?_;try go_frame
 go_wp2_with fail;refine⟨Reg.cls_mk HR4.out,?_⟩;exact s_tail hn HE.out HP4.out HR4.out HK4.out HLT.out HZ4.out z4 _ _ _ _ _ _ _ _ _ _ _ _ _ _
end
end Ph
namespace Ph
open Go.Conc Rn Nums
open Go.RowKit
open Tp (Bodied bodied Term Ld gor)
def fl:List Nat:=[39,74,101,68,102,65,66]
def PE(J R D:Nat):Env:=⟨5,λr=>if r=2 then some J else if r=3 then some R else if r=4 then some D else none,λf=>f∈fl⟩
def PA(kd:List UInt8)(P:List (List UInt8))(es:Array MapEntry)(clock:Nat):Ctl (List UInt8)->Goroutine->World->Prop
 |.recvJ=>WA kd .recvJ|.sendR t=>WA kd (.sendR t)|.sendD=>WA kd .sendD|.feed _=>λ_ _=>False|.sendJ t rem=>FA P es clock (.sendJ t rem)|.closeJ=>FA P es clock .closeJ|.recvD k=>FA P es clock (.recvD k)|.closeR=>FA P es clock .closeR|.spawn k=>SA kd (.spawn k)|.recvR got=>SA kd (.recvR got)
def PN(kd:List UInt8)(P:List (List UInt8))(es:Array MapEntry)(clock J R D:Nat):Net (List UInt8):=⟨J,R,D,txV,fvT kd,.agg #[],.agg tx0.toArray,.agg fd0.toArray,.agg #[],PA kd P es clock,λ_=>True⟩
noncomputable def fnOkB(f:Nat):Bool:=match prog.funcs[f]? with
 |some fn=>(match fn.body with
  |some b=>codeB prog fl b
  |none=>false)&& !(fn.name== "runtime.NumGoroutine")
 |none=>false
def fl_ok:fl.all fnOkB=true:=by kernel_rfl
def fl_fn{f}(hf:f∈fl):∃fn b,prog.funcs[f]? =some fn/\fn.body=some b/\codeB prog fl b=true/\(fn.name== "runtime.NumGoroutine")=false:=by
 have:=List.all_eq_true.1 fl_ok f hf;unfold fnOkB at this;cases h1:prog.funcs[f]? with
 |none=>rw[h1]at this;cases this
 |some fn=>
 rw[h1]at this;dsimp only at this;cases h2:fn.body with
 |none=>rw[h2]at this;cases this
 |some b=>rw[h2]at this;dsimp only at this;rw[Bool.and_eq_true]at this;exact⟨fn,b,rfl,h2,this.1,by simpa using this.2⟩
noncomputable def itemB:Item->Bool
 |.code c=>codeB prog fl c|.inBlock _=>true|.inLoop b=>codeB prog fl b|.inRegion ops _=>ops.toList.all (opxB prog fl)|_=>false
section
variable{J R D:Nat}
def memE:∀f∈fl,(PE J R D).F f:=λ_ h=>h
def items_ok{l}(h:l.all itemB=true):ItemsOK prog (PE J R D) l:=λx hx=>by rw[List.all_eq_true]at h;have hb:=h x hx;cases x with|code c=>exact codeB_ok prog fl memE hb|inBlock _=>trivial|inLoop b=>exact codeB_ok prog fl memE hb|inRegion ops l=>exact codeB_ok prog fl memE (c:=.region 0 ops false) hb|_=>cases hb
def code_ok:∀f fn b,(PE J R D).F f->prog.funcs[f]? =some fn->fn.body=some b->CodeOK prog (PE J R D) b:=λf fn b hf h1 h2=>by obtain⟨fn',b',e1,e2,e3,_⟩:=fl_fn hf;rw[h1]at e1;cases e1;rw[h2]at e2;cases e2;exact codeB_ok prog fl memE e3
def bod_ok:Bod prog (PE J R D):=λf fn hf h1=>by obtain⟨fn',b',e1,e2,_,e4⟩:=fl_fn hf;rw[h1]at e1;cases e1;exact⟨by rw[e2];rfl,e4⟩
def chans_ok:∀r b,(PE J R D).C r=some b->r<5:=λr b h=>by show r<5;have h':(if r=2 then some J else if r=3 then some R else if r=4 then some D else none)=some b:=h;split at h';omega;split at h';omega;split at h';omega;cases h'
def stands{X Rs}{b:Frame}{a k cs ops i l o g'}(h:GR prog (PE J R D) X Rs (gor (b.at a (.inRegion ops (i::l)::k)) cs) g')(ho:ops[i]? =some o)(hg:o.guard=none):AtOp g'.frame o/\(∀x,QX (PE J R D) x->Rn.V (PE J R D) X (a.eval x) (g'.frame.eval x))/\g'=⟨g'.frame,g'.callers,.running,none,g'.offers⟩/\g'.frame.kind=b.kind:=by obtain⟨hr,hd,hf,_⟩:=h;refine⟨⟨hf.mode,hf.round.2,hg,ops,i,l,k,hf.todo,ho⟩,λx hx=>?_,?_,hf.kind⟩;have:=hf.eval x hx;rwa[Frame.eval_at]at this;obtain⟨fr,cs',st,dy,off⟩:=g';dsimp only at hr hd|-;rw[hr.2,hd.2]
def v_chan{X r b v}(h:Rn.V (PE J R D) X (.chan (some r)) v)(hr:(PE J R D).C r=some b):v=.chan (some b):=by cases h with|chan _ b' h'=>rw[hr]at h';rw[Option.some.inj h']
def clean_bytes:∀l (i:Nat)(v),(w8 l)[i]? =some v->Exact v:=λl i v h=>by unfold w8 at h;rw[List.getElem?_map]at h;obtain⟨x,_,rfl⟩:=Option.map_eq_some_iff.1 h;exact .int _ _
def exact_list{l:List Value}(h:∀(i:Nat) v,l[i]? =some v->Exact v):Exact (.agg l.toArray):=.agg _ λi v hv=>h i v (by simpa using hv)
def exact_cons{x l}(hx:Exact x)(h:∀(i:Nat) v,l[i]? =some v->Exact v):∀(i:Nat) v,(x::l)[i]? =some v->Exact v:=λi v hv=>by
 cases i with
 |zero=>cases hv;exact hx
 |succ i=>exact h i v (by simpa using hv)
def exact_tx t:Exact (txV t):=exact_list (exact_cons (.string _) (clean_bytes _))
def exact_tx0:Exact (.agg tx0.toArray):=exact_list (exact_cons (.string _) (clean_bytes _))
def exact_fv kd t:Exact (fvT kd t):=exact_list (exact_cons (.string _) (exact_cons (.string _) (clean_bytes _)))
def exact_fd0:Exact (.agg fd0.toArray):=exact_list (exact_cons (.string _) (exact_cons (.string _) (clean_bytes _)))
def exact_nil:Exact (.agg #[]):=.agg _ λi v hv=>by simp at hv
def not_lost{b:Frame}{a ops l k cs}:¬Lost (gor (b.at a (.inRegion ops l::k)) cs):=λh=>by rcases h.bad with⟨_,h⟩|⟨_,_,_,h⟩<;>cases h
section
variable{kd:List UInt8}{P:List (List UInt8)}{es:Array MapEntry}{clock:Nat}
def wake_call{g' o}(h:AtOp g'.frame o){b xs ts}(ho:o.op=.call ⟨.builtin b,xs,ts⟩):mayWake prog g'=true:=by obtain⟨ops,i,l,k,h1,h2⟩:=h.todo;unfold mayWake;rw[h.mode,h1];dsimp only;rw[h2];simp only[Option.map_some,ho]
def PA.re{c g v}(h:PA kd P es clock c g v) τ n:PA kd P es clock c g (v.re τ n):=by cases c with|feed=>exact h|recvJ=>exact WA.re (c:=.recvJ) h τ n|sendR t=>exact WA.re (c:=.sendR t) h τ n|sendD=>exact WA.re (c:=.sendD) h τ n|sendJ t r=>exact FA.re (c:=.sendJ t r) h τ n|closeJ=>exact FA.re (P:=P) (c:=.closeJ) h τ n|recvD k=>exact FA.re (P:=P) (c:=.recvD k) h τ n|closeR=>exact FA.re (P:=P) (c:=.closeR) h τ n|spawn k=>exact SA.re (c:=.spawn k) h τ n|recvR got=>exact SA.re (c:=.recvR got) h τ n
def PA.head{c g v}(h:PA kd P es clock c g v):∃b a ops l k,g=gor (Frame.at b a (.inRegion ops l::k)) [wall]:=by
 cases c with
 |feed=>exact h.elim|recvJ=>obtain⟨⟨_,_,_,_,_,_,_,_,_,_,_,_,_,rfl⟩,_⟩:=h;exact⟨_,_,_,_,_,rfl⟩
 |sendR t=>obtain⟨⟨_,_,_,_,_,_,_,_,_,_,_,rfl⟩,_⟩:=h;exact⟨_,_,_,_,_,rfl⟩
 |sendD=>obtain⟨⟨_,_,_,_,_,_,_,_,_,_,_,rfl⟩,_⟩:=h;exact⟨_,_,_,_,_,rfl⟩
 |sendJ t r=>obtain⟨⟨_,_,_,_,_,_,_,_,_,_,_,_,_,_,_,_,_,rfl⟩,_⟩:=h;exact⟨_,_,_,_,_,rfl⟩
 |closeJ=>obtain⟨⟨_,_,_,_,_,_,_,_,_,_,_,_,_,_,_,_,_,_,_,rfl⟩,_⟩:=h;exact⟨_,_,_,_,_,rfl⟩
 |recvD k=>obtain⟨⟨_,_,_,_,_,_,_,_,_,_,_,_,_,_,_,_,_,_,rfl⟩,_⟩:=h;exact⟨_,_,_,_,_,rfl⟩
 |closeR=>obtain⟨⟨_,_,_,_,_,_,_,_,_,_,_,_,_,_,_,_,_,_,_,rfl⟩,_⟩:=h;exact⟨_,_,_,_,_,rfl⟩
 |spawn k=>obtain⟨⟨_,_,_,_,_,_,_,_,_,_,_,_,_,_,_,_,_,_,_,_,_,_,_,_,_,_,_,_,_,rfl⟩|⟨_,_,_,_,_,_,_,_,_,_,_,_,_,_,_,_,_,_,_,_,_,_,_,_,_,_,_,_,_,_,rfl⟩,_⟩:=h;exact⟨_,_,_,_,_,rfl⟩;exact⟨_,_,_,_,_,rfl⟩
 |recvR got=>obtain⟨⟨_,_,_,_,_,_,_,_,_,_,_,_,_,_,_,_,_,_,_,_,_,_,_,_,_,_,_,_,rfl⟩,_⟩:=h;exact⟨_,_,_,_,_,rfl⟩
def PA.talk{c g v}(h:PA kd P es clock c g v):¬Lost g:=by obtain⟨b,a,ops,l,k,rfl⟩:=h.head;exact not_lost
def info_of{t z}(h:(prog.info? t).map (·.zero)=some (some z)):∃i,prog.info? t=some i/\i.zero=some z:=by
 cases hi:prog.info? t with
 |none=>rw[hi]at h;cases h
 |some i=>rw[hi]at h;exact⟨i,rfl,Option.some.inj h⟩
def act_ok c X Rs g v g'(hc:c.talks=true)(h:PA kd P es clock c g v)(hg:GR prog (PE J R D) X Rs g g') b w:stepG prog b g' w=.comm {g' with status:=.running,offers:=none} ((PN kd P es clock J R D).cases c) true ((PN kd P es clock J R D).shape c) w #[]:=by
 cases c with
 |recvJ=>obtain⟨⟨_,_,_,_,_,_,_,_,_,_,_,_,_,rfl⟩,_⟩:=h;obtain⟨h1,h2,h3,_⟩:=stands (o:=⟨some 6,.recv 132 (.tmp 5) true,_,_,_,_⟩) hg rfl rfl;obtain⟨i,hi,hz⟩:=info_of (t:=69) (z:=.agg tx0.toArray) (by kernel_rfl);have e1:=v_chan (h2 (.tmp 5) trivial) (b:=J) rfl;rw[h3,h1.recv rfl (by kernel_rfl:prog.underlying 132=some (.chan .both 69)) hi hz,e1];rfl
 |sendR t=>obtain⟨⟨_,_,_,_,_,_,_,_,_,_,_,rfl⟩,_⟩:=h;obtain⟨h1,h2,h3,_⟩:=stands (o:=⟨none,.send (.tmp 9) (.tmp 15),_,_,_,_⟩) hg rfl rfl;have e1:=v_chan (h2 (.tmp 9) trivial) (b:=R) rfl;have e2:=(exact_fv kd t).eq (h2 (.tmp 15) trivial);rw[h3,h1.send rfl,e1,e2];rfl
 |sendD=>obtain⟨⟨_,_,_,_,_,_,_,_,_,_,_,rfl⟩,_⟩:=h;obtain⟨h1,h2,h3,_⟩:=stands (o:=⟨none,.send (.tmp 16) (.tmp 17),_,_,_,_⟩) hg rfl rfl;have e1:=v_chan (h2 (.tmp 16) trivial) (b:=D) rfl;have e2:=exact_nil.eq (h2 (.tmp 17) trivial);rw[h3,h1.send rfl,e1,e2];rfl
 |sendJ t r=>obtain⟨⟨_,_,_,_,_,_,_,_,_,_,_,_,_,_,_,_,_,rfl⟩,_⟩:=h;obtain⟨h1,h2,h3,_⟩:=stands (o:=⟨none,.send (.tmp 15) (.tmp 16),_,_,_,_⟩) hg rfl rfl;have e1:=v_chan (h2 (.tmp 15) trivial) (b:=J) rfl;have e2:=(exact_tx t).eq (h2 (.tmp 16) trivial);rw[h3,h1.send rfl,e1,e2];rfl
 |recvD k=>obtain⟨⟨_,_,_,_,_,_,_,_,_,_,_,_,_,_,_,_,_,_,rfl⟩,_⟩:=h;obtain⟨h1,h2,h3,_⟩:=stands (o:=⟨some 21,.recv 134 (.tmp 20) false,_,_,_,_⟩) hg rfl rfl;obtain⟨i,hi,hz⟩:=info_of (t:=137) (z:=.agg #[]) (by kernel_rfl);have e1:=v_chan (h2 (.tmp 20) trivial) (b:=D) rfl;rw[h3,h1.recv rfl (by kernel_rfl:prog.underlying 134=some (.chan .both 137)) hi hz,e1];rfl
 |recvR got=>obtain⟨⟨_,_,_,_,_,_,_,_,_,_,_,_,_,_,_,_,_,_,_,_,_,_,_,_,_,_,_,_,rfl⟩,_⟩:=h;obtain⟨h1,h2,h3,_⟩:=stands (o:=⟨some 20,.recv 133 (.tmp 19) true,_,_,_,_⟩) hg rfl rfl;obtain⟨i,hi,hz⟩:=info_of (t:=136) (z:=.agg fd0.toArray) (by kernel_rfl);have e1:=v_chan (h2 (.tmp 19) trivial) (b:=R) rfl;rw[h3,h1.recv rfl (by kernel_rfl:prog.underlying 133=some (.chan .both 136)) hi hz,e1];rfl
 |_=>cases hc
def close_ok c ch X Rs g v g'(hc:c=.closeJ/\ch=J∨c=.closeR/\ch=R)(h:PA kd P es clock c g v)(hg:GR prog (PE J R D) X Rs g g'):mayWake prog g'=true/\∀b w s r,w.heap[ch]? =some (.chan 0 #[] false s r false)->stepG prog b g' w=.go (doneG g' (.tuple #[])) {w with heap:=w.heap.setIfInBounds ch (.chan 0 #[] true s r false)} #[⟨.obj ch,false,true⟩,⟨.obj ch,true,true⟩]:=by rcases hc with⟨rfl,rfl⟩|⟨rfl,rfl⟩;obtain⟨⟨_,_,_,_,_,_,_,_,_,_,_,_,_,_,_,_,_,_,_,rfl⟩,_⟩:=h;obtain⟨h1,h2,h3,h4⟩:=stands (o:=⟨none,.call ⟨.builtin .close,#[.tmp 17],_⟩,_,_,_,_⟩) hg rfl rfl;have e1:=v_chan (h2 (.tmp 17) trivial) (b:=ch) rfl;refine⟨wake_call h1 rfl,λb w s r hch=>?_⟩;rw[h3,h1.close rfl e1 (by rw[h4];exact λe=>by cases e) _ _ _ _ hch];rfl;obtain⟨⟨_,_,_,_,_,_,_,_,_,_,_,_,_,_,_,_,_,_,_,rfl⟩,_⟩:=h;obtain⟨h1,h2,h3,h4⟩:=stands (o:=⟨none,.call ⟨.builtin .close,#[.tmp 23],_⟩,_,_,_,_⟩) hg rfl rfl;have e1:=v_chan (h2 (.tmp 23) trivial) (b:=ch) rfl;refine⟨wake_call h1 rfl,λb w s r hch=>?_⟩;rw[h3,h1.close rfl e1 (by rw[h4];exact λe=>by cases e) _ _ _ _ hch];rfl
def v_func{X f}{l:List (Nat×Nat)}{u}(h:Rn.V (PE J R D) X (.func (.func f) #[] (l.map λp=>lp p.1).toArray) u)(hX:∀p∈l,5<=p.1/\X[p.1-5]? =some p.2):u=.func (.func f) #[] (l.map λp=>lp p.2).toArray:=by
 cases h with
 |func _ _ a' _ c' hF h1 h2 h3 h4=>
 have ha:a'=#[]:=Array.eq_empty_of_size_eq_zero (by rw[<-h1];rfl);subst ha;congr 1;apply Array.ext_getElem?;intro i;by_cases hi:i<l.length;have hl:(l.map λp=>lp p.1).toArray[i]? =some (lp l[i].1):=by simp[hi]
 have hc:i<c'.size:=by rw[<-h3];simpa using hi
 have hv:=h4 i _ _ hl (Array.getElem?_eq_getElem hc);have hr:(l.map λp=>lp p.2).toArray[i]? =some (lp l[i].2):=by simp[hi]
 rw[Array.getElem?_eq_getElem hc,hr];obtain⟨_,hx⟩:=hX l[i] (List.getElem_mem hi);generalize c'[i]=y at hv;cases hv with|ptr r b o sp hat=>have:=hat.2;rw[show l[i].1-(PE J R D).G=l[i].1-5 from rfl,hx]at this;rw[Option.some.inj this]
 rw[Array.getElem?_eq_none (by rw[<-h3];simpa using hi),Array.getElem?_eq_none (by simpa using hi)]
def spawn_ok(cp ck cj cr cd n:Nat)(k:Nat)(X:List Nat)(Rs:List Frame)(g:Goroutine)(v:World)(g':Goroutine)(hX:∃Y,X=[cp,ck,cj,cr,cd]++Y)(hk:k<=3)(h:PA kd P es clock (.spawn k) g v)(hg:GR prog (PE J R D) X Rs g g')(b:Bool)(w:World):stepG prog b g' w=.spawn (doneG g' undef) (bornOf prog ⟨.fn (.func (if n+k<n+3 then 65 else 66)) (if n+k<n+3 then #[lp cj,lp cr,lp ck,lp cd]else #[lp cp,lp cj,lp cd,lp cr]),#[]⟩) w #[]:=by obtain⟨Y,rfl⟩:=hX;obtain⟨⟨hk3,_,_,_,_,_,_,_,_,_,_,_,_,_,_,_,_,_,_,_,_,_,_,_,_,_,_,_,_,rfl⟩|⟨rfl,_,_,_,_,_,_,_,_,_,_,_,_,_,_,_,_,_,_,_,_,_,_,_,_,_,_,_,_,_,rfl⟩,_⟩:=h;obtain⟨h1,h2,h3,_⟩:=stands (o:=⟨none,.go ⟨.value (.tmp 15),#[],#[]⟩,_,_,_,_⟩) hg rfl rfl;have e1:=v_func (l:=[(7,cj),(8,cr),(6,ck),(9,cd)]) (h2 (.tmp 15) trivial) (by intro p hp;simp only[List.mem_cons,List.not_mem_nil,or_false]at hp;rcases hp with rfl|rfl|rfl|rfl<;>exact⟨by dsimp only;omega,rfl⟩);rw[h3,h1.go rfl e1,if_pos (by omega),if_pos (by omega)];rfl;obtain⟨h1,h2,h3,_⟩:=stands (o:=⟨none,.go ⟨.value (.tmp 17),#[],#[]⟩,_,_,_,_⟩) hg rfl rfl;have e1:=v_func (l:=[(5,cp),(7,cj),(9,cd),(8,cr)]) (h2 (.tmp 17) trivial) (by intro p hp;simp only[List.mem_cons,List.not_mem_nil,or_false]at hp;rcases hp with rfl|rfl|rfl|rfl<;>exact⟨by dsimp only;omega,rfl⟩);rw[h3,h1.go rfl e1,if_neg (by omega),if_neg (by omega)];rfl
end
end
end Ph
namespace Ph
open Go.Conc Rn Nums
open Go.RowKit
open Tp (Bodied bodied Term Ld gor)
structure Bn where
 cp:Nat
 ck:Nat
 cj:Nat
 cr:Nat
 cd:Nat
 rb:Nat
 mb:Nat
 J:Nat
 R:Nat
 D:Nat
def Bn.Sh(N:Bn)(b:Nat):Prop:=b=N.cp∨b=N.ck∨b=N.cj∨b=N.cr∨b=N.cd∨b=N.rb
def Bn.X0(N:Bn):List Nat:=[N.cp,N.ck,N.cj,N.cr,N.cd]
def Bn.Xw(N:Bn):List Nat:=[N.cj,N.cr,N.ck,N.cd]
def Bn.Xf(N:Bn):List Nat:=[N.cp,N.cj,N.cd,N.cr,N.rb,N.mb]
def lw(w:World)(l:List Obj):World:={w with heap:=l.toArray}
noncomputable def PS(kd:List UInt8)(P:List (List UInt8))(es:Array MapEntry)(clock:Nat)(N:Bn)(cs:List Frame)(w:World):Setup (List UInt8) where
 P:=prog;E:=PE N.J N.R N.D;Sh:=N.Sh;N:=PN kd P es clock N.J N.R N.D;cs:=cs;fw:=65;ff:=66;aw:=#[lp N.cj,lp N.cr,lp N.ck,lp N.cd];af:=#[lp N.cp,lp N.cj,lp N.cd,lp N.cr];all:=P;g0:=gor (bm.at ⟨#[poison,.agg (keyCells kd).toArray,lp 5,lp 6,.map none,lp 7,lp 8,lp 9,undef,undef,.chan (some 2),.chan (some 3),.chan (some 4),.int .i64 0,.bool true,.func (.func 65) #[] #[lp 7,lp 8,lp 6,lp 9],undef,undef,undef,undef,undef,undef,undef,undef,undef,undef,undef,undef,undef,undef,undef,undef,undef,undef,undef],[]⟩ tG) [wall];gw:=gor (Frame.enter prog 65 #[lp 5,lp 6,lp 7,lp 8] .deferred) [wall];gf:=gor (Frame.enter prog 66 #[lp 5,lp 6,lp 7,lp 8] .deferred) [wall];v0:=lw w (Hs kd);vw:=lw w (Hw kd);vf:=lw w (Hf es clock);vn:=lw w [junk,junk,junk,junk,junk];X0:=N.X0;Xw:=N.Xw;Xf:=N.Xf
noncomputable def gR(kd:List UInt8)(N:Bn)(cs:List Frame):Goroutine:=gor (bm.at ⟨#[.pointer (some ⟨N.rb,0,none⟩),.agg (keyCells kd).toArray,lp N.cp,lp N.ck,.map none,lp N.cj,lp N.cr,lp N.cd,undef,undef,.chan (some N.J),.chan (some N.R),.chan (some N.D),.int .i64 0,.bool true,.func (.func 65) #[] #[lp N.cj,lp N.cr,lp N.ck,lp N.cd],undef,undef,undef,undef,undef,undef,undef,undef,undef,undef,undef,undef,undef,undef,undef,undef,undef,undef,undef],[]⟩ tG) cs
section
variable{kd:List UInt8}{P:List (List UInt8)}{es:Array MapEntry}{clock:Nat}{N:Bn}{cs:List Frame}{w:World}
def callers_wall{E X Rs fr g'}(h:GR prog E X Rs (gor fr [wall]) g'):g'.callers=Rs:=by
 obtain⟨cs,cs',e1,e2,hc⟩:=h.callers;have:cs=[]:=by
  have hl:[wall].length=(cs++[wall]).length:=by rw[<-e1]
  simp at hl;exact hl
 subst this;cases hc;simpa using e2
def quits_of{E X}{b:Frame}{a ops i fn g'}(h:GR prog E X [base prog] (gor (b.at a [.inRegion ops [i]]) [wall]) g')(hf:prog.funcs[b.fn]? =some fn)(hr:fn.results=#[])(hk:b.kind=.deferred) u:QuitsD prog 4 0 {g' with frame:=g'.frame.finish u,status:=.running,offers:=none}:=by have hc:=callers_wall h;obtain⟨_,hd,hfr,_⟩:=h;obtain⟨fr,cs',st,dy,off⟩:=g';dsimp only at hc hd hfr|-;obtain⟨_,rfl⟩:=hd;subst hc;have hkd:fr.kind=.deferred:=hfr.kind.trans hk;have hmode:fr.mode=.run:=hfr.mode;have htodo:fr.todo=[.inRegion ops [i]]:=hfr.todo;have hdf:fr.defers=[]:=hfr.defers.2;have hro:fr.roundOf=none:=hfr.round.2;have hfn:fr.fn=b.fn:=hfr.fn;clear hfr;obtain⟨f1,f2,f3,f4,f5,f6,f7⟩:=fr;dsimp only at hkd hmode htodo hdf hro hfn;subst hkd;subst hmode;subst htodo;subst hdf;subst hro;subst hfn;unfold Frame.finish;dsimp only;exact quits_tail (ops:=ops) hf hr rfl rfl rfl rfl rfl
def law(hup:Pl.Up Mk.twice P)(h20:P.length<=1000)(n:Nat):Law ((PS kd P es clock N cs w).cfg n) where
 code:=code_ok;bodied:=bod_ok;glob:=by show prog.globals.size<=5;exact of_decide_eq_true (by kernel_rfl)
 chans:=chans_ok;re:=λc g v τ n h=>PA.re h τ n;talk:=λc g v h=>PA.talk h;started:=λi h1 h2=>by show(if i<n+3 then _ else _)∈fl/\∃fn,prog.funcs[if i<n+3 then _ else _]? =some fn;split;obtain⟨fn,b,h,_⟩:=fl_fn (f:=65) (by decide);exact⟨(by decide:65∈fl),fn,h⟩;obtain⟨fn,b,h,_⟩:=fl_fn (f:=66) (by decide);exact⟨(by decide:66∈fl),fn,h⟩
 act:=λc X R g v g' hc h hg b w=>act_ok c X R g v g' hc h hg b w;actClose:=λc ch X R g v g' hc h hg=>close_ok c ch X R g v g' hc h hg;app0:=λX Y ⟨Z,hZ⟩=>⟨Z++Y,by rw[hZ,List.append_assoc]⟩;actSpawn:=λk X R g v g' hk hX h hg b w=>spawn_ok (P:=P) (es:=es) (clock:=clock) N.cp N.ck N.cj N.cr N.cd n k X R g v g' hX hk h hg b w;vals:=⟨λa=>(exact_tx a).clean,λa=>(exact_fv kd a).clean,exact_nil.clean,exact_tx0.clean,exact_fd0.clean⟩;tx:=λ_ _ _ _ _=>trivial;nRecvJ:=λa g v h _=>w_recv h;nEndJ:=λg v h=>w_end h;nSendR:=λa g v h=>w_sent h;nSendD:=λX g v g' h hg=>by obtain⟨⟨_,_,_,_,_,_,_,_,_,_,_,rfl⟩,_⟩:=h;exact⟨4,quits_of hg func65 rfl rfl undef⟩
 nSendJ:=λa rem g v h=>f_sent hup h;nCloseJ:=λg v h=>f_closed (P:=P) h;nRecvD:=λk g v hk h=>f_heard (P:=P) _ hk h;nRecvD2:=λg v h=>f_last (P:=P) _ h;nCloseR:=λX g v g' h hg=>by obtain⟨⟨_,_,_,_,_,_,_,_,_,_,_,_,_,_,_,_,_,_,_,rfl⟩,_⟩:=h;exact⟨4,quits_of hg func66 rfl rfl _⟩
 nSpawn:=λk g v hk h=>s_went hk h;nSpawn3:=λg v h=>s_all h;nRecvR:=λa got g v hn h=>s_recv (Nat.le_trans hn h20) h
end
end Ph
namespace Ph
open Go.Conc Rn Nums
open Go.RowKit
open Tp (Bodied bodied Term Ld gor)
section
variable{E:Env}{X:List Nat}
inductive VL(E:Env)(X:List Nat):List Value->List Value->Prop
 |nil:VL E X [] []
 |cons {a b:Value} {l m:List Value} (h:Rn.V E X a b) (t:VL E X l m):VL E X (a::l) (b::m)
def VL.length{l m}(h:VL E X l m):l.length=m.length:=by induction h with|nil=>rfl|cons _ _ ih=>simp[ih]
def VL.get{l m}(h:VL E X l m):∀(i:Nat)(a b),l[i]? =some a->m[i]? =some b->Rn.V E X a b:=by
 induction h with
 |nil=>intro i a b h;simp at h|cons h _ ih=>
 intro i a b h1 h2;cases i with
 |zero=>cases h1;cases h2;exact h
 |succ i=>exact ih i a b (by simpa using h1) (by simpa using h2)
def VL.va{l m}(h:VL E X l m):VA E X l.toArray m.toArray:=⟨by simpa using h.length,λi v v' h1 h2=>h.get i v v' (by simpa using h1) (by simpa using h2)⟩
def v_undef:Rn.V E X undef undef:=V.ofTuple (VA.empty _)
def v_key kd:Rn.V E X (.agg (keyCells kd).toArray) (.agg (keyCells kd).toArray):=Clean.self (.agg _ λi v hv=>by
 have hv':(keyCells kd)[i]? =some v:=by simpa using hv
 unfold keyCells at hv';match i,hv' with
 |0,h=>cases h;exact .int _ _
 |1,h=>cases h;exact .int _ _
 |i+2,h=>simp at h) _
def at_{J R D r b X}(h:5<=r)(h2:X[r-5]? =some b):At (PE J R D) X r b:=⟨h,h2⟩
def fz_shared c t:∃c' e,fz c t=.cells c' e (0,c'.size):=⟨c.toArray,t,by simp[fz]⟩
def fz_rel{c c' t}(h:VL E X c c'):ObjR E X (fz c t) (.cells c'.toArray t (0,0)):=.cells _ _ _ _ _ h.va (.inr (by simp))
def wr_of{Sh:Nat->Prop}{w:World}{l:List Obj}(hG:E.G=5)(hs:l.length=5+X.length)(hj:∀i,i<5->l[i]? =some junk)(hn:X.Nodup)(hlow:∀b,Sh b->b<w.heap.size) (h:∀(i b:Nat),X[i]? =some b->∃o o',l[5+i]? =some o/\w.heap[b]? =some o'/\ObjR E X o o'/\(Sh b->∃c e,o=.cells c e (0,c.size))):WR E Sh X ((lw w l).re w.tape w.drawn) w where
 size:=by show l.toArray.size=_;rw[hG];simpa using hs
 el:=λi b hb=>by obtain⟨o,o',h1,h2,h3,_⟩:=h i b hb;exact⟨o,o',by show l.toArray[E.G+i]? =_;rw[hG];simpa using h1,h2,h3⟩
 junk:=λr hr=>by show l.toArray[r]? =_;rw[hG]at hr;exact(by simpa using hj r hr:l.toArray[r]? =some junk)
 nodup:=hn;shared:=λi b hb hsb=>by obtain⟨o,o',h1,_,_,h4⟩:=h i b hb;obtain⟨c,e,rfl⟩:=h4 hsb;exact⟨c,e,by show l.toArray[E.G+i]? =_;rw[hG];simpa using h1⟩
 low:=hlow;tape:=rfl;drawn:=rfl
end
def bn(B rb mb:Nat):Bn:=⟨B,B+1,B+3,B+5,B+7,rb,mb,B+2,B+4,B+6⟩
structure AtGo(kd:List UInt8)(es:Array MapEntry)(clock B rb mb:Nat)(w:World):Prop where
 size:w.heap.size=B+8
 hcp:w.heap[B]? =some (.cells #[.pointer (some ⟨rb,0,none⟩)] 72 (0,0))
 hck:w.heap[B+1]? =some (.cells (keyCells kd).toArray 93 (0,0))
 hJ:w.heap[B+2]? =some (.chan 0 #[] false 0 0 false)
 hcj:w.heap[B+3]? =some (.cells #[.chan (some (B+2))] 132 (0,0))
 hR:w.heap[B+4]? =some (.chan 0 #[] false 0 0 false)
 hcr:w.heap[B+5]? =some (.cells #[.chan (some (B+4))] 133 (0,0))
 hD:w.heap[B+6]? =some (.chan 3 #[] false 0 0 false)
 hcd:w.heap[B+7]? =some (.cells #[.chan (some (B+6))] 134 (0,0))
 hrb:∃a b c,w.heap[rb]? =some (.cells #[.map (some mb),a,b,c] 41 (0,0))/\flat a/\flat b/\flat c
 hmb:w.heap[mb]? =some (.map es clock)
 rlt:rb<B
 mlt:mb<B
section
variable{kd:List UInt8}{P:List (List UInt8)}{es:Array MapEntry}{clock B rb mb:Nat}{cs:List Frame}{w:World}
def AtGo.ne(h:AtGo kd es clock B rb mb w):rb≠mb:=λe=>by obtain⟨a,b,c,h1,_⟩:=h.hrb;rw[e,h.hmb]at h1;cases h1
def bn_low(h:AtGo kd es clock B rb mb w):∀b,(bn B rb mb).Sh b->b<w.heap.size:=λb hb=>by have h1:=h.size;have h2:=h.rlt;unfold Bn.Sh bn at hb;dsimp only at hb;omega
def bn_cases5{p:Nat->Nat->Prop}{a b c d e}(h0:p 0 a)(h1:p 1 b)(h2:p 2 c)(h3:p 3 d)(h4:p 4 e):∀i x,[a,b,c,d,e][i]? =some x->p i x:=λi x hx=>by
 match i,hx with
 |0,h=>cases h;exact h0
 |1,h=>cases h;exact h1
 |2,h=>cases h;exact h2
 |3,h=>cases h;exact h3
 |4,h=>cases h;exact h4
 |i+5,h=>simp at h
def bn_cases4{p:Nat->Nat->Prop}{a b c d}(h0:p 0 a)(h1:p 1 b)(h2:p 2 c)(h3:p 3 d):∀i x,[a,b,c,d][i]? =some x->p i x:=λi x hx=>by
 match i,hx with
 |0,h=>cases h;exact h0
 |1,h=>cases h;exact h1
 |2,h=>cases h;exact h2
 |3,h=>cases h;exact h3
 |i+4,h=>simp at h
def bn_cases6{p:Nat->Nat->Prop}{a b c d e f}(h0:p 0 a)(h1:p 1 b)(h2:p 2 c)(h3:p 3 d)(h4:p 4 e)(h5:p 5 f):∀i x,[a,b,c,d,e,f][i]? =some x->p i x:=λi x hx=>by
 match i,hx with
 |0,h=>cases h;exact h0
 |1,h=>cases h;exact h1
 |2,h=>cases h;exact h2
 |3,h=>cases h;exact h3
 |4,h=>cases h;exact h4
 |5,h=>cases h;exact h5
 |i+6,h=>simp at h
def junk5{l}:∀i,i<5->(junk::junk::junk::junk::junk::l)[i]? =some junk:=λi hi=>by
 match i,hi with
 |0,_=>rfl
 |1,_=>rfl
 |2,_=>rfl
 |3,_=>rfl
 |4,_=>rfl
def one_chan{X J R D r b}(h:(PE J R D).C r=some b):VL (PE J R D) X [.chan (some r)] [.chan (some b)]:=.cons (.chan _ _ h) .nil
def key_vl{E X}:VL E X (keyCells kd) (keyCells kd):=.cons (.int _ _) (.cons (.int _ _) .nil)
def wr0(h:AtGo kd es clock B rb mb w):WR (PE (B+2) (B+4) (B+6)) (bn B rb mb).Sh (bn B rb mb).X0 ((lw w (Hs kd)).re w.tape w.drawn) w:=by refine wr_of rfl rfl junk5 ?_ (bn_low h) (bn_cases5 ?_ ?_ ?_ ?_ ?_);show [B,B+1,B+3,B+5,B+7].Nodup;simp only[List.nodup_cons,List.mem_cons,List.not_mem_nil,or_false,List.nodup_nil,and_true,not_false_eq_true];omega;exact⟨_,_,rfl,h.hcp,fz_rel (.cons (.undef (.pointer (some ⟨rb,0,none⟩)) trivial) .nil),λ_=>fz_shared _ _⟩;exact⟨_,_,rfl,h.hck,fz_rel key_vl,λ_=>fz_shared _ _⟩;exact⟨_,_,rfl,h.hcj,fz_rel (one_chan rfl),λ_=>fz_shared _ _⟩;exact⟨_,_,rfl,h.hcr,fz_rel (one_chan rfl),λ_=>fz_shared _ _⟩;exact⟨_,_,rfl,h.hcd,fz_rel (one_chan rfl),λ_=>fz_shared _ _⟩
def wrw(h:AtGo kd es clock B rb mb w):WR (PE (B+2) (B+4) (B+6)) (bn B rb mb).Sh (bn B rb mb).Xw ((lw w (Hw kd)).re w.tape w.drawn) w:=by refine wr_of rfl rfl junk5 ?_ (bn_low h) (bn_cases4 ?_ ?_ ?_ ?_);show [B+3,B+5,B+1,B+7].Nodup;simp only[List.nodup_cons,List.mem_cons,List.not_mem_nil,or_false,List.nodup_nil,and_true,not_false_eq_true];omega;exact⟨_,_,rfl,h.hcj,fz_rel (one_chan rfl),λ_=>fz_shared _ _⟩;exact⟨_,_,rfl,h.hcr,fz_rel (one_chan rfl),λ_=>fz_shared _ _⟩;exact⟨_,_,rfl,h.hck,fz_rel key_vl,λ_=>fz_shared _ _⟩;exact⟨_,_,rfl,h.hcd,fz_rel (one_chan rfl),λ_=>fz_shared _ _⟩
def wrf(h:AtGo kd es clock B rb mb w)(hcl:∀e∈es.toList,Rn.Clean e.key/\Rn.Clean e.val):WR (PE (B+2) (B+4) (B+6)) (bn B rb mb).Sh (bn B rb mb).Xf ((lw w (Hf es clock)).re w.tape w.drawn) w:=by have hne:=h.ne;have hr:=h.rlt;have hm:=h.mlt;refine wr_of rfl rfl junk5 ?_ (bn_low h) (bn_cases6 ?_ ?_ ?_ ?_ ?_ ?_);show [B,B+3,B+7,B+5,rb,mb].Nodup;simp only[List.nodup_cons,List.mem_cons,List.not_mem_nil,or_false,List.nodup_nil,and_true,not_false_eq_true];omega;exact⟨_,_,rfl,h.hcp,fz_rel (.cons (.ptr _ _ _ _ (at_ (by decide) rfl)) .nil),λ_=>fz_shared _ _⟩;exact⟨_,_,rfl,h.hcj,fz_rel (one_chan rfl),λ_=>fz_shared _ _⟩;exact⟨_,_,rfl,h.hcd,fz_rel (one_chan rfl),λ_=>fz_shared _ _⟩;exact⟨_,_,rfl,h.hcr,fz_rel (one_chan rfl),λ_=>fz_shared _ _⟩;obtain⟨a,b,c,h1,ha,hb,hc⟩:=h.hrb;exact⟨_,_,rfl,h1,fz_rel (.cons (.map _ _ (at_ (by decide) rfl)) (.cons (.undef _ ha) (.cons (.undef _ hb) (.cons (.undef _ hc) .nil)))),λ_=>fz_shared _ _⟩;refine⟨_,_,rfl,h.hmb,.map _ _ _ ⟨rfl,λi e e' h1 h2=>?_⟩,λhsh=>?_⟩;rw[h1]at h2;cases h2;obtain⟨k1,k2⟩:=hcl e (by simpa using Array.mem_of_getElem? h1);exact⟨k1.self _,k2.self _,rfl⟩;have hsh':(bn B rb mb).Sh mb:=hsh;unfold Bn.Sh bn at hsh';dsimp only at hsh';omega
def wrn(h:AtGo kd es clock B rb mb w):WR (PE (B+2) (B+4) (B+6)) (bn B rb mb).Sh [] ((lw w [junk,junk,junk,junk,junk]).re w.tape w.drawn) w:=wr_of rfl rfl junk5 List.nodup_nil (bn_low h) (λi b hb=>by simp at hb)
def v_fw(N:Bn):Rn.V (PE N.J N.R N.D) N.X0 (.func (.func 65) #[] #[lp 7,lp 8,lp 6,lp 9]) (.func (.func 65) #[] #[lp N.cj,lp N.cr,lp N.ck,lp N.cd]):=by have hc:VA (PE N.J N.R N.D) N.X0 #[lp 7,lp 8,lp 6,lp 9] #[lp N.cj,lp N.cr,lp N.ck,lp N.cd]:=VL.va (.cons (.ptr _ _ _ _ (at_ (by decide) rfl)) (.cons (.ptr _ _ _ _ (at_ (by decide) rfl)) (.cons (.ptr _ _ _ _ (at_ (by decide) rfl)) (.cons (.ptr _ _ _ _ (at_ (by decide) rfl)) .nil))));exact .func _ _ _ _ _ (by show _∈fl;decide) rfl (VA.empty _).el hc.size hc.el
def gr_start(N:Bn):GR prog (PE N.J N.R N.D) N.X0 cs (gor (bm.at ⟨#[poison,.agg (keyCells kd).toArray,lp 5,lp 6,.map none,lp 7,lp 8,lp 9,undef,undef,.chan (some 2),.chan (some 3),.chan (some 4),.int .i64 0,.bool true,.func (.func 65) #[] #[lp 7,lp 8,lp 6,lp 9],undef,undef,undef,undef,undef,undef,undef,undef,undef,undef,undef,undef,undef,undef,undef,undef,undef,undef,undef],[]⟩ tG) [wall]) (gR kd N cs):=by refine⟨⟨rfl,rfl⟩,⟨rfl,rfl⟩,⟨rfl,rfl,items_ok (by kernel_rfl),VL.va (.cons (.undef (.pointer (some ⟨N.rb,0,none⟩)) trivial) (.cons (v_key kd) (.cons (.ptr _ _ _ _ (at_ (by decide) rfl)) (.cons (.ptr _ _ _ _ (at_ (by decide) rfl)) (.cons (.mapN) (.cons (.ptr _ _ _ _ (at_ (by decide) rfl)) (.cons (.ptr _ _ _ _ (at_ (by decide) rfl)) (.cons (.ptr _ _ _ _ (at_ (by decide) rfl)) (.cons (v_undef) (.cons (v_undef) (.cons (.chan _ _ rfl) (.cons (.chan _ _ rfl) (.cons (.chan _ _ rfl) (.cons (.int _ _) (.cons (.bool _) (.cons (v_fw N) (.cons (v_undef) (.cons (v_undef) (.cons (v_undef) (.cons (v_undef) (.cons (v_undef) (.cons (v_undef) (.cons (v_undef) (.cons (v_undef) (.cons (v_undef) (.cons (v_undef) (.cons (v_undef) (.cons (v_undef) (.cons (v_undef) (.cons (v_undef) (.cons (v_undef) (.cons (v_undef) (.cons (v_undef) (.cons (v_undef) (.cons (v_undef) (.nil)))))))))))))))))))))))))))))))))))),⟨rfl,rfl⟩,rfl,.inl rfl,rfl,⟨rfl,rfl⟩⟩,[],[],rfl,rfl,.nil⟩
def gr_enter(N:Bn)(X:List Nat)(f:FuncId)(hf:f∈fl){a a':List Value}(h:VL (PE N.J N.R N.D) X a a'):GR prog (PE N.J N.R N.D) X [base prog] (gor (Frame.enter prog f a.toArray .deferred) [wall]) (started prog f a'.toArray):=⟨⟨rfl,rfl⟩,⟨rfl,rfl⟩,FrR.enter code_ok f hf h.va _ _ rfl,[],[],rfl,rfl,.nil⟩
def own_lone{m m' n:Nat}{Dt:DataW Unit}{w v:World}(h:w.ownsMap prog 67 Mp.txR m n Dt)(hb:v.heap[m']? =w.heap[m]?):v.ownsMap prog 67 Mp.txR m' n Dt:=by obtain⟨es,clock,h1,h2⟩:=h;exact⟨es,clock,hb.trans h1,h2⟩
def ready(h:AtGo kd es clock B rb mb w)(hM:Mp.Map w mb P)(hcl:∀e∈es.toList,Rn.Clean e.key/\Rn.Clean e.val):Ready (PS kd P es clock (bn B rb mb) cs w) (gR kd (bn B rb mb) cs) w where
 law:=law hM.up (Nat.le_trans hM.le (by omega));gr0:=gr_start _;term0:=.stop ⟨.inl ⟨by omega,_,_,_,_,_,_,_,_,_,_,_,_,_,_,_,_,_,_,_,_,_,_,_,_,_,_,_,_,rfl⟩,Pre.mk _ _ rfl,rfl⟩;grw:=gr_enter (bn B rb mb) _ _ (by decide) (.cons (.ptr _ _ _ _ (at_ (by decide) rfl)) (.cons (.ptr _ _ _ _ (at_ (by decide) rfl)) (.cons (.ptr _ _ _ _ (at_ (by decide) rfl)) (.cons (.ptr _ _ _ _ (at_ (by decide) rfl)) .nil))));termw:=w_start (Pre.mk _ _ rfl);grf:=gr_enter (bn B rb mb) _ _ (by decide) (.cons (.ptr _ _ _ _ (at_ (by decide) rfl)) (.cons (.ptr _ _ _ _ (at_ (by decide) rfl)) (.cons (.ptr _ _ _ _ (at_ (by decide) rfl)) (.cons (.ptr _ _ _ _ (at_ (by decide) rfl)) .nil))));termf:=f_start hM.up (Pre.mk _ _ rfl) rfl (own_lone hM.own h.hmb.symm);wr0:=wr0 h;wrw:=wrw h;wrf:=wrf h hcl;wrn:=wrn h;d0w:=λb hb _=>by have hb':b∈[B,B+1,B+3,B+5,B+7]:=hb;simp only[List.mem_cons,List.not_mem_nil,or_false]at hb';show(bn B rb mb).Sh b;unfold Bn.Sh bn;dsimp only;omega
 d0f:=λb hb _=>by have hb':b∈[B,B+1,B+3,B+5,B+7]:=hb;simp only[List.mem_cons,List.not_mem_nil,or_false]at hb';show(bn B rb mb).Sh b;unfold Bn.Sh bn;dsimp only;omega
 dww:=λb hb=>by have hb':b∈[B+3,B+5,B+1,B+7]:=hb;simp only[List.mem_cons,List.not_mem_nil,or_false]at hb';show(bn B rb mb).Sh b;unfold Bn.Sh bn;dsimp only;omega
 chJ:=⟨_,_,h.hJ⟩;chR:=⟨_,_,h.hR⟩;chD:=h.hD;ne:=by show B+2≠B+4/\B+2≠B+6/\B+4≠B+6;omega
end
end Ph
namespace Ph
open Go.Conc Rn Nums
open Go.RowKit
open Tp (Bodied bodied Term Ld gor)
structure Bel(B:Nat)(w w':World):Prop where
 os:w'.os=w.os
 output:w'.output=w.output
 size:w.heap.size<=w'.heap.size
 block:∀k,k<B->w'.heap[k]? =w.heap[k]?
theorem Bel.trans{B w w' w''}(h:Bel B w w')(h':Bel B w' w''):Bel B w w'':=⟨h'.os.trans h.os,h'.output.trans h.output,Nat.le_trans h.size h'.size,λk hk=>(h'.block k hk).trans (h.block k hk)⟩
def Bel.mono{B C w w'}(h:Bel B w w')(hc:C<=B):Bel C w w':=⟨h.os,h.output,h.size,λk hk=>h.block k (by omega)⟩
def Bel.of{B w w'}(h:Below B w w'):Bel B w w':=⟨h.os,h.output,h.size,h.block⟩
section
variable{E:Env}{Sh:Nat->Prop}{X:List Nat}{v w:World}
def at_inj(hn:X.Nodup){g g' b}(h:At E X g b)(h':At E X g' b):g=g':=by have h1:=h.1;have h2:=h'.1;have hlt:=(List.getElem?_eq_some_iff.1 h.2).1;have:=(List.getElem?_inj hlt hn).1 (h.2.trans h'.2.symm);omega
def own_rel(hw:WR E Sh X v w){B B'}(hfresh:∀g b,At E X g b->B'<=g->B<=b){e z n x x' xs}(hx:∀u∈xs,Exact u)(h0:0<n)(hz:0<z)(h:v.ownsRow B' e z x n xs)(hv:Rn.V E X x x'):w.ownsRow B e z x' n xs/\∃g b,x.ownBlock=some g/\x'.ownBlock=some b/\At E X g b:=by
 rcases h.2 with⟨_,hn⟩|⟨g,cap,cur,rfl,hb,hc,h1,h2,h3,h4⟩;omega;cases hv with
 |slice _ b off sp _ _ hat=>
 obtain⟨o,o',e1,e2,hr⟩:=hw.obj hat;rw[hc]at e1;cases e1;cases hr with
 |cells _ c' _ _ fz' hva hf=>
 have hcz:0<cur.size:=by rw[h3];exact Nat.mul_pos (by omega) hz
 have hfz:fz'=(0,0):=by rcases hf with hf|hf;exact hf;have:=(Prod.mk.inj hf).2;omega
 subst hfz;refine⟨⟨h.1,.inr ⟨b,cap,c',rfl,hfresh g b hat hb,e2,h1,h2,by rw[<-hva.size];exact h3,?_⟩⟩,g,b,rfl,rfl,hat⟩;rw[<-h4];apply List.ext_getElem?;intro i;rw[List.getElem?_take,List.getElem?_take];split;rename_i hi;rcases hva.get i with⟨y,y',e1,e2,hy⟩|⟨e1,e2⟩;have hm:y∈xs:=by rw[<-h4];refine List.mem_of_getElem? (i:=i) ?_;rw[List.getElem?_take,if_pos hi];simpa using e1
 have:=(hx y hm).eq hy;rw[Array.getElem?_toList,Array.getElem?_toList,e1,e2,this];rw[Array.getElem?_toList,Array.getElem?_toList,e1,e2];rfl
def exact_txs ts:∀u∈txsCells ts,Exact u:=λu hu=>by unfold txsCells at hu;obtain⟨l,hl,hm⟩:=List.mem_flatten.1 hu;obtain⟨t,_,rfl⟩:=List.mem_map.1 hl;obtain⟨i,hi⟩:=List.getElem?_of_mem hm;exact exact_cons (.string _) (clean_bytes _) i u hi
def v_string{x v'}(h:Rn.V E X (.string x) v'):v'=.string x:=by cases h;rfl
def outs_rel(hw:WR E Sh X v w){B B' m M}(hfresh:∀g b,At E X g b->B'<=g->B<=b){f got}(h:Outs v B' m f got)(hm:At E X m M):Outs w B M f got:=by
 obtain⟨es,clock,K,h1,h2,h3,h4,h5,h6⟩:=h;obtain⟨o,o',e1,e2,hr⟩:=hw.obj hm;rw[h1]at e1;cases e1;cases hr with
 |map _ es' _ hma=>
 have hlen:es.toList.length=K.length:=by have:=congrArg List.length h2;simpa using this
 have hlen':es'.toList.length=K.length:=by rw[<-hlen];simpa using hma.size.symm
 have hget:∀(i:Nat)(p':By×Value),((K.zip es'.toList).map λp=>(p.1.1,p.2.val))[i]? =some p'->∃p e',K[i]? =some p/\es'[i]? =some e'/\p'=(p.1,e'.val)/\Rn.V E X p.2 e'.val/\e'.key=.string (str p.1):=λi p' hp=>by
  rw[List.getElem?_map]at hp;obtain⟨q,hq,rfl⟩:=Option.map_eq_some_iff.1 hp;obtain⟨hq1,hq2⟩:=List.getElem?_zip_eq_some.1 hq;have he':es'[i]? =some q.2:=by simpa using hq2
  have hi:i<es.size:=by have:=(Array.getElem?_eq_some_iff.1 he').1;rw[hma.size];exact this
  have hkv:(es.toList.map λe=>(e.key,e.val))[i]? =(K.map pairV)[i]?:=by rw[h2]
  rw[List.getElem?_map,List.getElem?_map,hq1,Array.getElem?_toList,Array.getElem?_eq_getElem hi]at hkv;have hp:=Option.some.inj hkv;have hme:=hma.el i es[i] q.2 (Array.getElem?_eq_getElem hi) he';have hkey:es[i].key=.string (str q.1.1):=(Prod.mk.inj hp).1;have hval:es[i].val=q.1.2:=(Prod.mk.inj hp).2;refine⟨q.1,q.2,hq1,he',rfl,by rw[<-hval];exact hme.val,?_⟩;have:=hme.key;rw[hkey]at this;exact v_string this
 have hrow:∀p'∈(K.zip es'.toList).map λp=>(p.1.1,p.2.val),∀(i:Nat),((K.zip es'.toList).map λp=>(p.1.1,p.2.val))[i]? =some p'->w.ownsRow B 69 33 p'.2 (grp f got p'.1).length (txsCells (grp f got p'.1))/\∃p g b,K[i]? =some p/\p.2.ownBlock=some g/\p'.2.ownBlock=some b/\At E X g b:=λp' _ i hi=>by obtain⟨p,e',k1,k2,rfl,k4,_⟩:=hget i p' hi;have hpm:=List.mem_of_getElem? k1;obtain⟨t,ht,hf⟩:=(h4 p.1).1 (List.mem_map_of_mem hpm);have hn:0< (grp f got p.1).length:=List.length_pos_of_mem (a:=t) (by unfold grp;simp[ht,hf]);obtain⟨r1,g,b,r2,r3,r4⟩:=own_rel hw hfresh (exact_txs _) hn (by omega) (h5 p hpm) k4;exact⟨r1,p,g,b,k1,r2,r3,r4⟩
 have hfst:((K.zip es'.toList).map λp=>(p.1.1,p.2.val)).map (·.1)=K.map (·.1):=by rw[List.map_map];apply List.ext_getElem?;intro i;rw[List.getElem?_map,List.getElem?_map];by_cases hi:i<K.length;rw[List.getElem?_eq_getElem (by simpa[hlen']using hi),List.getElem?_eq_getElem hi];simp;rw[List.getElem?_eq_none (by simp;omega),List.getElem?_eq_none (by omega)];rfl
 refine⟨es',clock,_,e2,?_,by rw[hfst];exact h3,λs=>by rw[hfst];exact h4 s,λp' hp=>?_,λi j p q hp hq hij=>?_⟩;apply List.ext_getElem?;intro i;rw[List.getElem?_map,List.getElem?_map];by_cases hi:i<K.length;have hi2:i< ((K.zip es'.toList).map λp=>(p.1.1,p.2.val)).length:=by simp at hlen'|-;omega
 obtain⟨p,e',k1,k2,k3,_,k5⟩:=hget i _ (List.getElem?_eq_getElem hi2);rw[List.getElem?_eq_getElem hi2,Array.getElem?_toList,k2,k3];simp only[Option.map_some];unfold pairV;rw[k5];rw[List.getElem?_eq_none (by omega),List.getElem?_eq_none (by simp;omega)];rfl;obtain⟨i,hi⟩:=List.getElem?_of_mem hp;exact(hrow p' hp i hi).1;obtain⟨_,p0,g,b,k1,k2,k3,k4⟩:=hrow p (List.mem_of_getElem? hp) i hp;obtain⟨_,q0,g',b',l1,l2,l3,l4⟩:=hrow q (List.mem_of_getElem? hq) j hq;rw[k3,l3];intro e;rw[Option.some.inj e]at k4;have:=at_inj hw.nodup k4 l4;have hd:=h6 i j p0 q0 k1 l1 hij;rw[k2,l2,this]at hd;exact hd rfl
end
end Ph
namespace Tp
open Go.Conc
open Go.ConcN (sumTo upd sumTo_upd upd_ne upd_same)
def AtRet(P:Program)(R:Value->World->Prop)(g:Goroutine)(w:World):Prop:=g.callers=[]/\P.inits.idxOf? g.frame.fn=none/\∃v,g.frame.leaving P w (.returned v)/\R v w
def runT_re{P fn tmps v w}(h:(results fn tmps).run P w=.ok v w):(∀τ n,(results fn tmps).run P (w.re τ n)=.ok v (w.re τ n))/\∃es,Marked es/\(∀x,deafBehind x es=x)/\∀τ n,(results fn tmps).runT P (w.re τ n) #[]=(.ok v (w.re τ n),es):=by
 have h0:=h;rcases(pl_results (P:=P) fn tmps).run w #[]with⟨k,i⟩|⟨u,w',es',hh⟩;have hr:(results fn tmps).runT P w #[]=(.ok v w,((results fn tmps).runT P w #[]).2):=by rw[Sem.runT_eq,h]
 have hk:k=0:=by have:=i.drawn;rw[hr]at this;have e:w.drawn=w.drawn+k:=this;omega
 subst hk;have hs:=λτ n=>i.same τ n (λ_ hh=>absurd hh (Nat.not_lt_zero _));rw[hr]at hs;refine⟨λτ n=>?_,_,λe he m hm=>?_,λx=>?_,λτ n=>hs τ n⟩;have:=hs τ n;rw[Sem.runT_eq]at this;exact(Prod.mk.inj this).1;rcases i.low e (by rw[hr];exact he)with h1|h1;simp at h1;unfold EvOK at h1;rw[hm]at h1;exact h1;have:=i.bal (by rw[hr];trivial) x rfl;rw[hr]at this;exact this;exfalso;have hr:((results fn tmps).runT P w #[]).1=.ok v w:=by rw[Sem.runT_eq,h]
 rw[hh]at hr;cases hr
def leaving_re{P}{fr:Frame}{w v}(h:fr.leaving P w (.returned v)) τ n:fr.leaving P (w.re τ n) (.returned v):=by obtain⟨h1,h2,h3,fn,h4,h5⟩:=h;exact⟨h1,h2,h3,fn,h4,(runT_re h5).1 τ n⟩
def leave_end{P g w v}(hr:g.status=.running)(hd:g.dying=none)(hc:g.callers=[])(hi:P.inits.idxOf? g.frame.fn=none)(h:g.frame.leaving P w (.returned v)):∃es,(∀x,deafBehind x es=x)/\stepG P true g w=.ended (.done v) w es:=by
 obtain⟨fr,cs,st,dy,off⟩:=g;dsimp only at hr hd hc hi h;subst hr;subst hd;subst hc;obtain⟨hm,hdf,hk,fn,hf,hres⟩:=h;obtain⟨_,es,h1,h2,h3⟩:=runT_re hres;have h3:=h3 w.tape w.drawn;refine⟨seen P fr.fn es,λx=>(deaf_seen P fr.fn h1 x).trans (h2 x),?_⟩;have e1:stepG P true ⟨fr,[],.running,none,off⟩ w=unwind P true fr [] none w:=by unfold stepG;simp only[hm]
 rw[e1];unfold unwind;have h3':(results fn fr.tmps).runT P w #[]=(.ok v w,es):=h3;simp only[hm,hdf,hf,h3'];unfold doReturn;simp only[hk,hi];simp[GStep.after]
def fin_good{P R}(hR:∀v w d,R v w->R v (w.at d)){a w}(h:Bes P (λg u=>Fit g/\AtRet P R g u) a w):∃N last o w' t',runNT P (N+1) (solo a w) #[]=(.ended o w',t')/\runN P N (solo a w)=.next last/\step P last=.ended o w'/\Go.Conc.Good P R last o w' t':=by
 obtain⟨N,gs,a',w',sl,t,q,hrun,h0,hL,hP,hfit,hS⟩:=h #[a] none #[] (λ_=>0) rfl (leavers_one P a) past2_nil;have hr:a'.status=.running:=hfit.1.run;have key:∀(M:Nat)(gs:Array Goroutine)(sl:Option (Nat×Nat))(t:Trace)(q:Nat->Nat)(e:Nat),sumTo gs.size q<=M->gs[0]? =some a'->Leavers P t gs q->Past2 t->
   ∃N last o w2 t',runNT P (N+1) (crowd gs (w'.at e) sl) t=(.ended o w2,t')/\runN P N (crowd gs (w'.at e) sl)=.next last/\step P last=.ended o w2/\Go.Conc.Good P R last o w2 t':=by
  have main:∀(gs:Array Goroutine)(sl sl':Option (Nat×Nat))(t:Trace)(q:Nat->Nat)(e d:Nat),gs[0]? =some a'->Leavers P t gs q->Past2 t->stepT P (crowd gs (w'.at e) sl)=runT P (crowd gs ((w'.at e).at d) sl') 0->
    ∃N last o w2 t',runNT P (N+1) (crowd gs (w'.at e) sl) t=(.ended o w2,t')/\runN P N (crowd gs (w'.at e) sl)=.next last/\step P last=.ended o w2/\Go.Conc.Good P R last o w2 t':=by
   intro gs sl sl' t q e d h0 hL hP hst;obtain⟨hc,hi,v,hl,hv⟩:=hS;have hl2:a'.frame.leaving P ((w'.at e).at d) (.returned v):=leaving_re hl w'.tape d;obtain⟨es,hes,hend⟩:=leave_end hr hfit.2 hc hi hl2;have hrunT:=runT_many_ended (P:=P) (sl:=sl') (i:=0) h0 (show stepG P (0==0) a' ((w'.at e).at d)=_ from hend);have hown:∀op∈MemOp.ofEvents 0 a'.frame.fn a'.frame.place es,op.g=0:=λop hop=>by obtain⟨e,_,rfl⟩:=Go.Conc.mem_ofEvents hop;rfl
   have hP':=hP.app0 hown (deaf_ofEvents hes t);have hs:stepT P (crowd gs (w'.at e) sl)=(.ended (.done v) ((w'.at e).at d),MemOp.ofEvents 0 a'.frame.fn a'.frame.place es):=hst.trans hrunT;refine⟨0,crowd gs (w'.at e) sl,.done v,(w'.at e).at d,t++MemOp.ofEvents 0 a'.frame.fn a'.frame.place es,?_,rfl,?_,v,rfl,hR _ _ _ (hR _ _ _ hv),hP'.clean,hP'.over,⟨λx hx=>?_,rfl⟩,λj x hx hj=>?_⟩
   ·simp only[runNT,hs]
   ·show(stepT P _).1=_;rw[hs]
   ·obtain⟨j,hj⟩:=List.mem_iff_getElem?.1 hx;rw[List.getElem?_drop]at hj;exact⟨_,(hL.old (1+j) x (by omega) (by simpa[crowd]using hj)).leaves⟩
   ·have hq:=hL.old j x (by omega) hx
    refine⟨q j,?_⟩;have e:(t++MemOp.ofEvents 0 a'.frame.fn a'.frame.place es).deaf j (t++MemOp.ofEvents 0 a'.frame.fn a'.frame.place es).size=Deaf t j:=
     Deaf_other t (g:=j) (g':=0) (by omega) _ hown
    rw[e];exact hq.hears _
  intro M;induction M with
  |zero=>
   intro gs sl t q e hM h0 hL hP;obtain⟨i,g,d,sl',hi,hg,hst⟩:=crowd_pick (P:=P) (w:=w'.at e) (sl:=sl) (awake_all hL h0 hr) ⟨0,a',h0,hr⟩;rcases Nat.eq_zero_or_pos i with rfl|hpos
   ·exact main gs sl sl' t q e d h0 hL hP hst
   ·obtain⟨gs',ops,q',c1,c2,c3,c4,c5,c6⟩:=slip (w:=(w'.at e).at d) (sl:=sl') hL hP h0 hr hi hpos hg;omega
  |succ M ih=>
   intro gs sl t q e hM h0 hL hP;obtain⟨i,g,d,sl',hi,hg,hst⟩:=crowd_pick (P:=P) (w:=w'.at e) (sl:=sl) (awake_all hL h0 hr) ⟨0,a',h0,hr⟩;rcases Nat.eq_zero_or_pos i with rfl|hpos
   ·exact main gs sl sl' t q e d h0 hL hP hst
   ·obtain⟨gs',ops,q',c1,c2,c3,c4,c5,c6⟩:=slip (w:=(w'.at e).at d) (sl:=sl') hL hP h0 hr hi hpos hg;obtain⟨N,last,o,w2,t2,r1,r2,r3,r4⟩:=ih gs' sl' (t++ops) q' d (by omega) c2 c4 c5
    have hs1:stepT P (crowd gs (w'.at e) sl)=(.next (crowd gs' (w'.at d) sl'),ops):=hst.trans c1
    refine⟨N+1,last,o,w2,t2,?_,?_,r3,r4⟩
    ·rw[runNT];simp only[hs1];exact r1
    ·rw[runN];have:step P (crowd gs (w'.at e) sl)=.next (crowd gs' (w'.at d) sl'):=by show(stepT P _).1=_;rw[hs1]
     simp only[this];exact r2
 obtain⟨N2,last,o,w2,t2,r1,r2,r3,r4⟩:=key _ gs sl t q w'.drawn (Nat.le_refl _) h0 hL hP;have hrun':runNT P N (solo a w) #[]=(.next (crowd gs (w'.at w'.drawn) sl),t):=hrun;have hrunN:runN P N (solo a w)=.next (crowd gs (w'.at w'.drawn) sl):=by rw[<-runNT_fst P N _ #[],hrun']
 refine⟨N+N2,last,o,w2,t2,?_,?_,r3,r4⟩;rw[Nat.add_assoc,runNT_add,hrun'];exact r1;rw[runN_add,hrunN];exact r2
end Tp
namespace Ph
open Go.Conc Rn Nums
open Go.RowKit
open Tp (Bodied bodied Term Ld gor Arr arr_stop arr_step Bes BesA CallsB Fit)
noncomputable def tEnd:List Item:=[.inRegion (co (cl MY)) [1],.code (cr MY),.inLoop MY,.inBlock 2,.code M14]
def Aft(kd:List UInt8)(P:List (List UInt8))(B:Nat)(w:World)(cs:List Frame)(a':Goroutine)(w':World):Prop:=∃(got:List (List UInt8))(M:Nat)(arr:Array Value)(z:Value),a'=gor (bm.at ⟨arr,[]⟩ tEnd) cs/\arr.size=35/\arr[8]? =some (.map (some M))/\arr[20]? =some (.tuple #[z,.bool false])/\(∀p,got.countP p=P.countP p)/\Outs w' B M (shortOf kd) got/\B<=M/\Bel B w w'
def frame_eta{fr}{b:Frame}{a t}(h1:fr.fn=b.fn)(h2:fr.tmps=a)(h3:fr.todo=t)(h4:fr.defers=[])(h5:fr.mode=.run)(h6:fr.kind=b.kind)(h7:fr.roundOf=none):fr=b.at ⟨a,[]⟩ t:=by obtain⟨f1,f2,f3,f4,f5,f6,f7⟩:=fr;dsimp only at h1 h2 h3 h4 h5 h6 h7;subst h1;subst h2;subst h3;subst h4;subst h5;subst h6;subst h7;rfl
section
variable{kd:List UInt8}{P:List (List UInt8)}{es:Array MapEntry}{clock B rb mb:Nat}{cs:List Frame}{w wg:World}
def aft_of(h:AtGo kd es clock B rb mb wg)(hcl:∀e∈es.toList,Exact e.key/\Exact e.val){a' w'}(ha:After (PS kd P es clock (bn B rb mb) cs wg) wg a' w'):Aft kd P B wg cs a' w':=by
 obtain⟨got,X,g,v,Xf,gf,vf,h1,hoff,h2,h3,h4,⟨Y,rfl,hY⟩,h6,h7,⟨Z,rfl⟩,h9,h10,h11,h12,h13⟩:=ha;obtain⟨⟨x0,x1,x4,x9,x10,x11,x12,x13,x14,x15,x16,x17,x18,x20,x21,x22,x23,x24,x25,x26,x27,x28,x29,x30,x31,x32,x33,x34,rfl⟩,hpre,hout,_⟩:=(show SA kd (.recvR got) g v from h2);have h1:GR prog (PE (B+2) (B+4) (B+6)) ((bn B rb mb).X0++Y) cs (Go.Conc.served (gor (bm.at ⟨#[x0,x1,lp 5,lp 6,x4,lp 7,lp 8,lp 9,.map (some 10),x9,x10,x11,x12,x13,x14,x15,x16,x17,x18,.chan (some 3),x20,x21,x22,x23,x24,x25,x26,x27,x28,x29,x30,x31,x32,x33,x34],[]⟩ tRR) [wall]) (.tuple #[.agg fd0.toArray,.bool false])) a':=h1;unfold tRR at h1;rw[served_at (o:=⟨some 20,_,_,_,_,_⟩) rfl]at h1;have h1:GR prog (PE (B+2) (B+4) (B+6)) ((bn B rb mb).X0++Y) cs (gor (bm.at ⟨#[x0,x1,lp 5,lp 6,x4,lp 7,lp 8,lp 9,.map (some 10),x9,x10,x11,x12,x13,x14,x15,x16,x17,x18,.chan (some 3),.tuple #[.agg fd0.toArray,.bool false],x21,x22,x23,x24,x25,x26,x27,x28,x29,x30,x31,x32,x33,x34],[]⟩ tEnd) [wall]) a':=h1;have hc:=callers_wall h1;obtain⟨hr,hd,hf,_⟩:=h1;have hX5:∃M,((bn B rb mb).X0++Y)[5]? =some M:=by have hs:=h4.size;obtain⟨es1,clock1,K,he,_⟩:=hout;have hlt:=(Array.getElem?_eq_some_iff.1 he).1;have hs':v.heap.size=5+((bn B rb mb).X0++Y).length:=hs;exact⟨_,List.getElem?_eq_getElem (show 5< ((bn B rb mb).X0++Y).length by omega)⟩
 obtain⟨M,hM⟩:=hX5;have hatM:At (PE (B+2) (B+4) (B+6)) ((bn B rb mb).X0++Y) 10 M:=⟨by show 5<=10;omega,hM⟩;have hsz:=h.size;have hfresh:∀g b,At (PE (B+2) (B+4) (B+6)) ((bn B rb mb).X0++Y) g b->10<=g->B<=b:=λg b hg h10=>by have h1:((bn B rb mb).X0++Y)[g-5]? =some b:=hg.2;rw[List.getElem?_append_right (by show 5<=g-5;omega)]at h1;have:=hY b (List.mem_of_getElem? h1);omega
 have hve:∀t x,(hx:(⟨#[x0,x1,lp 5,lp 6,x4,lp 7,lp 8,lp 9,.map (some 10),x9,x10,x11,x12,x13,x14,x15,x16,x17,x18,.chan (some 3),.tuple #[.agg fd0.toArray,.bool false],x21,x22,x23,x24,x25,x26,x27,x28,x29,x30,x31,x32,x33,x34],[]⟩:Act).tmps[t]? =some x)->∃x',a'.frame.tmps[t]? =some x'/\Rn.V (PE (B+2) (B+4) (B+6)) ((bn B rb mb).X0++Y) x x':=λt x hx=>by rcases hf.tmps.get t with⟨y,y',e1,e2,hy⟩|⟨e1,_⟩;have:some y=some x:=e1.symm.trans hx;cases this;exact⟨y',e2,hy⟩;have:none=some x:=e1.symm.trans hx;cases this
 obtain⟨y8,e8,v8⟩:=hve 8 _ rfl;obtain⟨y20,e20,v20⟩:=hve 20 _ rfl;have e8':y8=.map (some M):=by cases v8 with|map _ b hb=>have:=hb.2.symm.trans hatM.2;rw[Option.some.inj this]
 obtain⟨z,rfl⟩:∃z,y20=.tuple #[z,.bool false]:=by
  cases v20 with
  |tuple _ a2 hs2 hel=>
  have hs3:a2.size=2:=hs2.symm;have hb:=hel 1 (.bool false) a2[1] rfl (Array.getElem?_eq_getElem (by omega));have hb2:a2[1]=.bool false:=by generalize a2[1]=q at hb;cases hb;rfl
  refine⟨a2[0],?_⟩;congr 1;apply Array.ext;simpa using hs3;intro i hi1 hi2;have:i=0∨i=1:=by simp at hi2;omega
  rcases this with rfl|rfl;rfl;exact hb2
 refine⟨got,M,a'.frame.tmps,z,?_,?_,by rw[e8,e8'],e20,h3,outs_rel h4 (λg b hg h11=>hfresh g b hg (by omega)) hout hatM,hfresh 10 M hatM (Nat.le_refl _),?_⟩;have hfr:a'.frame=bm.at ⟨a'.frame.tmps,[]⟩ tEnd:=frame_eta (b:=bm) hf.fn rfl hf.todo hf.defers.2 hf.mode hf.kind hf.round.2;obtain⟨fr,cs',st,dy,off⟩:=a';dsimp only at hfr hc hr hd hoff|-;obtain⟨_,rfl⟩:=hr;obtain⟨_,rfl⟩:=hd;subst hc;subst hoff;exact congrArg (λf=>gor f cs') hfr;exact hf.tmps.size.symm;refine⟨h11,h12,h9,λk hk=>?_⟩;by_cases hmb:k=mb;subst hmb;obtain⟨_,hpf⟩:=(show FA P es clock .closeR gf vf from h6);obtain⟨o,o',f1,f2,f3⟩:=h7.el 5 k rfl;have f1':vf.heap[10]? =some o:=f1;rw[hpf 10 _ rfl]at f1';cases f1';rw[f2,h.hmb];cases f3 with
 |map _ es' _ hma=>
  congr 2;apply Array.ext_getElem?;intro i;by_cases hi:i<es.size;have hi':i<es'.size:=by rw[<-hma.size];exact hi
  have hme:=hma.el i es[i] es'[i] (Array.getElem?_eq_getElem hi) (Array.getElem?_eq_getElem hi');obtain⟨x1,x2⟩:=hcl es[i] (by simp);rw[Array.getElem?_eq_getElem hi,Array.getElem?_eq_getElem hi'];congr 1;have k1:=x1.eq hme.key;have k2:=x2.eq hme.val;have k3:=hme.born;generalize es'[i]=e' at k1 k2 k3;generalize es[i]=e at k1 k2 k3;obtain⟨a1,a2,a3⟩:=e';obtain⟨b1,b2,b3⟩:=e;dsimp only at k1 k2 k3;subst k1;subst k2;subst k3;rfl;rw[Array.getElem?_eq_none (by rw[<-hma.size];omega),Array.getElem?_eq_none (by omega)]
 refine h10 k (by omega) (by show k≠B+2;omega) (by show k≠B+4;omega) (by show k≠B+6;omega) ?_;by_cases hrb:k=rb;right;show(bn B rb mb).Sh k;unfold Bn.Sh bn;dsimp only;omega;left;refine⟨?_,?_,?_⟩;show k∉ [B,B+1,B+3,B+5,B+7];simp only[List.mem_cons,List.not_mem_nil,or_false];omega;show k∉ [B+3,B+5,B+1,B+7];simp only[List.mem_cons,List.not_mem_nil,or_false];omega;show k∉ [B,B+3,B+7,B+5,rb,mb];simp only[List.mem_cons,List.not_mem_nil,or_false];omega
def fine_tEnd:Tp.fineL tEnd:=fineB_ok (by kernel_rfl)
def besA_phase(h:AtGo kd es clock B rb mb w)(hM:Mp.Map w mb P)(hcl:∀e∈es.toList,Exact e.key/\Exact e.val):BesA prog (Aft kd P B w cs) (gR kd (bn B rb mb) cs) w:=by
 intro hf τ n;have h1:AtGo kd es clock B rb mb (w.re τ n):=⟨h.size,h.hcp,h.hck,h.hJ,h.hcj,h.hR,h.hcr,h.hD,h.hcd,h.hrb,h.hmb,h.rlt,h.mlt⟩;have hM1:Mp.Map (w.re τ n) mb P:=hM.block rfl;have hb:=bes_phase (ready (cs:=cs) h1 hM1 (λe he=>⟨(hcl e he).1.clean,(hcl e he).2.clean⟩));refine hb.mono λa' w' ha=>?_;have hA:=aft_of h1 hcl ha;have hA':Aft kd P B w cs a' w':=by obtain⟨got,M,arr,z,h1,h2,h3,h4,h5,h6,h7,h8⟩:=hA;exact⟨got,M,arr,z,h1,h2,h3,h4,h5,h6,h7,⟨h8.os,h8.output,h8.size,h8.block⟩⟩
 refine⟨?_,hA'⟩;obtain⟨got,M,arr,z,rfl,_⟩:=hA';exact⟨⟨rfl,(λd hd=>by cases hd),⟨fine_tEnd,hf.1.fine.rest,(λhd=>by cases hd)⟩⟩,rfl⟩
def hM14:M14=.seq (cl M14) (cr M14):=rfl
def exact_entries(hM:Mp.Map w mb P)(hmb:w.heap[mb]? =some (.map es clock)):∀e∈es.toList,Exact e.key/\Exact e.val:=λe he=>by obtain⟨es',clock',h1,hF,_⟩:=hM.own;rw[hmb]at h1;cases h1;obtain⟨yy,hyy⟩:=hF.reads e he;unfold WideElems.rd at hyy;simp only[Option.bind_eq_some_iff,Option.map_eq_some_iff]at hyy;obtain⟨kl,hk,y,hy,_⟩:=hyy;obtain⟨d,_,hd,_⟩:=key_inv hk;refine⟨by rw[hd];exact exact_list (clean_bytes d),?_⟩;rcases Mp.txR_inv hy with⟨t,ht,_⟩|⟨ht,_⟩;rw[ht];exact exact_tx t;rw[ht];exact exact_tx0
def fn45:prog.funcs[33]? =some Tryz.f33:=func33
def end_walk{B0 c Stop}(K:∀v w',(∃M got,v=.map (some M)/\(∀p,got.countP p=P.countP p)/\Outs w' B M (shortOf kd) got/\B<=M/\Bel B B0 w')->BesA prog Stop (gor (c.finish v) cs) w') (hw:Bel B B0 w) {a' w'} (ha:Aft kd P B w (c::cs) a' w'):BesA prog Stop a' w':=by
 obtain⟨got,M,arr,z,rfl,hs,h8,h20,h5,h6,h7,h9⟩:=ha;have K1:=K (.map (some M)) w' ⟨M,got,rfl,h5,h6,h7,hw.trans h9⟩;refine Tp.besA_of_runs bodied (Tp.runs_of_arr λτ n=>?_);have K1:BesA prog Stop (gor (c.finish (.map (some M))) cs) (w'.re τ n):=K1.re τ n;generalize w'.re τ n=w2 at K1;have e20:∀(ar:Array Value)(d:Nat)(v:Value),d≠20->ar[20]? =some (.tuple #[z,.bool false])->(ar.setIfInBounds d v)[20]? =some (.tuple #[z,.bool false]):=λar d v hd h=>by rw[Array.getElem?_setIfInBounds_ne hd];exact h
 unfold tEnd;refine Tp.arr_value (o:=⟨some 21,.extract (.tmp 20) 1,_,_,_,_⟩) (v:=.bool false) (w':=w2) rfl rfl ?_ ?_;unfold execOp;have:(Act.mk arr []).eval (.tmp 20)=.tuple #[z,.bool false]:=by show arr.getD 20 undef=_;rw[Array.getD_eq_getD_getElem?,h20];rfl
 simp only[this];rfl;show Arr _ _ (bm.at ⟨arr.setIfInBounds 21 (.bool false),[]⟩ _) _ _;refine Tp.arr_regionEnd (arr_seqE hMY1 (arr_condE (t:=false) rfl ?_ (arr_exitE rfl rfl ?_)));show(arr.setIfInBounds 21 (.bool false)).getD 21 undef=_;rw[Array.getD_eq_getD_getElem?,Array.getElem?_setIfInBounds_self_of_lt (by omega)];rfl;refine arr_seqE hM14 ?_;refine arr_cut0E (s:=0) (r:=[0,1]) rfl rfl ?_;show Arr _ _ _ _ _;refine Tp.arr_value (o:=⟨some 34,.move (.tmp 8),_,_,_,_⟩) (v:=.map (some M)) (w':=w2) rfl rfl ?_ ?_;unfold execOp;have:(Act.mk (arr.setIfInBounds 21 (.bool false)) []).eval (.tmp 8)=.map (some M):=by show(arr.setIfInBounds 21 (.bool false)).getD 8 undef=_;rw[Array.getD_eq_getD_getElem?,Array.getElem?_setIfInBounds_ne (by omega),h8];rfl
 simp only[this];rfl;show Arr _ _ (bm.at ⟨(arr.setIfInBounds 21 (.bool false)).setIfInBounds 34 (.map (some M)),[]⟩ _) _ _;refine Tp.arr_value (o:=⟨some 4,.assign (.tmp 34),_,_,_,_⟩) (v:=.map (some M)) (w':=w2) rfl rfl ?_ ?_;unfold execOp;have:(Act.mk ((arr.setIfInBounds 21 (.bool false)).setIfInBounds 34 (.map (some M))) []).eval (.tmp 34)=.map (some M):=by show((arr.setIfInBounds 21 (.bool false)).setIfInBounds 34 (.map (some M))).getD 34 undef=_;rw[Array.getD_eq_getD_getElem?,Array.getElem?_setIfInBounds_self_of_lt (by simp;omega)];rfl
 simp only[this];rfl;show Arr _ _ (bm.at ⟨((arr.setIfInBounds 21 (.bool false)).setIfInBounds 34 (.map (some M))).setIfInBounds 4 (.map (some M)),[]⟩ _) _ _;have h4:(((arr.setIfInBounds 21 (.bool false)).setIfInBounds 34 (.map (some M))).setIfInBounds 4 (.map (some M)))[4]? =some (.map (some M)):=by rw[Array.getElem?_setIfInBounds_self_of_lt (by simp;omega)]
 generalize((arr.setIfInBounds 21 (.bool false)).setIfInBounds 34 (.map (some M))).setIfInBounds 4 (.map (some M))=ar at h4;refine Tp.arr_regionEnd (arr_step step_ret ?_);refine arr_step (step_leave_returned (v:=.map (some M)) ⟨rfl,rfl,rfl,_,fn45,?_⟩) (arr_stop K1);refine(results_tmp (t:=4) (fn:=Tryz.f33) rfl _ _ _).trans ?_;show Result.ok (ar.getD 4 undef) w2=_;rw[Array.getD_eq_getD_getElem?,h4];rfl
def hMa:Ph.M=.seq (cl Ph.M) (cr Ph.M):=rfl
def hMb:cr Ph.M=.seq (cl (cr Ph.M)) (cr (cr Ph.M)):=rfl
def hMc:cr (cr Ph.M)=.seq (cl (cr (cr Ph.M))) (cr (cr (cr Ph.M))):=rfl
def hMd:cr (cr (cr Ph.M))=.seq (cl (cr (cr (cr Ph.M)))) M4:=rfl
def enter_m(p q:Value):Frame.enter prog 33 #[p,q] .normal=bm.at ⟨#[p,q,undef,undef,undef,undef,undef,undef,undef,undef,undef,undef,undef,undef,undef,undef,undef,undef,undef,undef,undef,undef,undef,undef,undef,undef,undef,undef,undef,undef,undef,undef,undef,undef,undef],[]⟩ [.code Ph.M]:=by unfold Frame.enter;rw[func33];kernel_rfl
def at_go{u:World}{B:Nat}(hs:u.heap.size=B)(hr:∃a b c,u.heap[rb]? =some (.cells #[.map (some mb),a,b,c] 41 (0,0))/\flat a/\flat b/\flat c)(hmb:u.heap[mb]? =some (.map es clock))(hrl:rb<B)(hml:mb<B):AtGo kd es clock B rb mb ((((((((u.alloc (.cells #[.pointer (some ⟨rb,0,none⟩)] 72)).alloc (.cells (keyCells kd).toArray 93)).alloc (.chan 0 #[] false 0 0 false)).alloc (.cells #[.chan (some (B+2))] 132)).alloc (.chan 0 #[] false 0 0 false)).alloc (.cells #[.chan (some (B+4))] 133)).alloc (.chan 3 #[] false 0 0 false)).alloc (.cells #[.chan (some (B+6))] 134))/\Bel B u ((((((((u.alloc (.cells #[.pointer (some ⟨rb,0,none⟩)] 72)).alloc (.cells (keyCells kd).toArray 93)).alloc (.chan 0 #[] false 0 0 false)).alloc (.cells #[.chan (some (B+2))] 132)).alloc (.chan 0 #[] false 0 0 false)).alloc (.cells #[.chan (some (B+4))] 133)).alloc (.chan 3 #[] false 0 0 false)).alloc (.cells #[.chan (some (B+6))] 134)):=by
 have hg:∀(x:World)(o:Obj)(k:Nat),(x.alloc o).heap[k]? =if k=x.heap.size then some o else x.heap[k]?:=λx o k=>by show(x.heap.push o)[k]? =_;rw[Array.getElem?_push]
 obtain⟨a,b,c,h1,h2⟩:=hr;refine⟨⟨by simp only[World.size_alloc,hs],?_,?_,?_,?_,?_,?_,?_,?_,⟨a,b,c,?_,h2⟩,?_,hrl,hml⟩,rfl,rfl,by simp only[World.size_alloc];omega,λk hk=>?_⟩;all_goals simp only[hg,World.size_alloc,hs]
 all_goals repeat(first|rw[if_neg (by omega)])
 all_goals first|done|exact h1|exact hmb|exact if_pos trivial
def shorts_callsB(kd:List UInt8)(P:List (List UInt8))(rb mb:Nat)(w:World)(hr:∃a b c,w.heap[rb]? =some (.cells #[.map (some mb),a,b,c] 41 (0,0))/\flat a/\flat b/\flat c)(hM:Mp.Map w mb P):CallsB prog 33 #[.pointer (some ⟨rb,0,none⟩),.agg (keyCells kd).toArray] w λv w'=>∃M got,v=.map (some M)/\(∀p,got.countP p=P.countP p)/\Outs w' w.heap.size M (shortOf kd) got/\w.heap.size<=M/\Bel w.heap.size w w':=λc cs Stop K=>by
 have hmlt:=hM.lt;have hrl:rb<w.heap.size:=by obtain⟨a,b,c,h1,_⟩:=hr;exact(Array.getElem?_eq_some_iff.1 h1).1
 obtain⟨es,clock,hmb,_⟩:=hM.own;refine Tp.besA_of_runs bodied (Tp.runs_of_arr λτ n=>?_);rw[enter_m];have hJ:∀u:World,(Instr.makeChan 132 (.int .i64 0)).run prog u=.ok (.chan (some u.heap.size)) (u.alloc (.chan 0 #[] false 0 0 false)):=λu=>by kernel_rfl
 have hR:∀u:World,(Instr.makeChan 133 (.int .i64 0)).run prog u=.ok (.chan (some u.heap.size)) (u.alloc (.chan 0 #[] false 0 0 false)):=λu=>by kernel_rfl
 have hD:∀u:World,(Instr.makeChan 134 (.int .i64 3)).run prog u=.ok (.chan (some u.heap.size)) (u.alloc (.chan 3 #[] false 0 0 false)):=λu=>by kernel_rfl
 refine arr_seqE hMa (arr_wpE (c':=.region _ _ _) rfl ?_);go_wp2_with fail;show Arr _ _ _ _ _;refine arr_seqE hMb (arr_wpE (c':=.region _ _ _) rfl ?_);go_wp2_with fail;show Arr _ _ _ _ _;refine arr_seqE hMc (arr_wpE (c':=.region _ _ _) rfl ?_);go_wp2_with fail;show Arr _ _ _ _ _;refine arr_seqE hMd (arr_wpE (c':=.region _ _ _) rfl ?_);go_wp2_with fail;show Arr _ _ _ _ _;have hs:(w.re τ n).heap.size=w.heap.size:=rfl;rw[hs];obtain⟨hA,hB⟩:=at_go (kd:=kd) (u:=w.re τ n) (es:=es) (clock:=clock) hs hr hmb hrl hmlt;have hM:Mp.Map _ mb P:=hM.block ((hB.block mb hmlt).trans rfl);have hB:Bel w.heap.size w _:=⟨hB.os,hB.output,hB.size,hB.block⟩;simp only[Nat.add_assoc,Nat.reduceAdd]at hA hB hM|-;generalize(World.alloc _ _)=w8 at hA hB hM|-;have hcl:=exact_entries hM hA.hmb;have HA:=Lib.hid hA;have HB:=Lib.hid hB;have HM:=Lib.hid hM;have HC:=Lib.hid hcl;have HK:=Lib.hid K;clear hA hB hM hcl hJ hR hD hr hmb K hs;refine arr_seqE hM4 (arr_seqE hM4l (arr_wpE (c':=.region _ _ _) rfl ?_));go_wp2_with fail;show Arr _ _ _ _ _;refine arr_blockE hM4b (arr_loopE hM4o ?_);refine arr_seqE hMX (arr_wpE (c':=.region _ _ _) rfl ?_);go_wp2_with fail;show Arr _ _ _ _ _;refine arr_seqE hMX1 (arr_condE (t:=true) rfl rfl (arr_skipE rfl (arr_seqE hMX2 (arr_blockE hMX3 ?_))));refine arr_pre 1 [1] rfl rfl (by decide +kernel) ?_;show wpList _ _ _ [_] _ _;go_wp2_with fail;show Arr _ _ (bm.at _ tG) _ _;exact arr_stop ((besA_phase (P:=P) (cs:=c::cs) HA.out HM.out HC.out).trans λa' w' ha=>end_walk (c:=c) (B0:=w) HK.out HB.out ha)
end
end Ph
section
open Go.RowKit Nums
open Ph (cb cl cr ci co Outs grp val0 shortOf)
noncomputable def CM:Code:=cb Tryz.f15
noncomputable def CM16:Code:=cr (cr (cr (cr (cr (cr (cr (cr (cr (cr CM)))))))))
def own_ints{w B e v l}(h:w.ownsRow B e 1 v l.length (wns l)):IntsAt w v (Cp.ints l):=by by_cases h0:l.length=0;obtain⟨a,c,rfl⟩:=own_slice h;have:l=[]:=List.eq_nil_of_length_eq_zero h0;subst this;exact .inl ⟨a,c,rfl,rfl⟩;obtain⟨g,cap,rfl,_,hg,hat⟩:=own_cells h (by omega);refine .inr ⟨g,0,cap,by rw[Cp.ints_len],hg,λj hj=>?_⟩;rw[Cp.ints_len]at hj;rw[Nat.zero_add,hat j (by omega)];unfold wns Cp.ints;rw[List.getElem?_map,List.getD_eq_getElem?_getD,List.getElem?_map,List.getElem?_eq_getElem hj];rfl
def run_loadtx{w:World}{g off:Nat}{t:List UInt8}(hr:w.rangeAt g off (txCells t)):(Instr.loadAt 69 (.pointer (some ⟨g,off,none⟩))).run prog w=.ok (.agg (txCells t).toArray) w:=run_loadAt_mid w g off _ (txCells t) _ hr underlying69 rfl (by rw[infoTx,txCells_len])
def wpQuiet_tx{ops:Array Oper}{rest:List Oper}{o:Oper}{a:Act}{C:World->Prop}{Q:Act->Prop}(hw:Region.wanted o (yielded ops a.tmps)=true)(x:Operand)(ho:o.op=.load 69 x) (g off:Nat) (t:List UInt8) (hx:a.eval x=.pointer (some ⟨g,off,none⟩)) (hr:∀w,C w->w.rangeAt g off (txCells t)) (h:wpQuiet prog ops C Q rest (a.put o.dst (.agg (txCells t).toArray))):wpQuiet prog ops C Q (o::rest) a:=by refine wpQuiet_val hw (λw hC=>?_) h;unfold execOp;simp only[ho,hx,Sem.run_bind,run_loadtx (hr w hC),Result.andThen_ok,Sem.run_pure]
def Keep.thenBelow{O w w1 w2}(h:Keep O w w1)(k:Below w.heap.size w1 w2):Keep O w w2:=⟨k.os.trans h.os,k.tape.trans h.tape,k.output.trans h.output,Nat.le_trans h.size k.size,λj hj ho=>(k.block j hj).trans (h.block j hj ho)⟩
def Tw(rb T A:Nat)(k:Nat):Prop:=k=rb∨k=T∨k=A
def Stands(w:World)(rb mb C:Nat)(s:Cp.RS):Prop:=(s=Cp.idle/\RowR w rb (rcv0 mb))∨(Cp.Wait s/\∃T mv,RowR w rb (rcv4 mb s.header (.slice (some ⟨T,0,none⟩) s.txs.length s.txs.length) mv)/\Tz.At w T s.txs/\C<=T/\w.ownsRow C 3 1 mv s.missing.length (wns s.missing))
def compact_rest(c:Wr.Cb)(P got:List (List UInt8))(f:List UInt8->List UInt8)(L0:List (List UInt8))(rb mb A D T M C0 CS B:Nat)(sa:Option Addr)(sc:Nat)(av tv:Value)(w:World) (hT:Tabs w) (h1b:1<rb) (hok:Wr.CbOK c) (hP:∀t∈P,t≠ []/\t.length<=610) (hgot:∀p:List UInt8->Bool,got.countP p=P.countP p) (hR:RowR w rb (rcv4 mb c.header (.slice (some ⟨T,0,none⟩) (c.shorts.length+c.sent.length) (c.shorts.length+c.sent.length)) (.slice none 0 0))) (hA:Row w A (an 0 [])) (hD:Row w D (cc c.header c.nonce (.slice sa c.shorts.length sc) av tv)) (hS:w.ownsRow CS 9 1 (.slice sa c.shorts.length sc) c.shorts.length (wt c.shorts)) (hTz:Tz.At w T L0) (hM:Outs w B M f got) (hF:Cp.FI f P c.sent c.shorts (c.shorts.length+c.sent.length) 0 L0 [] 0) (hrC:rb<C0) (hCA:C0<=A) (hACS:A<CS) (hAT:A<T) (hDT:D<T) (hAD:A<D) (hTB:T<B) (hBM:B<=M) (hMw:B<=w.heap.size) (hsT:∀k,Value.ownBlock (.slice sa c.shorts.length sc)=some k->k<T) (x1 x2 x3 x5 x7 x8 x9 x10 x12 x13 x14 x15 x16 x17 x18 x19 x20 x21 x22 x23 x24 x25 x26 x27 x28 x29 x30 x31 x32 x33 x34 x35 x36 x37 x38 x39 x40 x41 x42 x43 x44 x45 x46 x47 x48 x49 x50 x51 x52 x53 x54 x55 x56 x57 x58 x59 x60 x61 x62 x63 x64 x65 x66 x67 x68 x69 x70 x71 x72 x73 x74 x75 x76 x77 x78 x79 x80 x81 x82 x83 x84 x85 x86 x87 x88 x89 x90 x91 x92 x93 x94 x95 x96 x97 x98 x99 x100 x101 x102 x103 x104 x105 x106 x107 x108 x109 x110 x111 x112 x113 x114 x115 x116 x117 x118 x119 x120 x121 x122 x123 x124 x125 x126 x127 x128 x129 x130 x131 x132 x133 x134 x135 x136 x137 x138 x139 x140 x141 x142 x143 x144 x145 x146 x147 x148 x149 x150 x151 x152 x153 x154 x155 x156 x157 x158:Value):CM16.wp prog (bodyPost prog Tryz.f15 λ|.returned v,w'=>(v=.tuple #[.agg (an (Cp.fillAns f P c).1.1 (Cp.fillAns f P c).1.2).toArray,.int .i64 0]/\Stands w' rb mb C0 (Cp.fillAns f P c).2/\Keep (Tw rb T A) w w')|_,_=>False) ⟨List.toArray (.pointer (some ⟨rb,0,none⟩)::x1::x2::x3::.pointer (some ⟨A,0,none⟩)::x5::.pointer (some ⟨D,0,none⟩)::x7::x8::x9::x10::.map (some M)::x12::x13::x14::x15::x16::x17::x18::x19::x20::x21::x22::x23::x24::x25::x26::x27::x28::x29::x30::x31::x32::x33::x34::x35::x36::x37::x38::x39::x40::x41::x42::x43::x44::x45::x46::x47::x48::x49::x50::x51::x52::x53::x54::x55::x56::x57::x58::x59::x60::x61::x62::x63::x64::x65::x66::x67::x68::x69::x70::x71::x72::x73::x74::x75::x76::x77::x78::x79::x80::x81::x82::x83::x84::x85::x86::x87::x88::x89::x90::x91::x92::x93::x94::x95::x96::x97::x98::x99::x100::x101::x102::x103::x104::x105::x106::x107::x108::x109::x110::x111::x112::x113::x114::x115::x116::x117::x118::x119::x120::x121::x122::x123::x124::x125::x126::x127::x128::x129::x130::x131::x132::x133::x134::x135::x136::x137::x138::x139::x140::x141::x142::x143::x144::x145::x146::x147::x148::x149::x150::x151::x152::x153::x154::x155::x156::x157::x158::[]),[]⟩ w:=by
 have hn16:=hok.le;have hn0:=hok.pos;have HR:=Lib.hid hR;have HA:=Lib.hid hA;have HD:=Lib.hid hD;have HS:=Lib.hid hS;have HTz:=Lib.hid hTz;have HM:=Lib.hid hM;have HF:=Lib.hid hF;have HP:=Lib.hid hP;have HG:=Lib.hid hgot;have HST:=Lib.hid hsT;have HT:=Lib.hid hT;have ES:=Lib.hid (show Cp.fillAns f P c=if(Cp.fill f P c.sent (c.shorts.length+c.sent.length) 0 c.shorts).2=[]then(Cp.finish c.header (Cp.fill f P c.sent (c.shorts.length+c.sent.length) 0 c.shorts).1,Cp.idle)else((1,Cp.request c.header (Cp.fill f P c.sent (c.shorts.length+c.sent.length) 0 c.shorts).2),⟨c.header,(Cp.fill f P c.sent (c.shorts.length+c.sent.length) 0 c.shorts).1,(Cp.fill f P c.sent (c.shorts.length+c.sent.length) 0 c.shorts).2⟩)from rfl);obtain⟨ans,hans⟩:∃p,Cp.fillAns f P c=p:=⟨_,rfl⟩;rw[hans]at ES|-;clear hR hA hD hS hTz hM hF hP hgot hsT hans hT;have hc2:=HR.out.cell 2;rw[show(rcv4 mb c.header (.slice (some ⟨T,0,none⟩) (c.shorts.length+c.sent.length) (c.shorts.length+c.sent.length)) (.slice none 0 0))[2]? =some (.slice (some ⟨T,0,none⟩) (c.shorts.length+c.sent.length) (c.shorts.length+c.sent.length))from rfl]at hc2;obtain⟨n,hn⟩:∃n,c.shorts.length+c.sent.length=n:=⟨_,rfl⟩;rw[hn]at HR HF ES hc2 hn16 hn0;have hsl16:c.shorts.length<=16:=by omega
 have HN:=Lib.hid hn;have HSent:=Lib.hid (show Cp.SentOK n c.sent by rw[<-hn];exact hok.sent);clear hn;generalize hQ:bodyPost prog Tryz.f15 _=Q;simp only[CM16,CM,Ph.cb,Tryz.f15,Option.getD_some,Ph.cr];subst hQ;go_wp2_with fail;clear hc2;obtain⟨i1,hi1,hq0,hq1,hq2⟩:=info_parts infoInt3;have HI:=Lib.hid hi1;clear hi1;go_loopw [12,13,14,95] (λnv jv lv iv wr=>∃(i nx:Nat)(L:List (List UInt8))(ms:List Nat)(mv:Value),i<=n/\iv=.int .i64 i/\nv=.int .i64 nx/\Cp.FI f P c.sent c.shorts n i L ms nx/\ms.length<=i/\RowR wr rb (rcv4 mb c.header (.slice (some ⟨T,0,none⟩) n n) mv)/\wr.ownsRow w.heap.size 3 1 mv ms.length (wns ms)/\Tz.At wr T L/\Keep (Tw rb T A) w wr/\Row wr A (an 0 [])) (λ_ _ _ iv _=>n-(intOf iv).toNat);exact⟨0,0,L0,[],_,by omega,rfl,rfl,HF.out,by simp,HR.out,World.ownsRow_nil _ _ _ _,HTz.out,Keep.refl _ _,HA.out⟩;obtain⟨i,nx,L,ms,mv,hi,rfl,rfl,hF,hml,hR,hmo,hTz,hK,hA⟩:=hrel;have F1:=Lib.hid hF;have R1:=Lib.hid hR;have M1:=Lib.hid hmo;have Z1:=Lib.hid hTz;have K1:=Lib.hid hK;have A1:=Lib.hid hA;have hzr:=hK.size;have hLl:=hF.len;have hLL:=Lib.hid hLl;clear hF hR hmo hTz hK hA;by_cases hlt:i<n
 ·have p1:(i:Int)< (n:Int):=by omega
  have hc2:=R1.out.cell 2;rw[show(rcv4 mb c.header (.slice (some ⟨T,0,none⟩) n n) mv)[2]? =some (.slice (some ⟨T,0,none⟩) n n)from rfl]at hc2;have hby:=Z1.out.bytes i (by omega);rw[Nat.mul_comm]at hby;have HY:=Lib.hid hby;clear hLl;by_cases hz:L.getD i []=[]
  ·have hnx:=F1.out.next HSent.out HN.out.symm hlt hz;have p2:(nx:Int)< (c.shorts.length:Int):=by omega
   obtain⟨g,cap',hv',hgb,hg,hat⟩:=own_cells HS.out (by omega:0<c.shorts.length);cases hv';have hgT:=HST.out g rfl;have hcs:wr.cell? ⟨g,nx,none⟩=some (.string (str (c.shorts.getD nx []))):=by rw[<-wt_get c.shorts nx hnx,<-hat nx (by omega)];exact World.cell?_of_block (w:=w) (K1.out.block g hg (by unfold Tw;omega))
   have hD2:=(K1.out.row HD.out (by unfold Tw;omega)).cell 2;rw[show(cc c.header c.nonce (.slice (some ⟨g,0,none⟩) c.shorts.length sc) av tv)[2]? =some (.slice (some ⟨g,0,none⟩) c.shorts.length sc)from rfl]at hD2;obtain⟨es,clock,KK,hsl⟩:=HM.out.slot (c.shorts.getD nx []);have hMlt:M<w.heap.size:=(Array.getElem?_eq_some_iff.1 hsl.at_).1;have hlk:=Ph.look_run (w:=wr) ((K1.out.block M hMlt (by unfold Tw;omega)).trans hsl.at_) hsl.key (c.shorts.getD nx []);have hlo:=K1.out.own hsl.own (λk hk=>by have:=(hsl.own.lt k hk).1;unfold Tw;omega);have hho:=Cp.hits_of (f:=f) HG.out (c.shorts.getD nx []);have HMI:=Lib.hid (λh=>F1.out.miss HSent.out HN.out.symm hlt hz h);have HHI:=Lib.hid (λt h=>F1.out.hit (t:=t) HSent.out HN.out.symm hlt hz h);obtain⟨s,hse⟩:∃s,c.shorts.getD nx []=s:=⟨_,rfl⟩;rw[hse]at hcs hlk hlo hho HMI HHI;obtain⟨la,lc,hvl⟩:=own_slice hlo;rw[hvl]at hlk hlo;rw[hz]at hby;have HO:=Lib.hid hlo;have HH:=Lib.hid hho;have hemp:([]:List UInt8).isEmpty=true:=rfl;have q1:IntKind.i64.wrap ((nx:Int)+1)=((nx+1:Nat):Int):=IntWalk.i64_in _ (by omega);clear hsl hse hlo hho hz hat hvl;obtain⟨gl,hgl⟩:∃gl,(grp f got s).length=gl:=⟨_,rfl⟩;rw[hgl]at hlk HO HH;have HGL:=Lib.hid hgl;clear hgl;by_cases h1:gl=1
   ·subst h1;obtain⟨t,ht⟩:=List.length_eq_one_iff.1 HGL.out;have HF2:=Lib.hid (HHI.out t (HH.out.2 t ht));have HF3:=Lib.hid (HH.out.2 t ht);rw[ht]at HO;clear HHI HMI HH HGL ht;obtain⟨g2,c2',hv2,hg2B,hg2,hta⟩:=own_txs (ts:=[t]) HO.out (by simp);cases hv2;have hr2:wr.rangeAt g2 0 (txCells t):=hta 0 (by simp);clear HO hta;go_upto_region 24 with fail;have hu2:∀u:Reg.Of (λu=>Row u rb (rcv4 mb c.header (.slice (some ⟨T,0,none⟩) n n) mv)/\u.rangeAt g2 0 (txCells t)),u.w.cell? ⟨rb,2,none⟩=some (.slice (some ⟨T,0,none⟩) n n):=λu=>u.h.1.cell 2;haveI hne:Nonempty (Reg.Of (λu=>Row u rb (rcv4 mb c.header (.slice (some ⟨T,0,none⟩) n n) mv)/\u.rangeAt g2 0 (txCells t))):=⟨⟨wr,R1.out.row,hr2⟩⟩;refine Reg.startL [0,1,2,3,4,5,6,7,8] 1 mixed (by kernel_rfl) rfl rfl (λc a d v w h=>by cases d<;>exact h) (by as_aux_lemma=>kernel_rfl) rfl (λu=>Row u rb (rcv4 mb c.header (.slice (some ⟨T,0,none⟩) n n) mv)/\u.rangeAt g2 0 (txCells t)) ⟨R1.out.row.drew,hr2⟩ ?_;show wpQuiet _ _ _ _ [_,_,_,_,_,_,_,_,_] _;go_big_quiet_step (fail);go_big_quiet_step (fail);go_big_quiet_step (fail);go_big_quiet_step (fail);go_big_quiet_step (fail);go_big_quiet_step (fail);go_big_quiet_step (fail);refine wpQuiet_tx (o:=⟨some 126,_,_,_,_,_⟩) rfl _ rfl g2 0 t rfl (λw hw=>by obtain⟨u,rfl⟩:=hw;exact u.h.2) ?_;go_frame;go_big_quiet_step (fail);refine wpQuiet_nil ?_;clear hu2;have hTn:t≠ []:=(HP.out t (Cp.hits_one (HF3.out))).1;have Z2:=Lib.hid (show Tz.At wr.drew T L from Z1.out);have R2:=Lib.hid R1.out.drew;have M2:=Lib.hid (show wr.drew.ownsRow w.heap.size 3 1 mv ms.length (wns ms)from M1.out);have K2:=Lib.hid K1.out.drew;have A2:=Lib.hid A1.out.drew;have hr3:wr.drew.rangeAt g2 0 (txCells t):=hr2;have hth:=Z2.out.there i (by rw[hLL.out];exact hlt);have hlT:=Z2.out.lt;clear Z1 R1 M1 K1 A1 hr2;generalize wr.drew=w2 at Z2 R2 M2 K2 A2 hr3 hth hlT|-;have Z3:=Lib.hid (show Tz.At (w2.setCells T (i*33) (txCells t)) T (L.set i t)by have:=Z2.out.put i t (by rw[hLL.out];exact hlt);rwa[Tz.txZ_tx hTn,Nat.mul_comm]at this);have hbt:=Tz.sets_but w2 T (i*33) (txCells t) w2.heap.size;have R3:=Lib.hid (R2.out.same (hbt.block rb R2.out.lt (by omega)));have M3:=Lib.hid (ownN_but M2.out hbt (by omega));have A3:=Lib.hid (hbt.row A2.out A2.out.lt (by omega));have K3:=Lib.hid (K2.out.trans (Keep.of_but hbt (.inr (.inl rfl))));have hr4:=rangeAt_of_block hr3 (hbt.block g2 (by have:=World.block_lt_of_cell? w2 _ (hr3 0 _ (show(txCells t)[0]? =some (.string (str t))from rfl));exact this) (by omega));refine Reg.one 9 _ (by kernel_rfl) rfl rfl ?_;refine wpList_store_mid rfl _ _ _ rfl T (i*33) (txCells t).toArray rfl rfl (by rw[List.size_toArray,txCells_len,Nat.mul_comm];exact hth) (infoTx.trans (by rw[List.size_toArray,txCells_len])) (by rw[List.all_toArray];exact txCells_one t) ?_;refine⟨Reg.cls_mk ⟨R3.out.row,hr4⟩,?_⟩;refine wpAnyH_done (by kernel_rfl) ?_ 0;try go_frame
    go_wp2_with fail;go_roundw
    ·exact⟨i+1,nx+1,L.set i t,ms,mv,by omega,by go_num,by go_num,HF2.out,by omega,R3.out,M3.out,Z3.out,K3.out,A3.out⟩
    simp[intOf];omega
   have p3:¬(gl:Int)=1:=by omega
   have HF2:=Lib.hid (HMI.out (by rw[<-HH.out.1];exact h1));clear HHI HMI HH HGL HO;have hc3:=R1.out.cell 3;obtain⟨ma,mc,rfl⟩:=own_slice M1.out;rw[show(rcv4 mb c.header (.slice (some ⟨T,0,none⟩) n n) (.slice ma ms.length mc))[3]? =some (.slice ma ms.length mc)from rfl]at hc3;have hTw:T<w.heap.size:=by omega
   have hAw:A<w.heap.size:=by omega
   have hmx:ms.length<1000:=by omega
   go_wp2_with (at_builtin;refine wpList_append_own _ rfl _ _ 39 rfl w.heap.size 3 i1 (.int .i64 0) 1 8 underlying39 HI.out hq0 hq1 hq2 rfl (by decide) _ _ _ rfl (M1.out.alloc _) ⟨wr.heap.size,0,none⟩ 1 1 [.int .i64 (i:Int)] rfl rfl (cell_one_new _ _ _) (λu hu=>by simp at hu;subst hu;rfl) (by unfold maxLen;omega) (by omega) (by rw[World.size_alloc];omega) ?_;intro uv2 w3 hown3 hgr3 _;have hbl:Below w.heap.size wr w3:=((Below.refl w.heap.size wr).alloc hzr _).grown hgr3 (by rw[World.size_alloc];omega) (λk hk=>(M1.out.lt k hk).1);obtain⟨pa,pc,rfl⟩:=own_slice hown3;have R3:=R1.out.below hbl (by omega);have hz3:=R3.free 3;have hc33:=R3.cell 3;have N3:=Lib.hid hown3;have G3:=Lib.hid hbl;have R3':=Lib.hid R3;clear hown3 hgr3 hbl R3)
   go_roundw
   ·exact⟨i+1,nx+1,L,ms++[i],_,by omega,by go_num,by go_num,HF2.out,by rw[List.length_append];simp;omega,R3'.out.set 3 _,by rw[List.length_append,<-wns_snoc];exact ownN_cell (a:=⟨rb,3,none⟩) N3.out _ (by show rb<_;omega),(Z1.out.below G3.out hTw).of_block (Below.heap_setCell _ _ _ _ (by show T≠rb;omega)),((K1.out.thenBelow G3.out).set ⟨rb,3,none⟩ _ (.inl rfl)),(A1.out.below G3.out hAw).other (a:=⟨rb,3,none⟩) (show rb≠A by omega) _⟩
   simp[intOf];omega
  have HF2:=Lib.hid (F1.out.skip HSent.out hlt hz);obtain⟨x,hxe⟩:∃x,L.getD i []=x:=⟨_,rfl⟩;rw[hxe]at hby hz;have hne:x.isEmpty=false:=by cases x with
   |nil=>exact absurd rfl hz
   |cons a l=>rfl
  clear HY hxe hz;go_wp2_with fail;go_roundw
  ·exact⟨i+1,nx,L,ms,mv,by omega,by go_num,rfl,HF2.out,by omega,R1.out,M1.out,Z1.out,K1.out,A1.out⟩
  simp[intOf];omega
 obtain rfl:i=n:=by omega
 have hfill:=F1.out.done;have hfo:=Cp.fill_ok (f:=f) HSent.out HP.out i 0 c.shorts;rw[hfill]at hfo ES;obtain⟨o1,o2,o3⟩:=hfo;rw[Nat.zero_add]at o3;have OK1:=Lib.hid o1;have OK2:=Lib.hid o2;have OK3:=Lib.hid o3;have TW:=Lib.hid (K1.out.tabs HT.out (by unfold Tw;omega) (by unfold Tw;omega));obtain⟨ma,mc,rfl⟩:=own_slice M1.out;have hc3:=R1.out.cell 3;rw[show(rcv4 mb c.header (.slice (some ⟨T,0,none⟩) i i) (.slice ma ms.length mc))[3]? =some (.slice ma ms.length mc)from rfl]at hc3;have hAl:=A1.out.lt;have hTl:=Z1.out.lt;have hRl:=R1.out.lt;clear hfill o1 o2 o3 hLl HF HTz HR HA HM;by_cases hm:ms=[]
 ·subst hm;have hLn:∀t∈L,t≠ []:=λt ht e=>by obtain⟨j,hj,he⟩:=List.mem_iff_getElem.1 ht;have:=OK2.out j (by rw[<-hLL.out];exact hj) (by rw[List.getD_eq_getElem?_getD,List.getElem?_eq_getElem hj];simpa[e]using he);cases this
  have hto:wr.ownsRow T 69 33 (.slice (some ⟨T,0,none⟩) i i) L.length (txsCells L):=by have:=Z1.out.own (C:=T) (Nat.le_refl _) (by rw[hLL.out];omega);rw[Tz.txz_ts L hLn]at this;rwa[hLL.out]at this|-
  have T1:=Lib.hid (finish_calls rb mb c.header (.slice (some ⟨T,0,none⟩) i i) (.slice ma 0 mc) L T wr TW.out h1b R1.out hto OK1.out (by rw[hLL.out];exact hn0) (by rw[hLL.out];exact hn16) hok.head (by omega));have ES2:=Lib.hid (show ans=(Cp.finish c.header L,Cp.idle)by rw[ES.out,if_pos rfl]);clear hto ES OK1 OK2 OK3 M1 hLn;obtain⟨fa,hfa⟩:∃p,Cp.finish c.header L=p:=⟨_,rfl⟩;rw[hfa]at T1 ES2;obtain⟨k1,bs⟩:=fa;go_wp2_with fail;refine T1.out.mono ?_;clear T1 hc3;rintro e w4⟨rfl,hr4,hb4⟩;have rA4:=hb4.row A1.out hAl (by omega);have R4:=Lib.hid hr4;have K4:=Lib.hid (K1.out.trans (Keep.of_but hb4 (.inl rfl)));clear hr4 hb4;go_wp2_with (with_reducible refine store_cells (o:=⟨none,_,_,_,_,_⟩) rfl _ _ _ rfl A (an 0 []) (an k1 bs) rfl rfl rA4 (info_Answer.trans rfl) rfl rfl ?_);have S9:=rA4.setRow (an k1 bs);refine bodyPost_ret (v:=.tuple #[.agg (an k1 bs).toArray,.int .i64 0]) (results_c1 rfl _ _ A (an k1 bs) (.int .i64 0) rfl rfl S9 _ underlying48 (info_Answer.trans rfl)) rfl ?_;rw[ES2.out];exact⟨rfl,.inl ⟨rfl,R4.out.setOther (by omega) _⟩,K4.out.setRow A _ (.inr (.inr rfl))⟩
 have hml0:ms.length≠0:=λe=>hm (List.eq_nil_of_length_eq_zero e);have p4:¬(ms.length:Int)=0:=by omega
 have ES2:=Lib.hid (show ans=((1,Cp.request c.header ms),⟨c.header,L,ms⟩)by rw[ES.out,if_neg hm]);have WT:=Lib.hid (show Cp.Wait ⟨c.header,L,ms⟩from⟨hm,hok.head,by show 0<L.length;rw[hLL.out];exact hn0,by show L.length<=16;rw[hLL.out];exact hn16,OK1.out,λj hj he=>by have:=OK2.out j (by rw[<-hLL.out];exact hj) he;rwa[Nat.zero_add]at this,by show En.Rise L.length 0 _;rw[hLL.out];exact OK3.out⟩);clear ES OK1 OK2;go_upto_region 29 with fail;have hu1:∀u:Reg.Of (λu=>Row u rb (rcv4 mb c.header (.slice (some ⟨T,0,none⟩) i i) (.slice ma ms.length mc))),u.w.cell? ⟨rb,1,none⟩=some (.string (str c.header)):=λu=>u.h.cell 1;have hu3:∀u:Reg.Of (λu=>Row u rb (rcv4 mb c.header (.slice (some ⟨T,0,none⟩) i i) (.slice ma ms.length mc))),u.w.cell? ⟨rb,3,none⟩=some (.slice ma ms.length mc):=λu=>u.h.cell 3;haveI hne:Nonempty (Reg.Of (λu=>Row u rb (rcv4 mb c.header (.slice (some ⟨T,0,none⟩) i i) (.slice ma ms.length mc)))):=⟨⟨wr,R1.out.row⟩⟩;refine Reg.startL [0,1,2,3,5,6,7,8] 6 mixed (by kernel_rfl) rfl rfl (λc a d v w h=>by cases d<;>exact h) (by as_aux_lemma=>kernel_rfl) rfl (λu=>Row u rb (rcv4 mb c.header (.slice (some ⟨T,0,none⟩) i i) (.slice ma ms.length mc))) R1.out.row.drew ?_;show wpQuiet _ _ _ _ [_,_,_,_,_,_,_,_] _;repeat(go_big_quiet_step (fail))
 refine wpQuiet_nil ?_;clear hu1 hu3 hc3;have Z2:=Lib.hid (show Tz.At wr.drew T L from Z1.out);have R2:=Lib.hid R1.out.drew;have M2:=Lib.hid (show wr.drew.ownsRow w.heap.size 3 1 (.slice ma ms.length mc) ms.length (wns ms)from M1.out);have K2:=Lib.hid K1.out.drew;have A2:=Lib.hid A1.out.drew;have T2:=Lib.hid (name_calls c.header wr.drew TW.out (by have:=hok.head;omega));have hz2:w.heap.size<=wr.drew.heap.size:=hzr;have hAl2:A<wr.drew.heap.size:=hAl;have hTl2:T<wr.drew.heap.size:=hTl;have hRl2:rb<wr.drew.heap.size:=hRl;clear Z1 R1 M1 K1 A1 hzr hAl hTl hRl TW;generalize wr.drew=w2 at Z2 R2 M2 K2 A2 T2 hz2 hAl2 hTl2 hRl2|-;refine Reg.one 4 _ (by kernel_rfl) rfl rfl ?_;try go_frame
 go_wp2_with fail;refine T2.out.mono ?_;clear T2;rintro e w3⟨rfl,hb3⟩;have Z3:=Lib.hid (Z2.out.below hb3 hTl2);have R3:=Lib.hid (R2.out.below hb3 hRl2);have M3:=Lib.hid (ownN_below M2.out hb3 (Nat.le_refl _));have K3:=Lib.hid (K2.out.thenBelow (hb3.mono hz2));have A3:=Lib.hid (A2.out.below hb3 hAl2);have hz3:=hb3.size;have hth:=twice32 c.header;have T3:=Lib.hid (reqBytes_calls (Mk.twice c.header) (.slice ma ms.length mc) (Cp.ints ms) i w3 (own_ints M3.out) OK3.out (by omega) (by rw[Cp.ints_len];omega) (by omega))
 have RQ:=Lib.hid (show Cp.request c.header ms=Mk.twice c.header++Wr.sizeB (Cp.ints ms).length++(En.gaps 0 (Cp.ints ms)).flatten by rw[Cp.ints_len];rfl);clear hb3 Z2 R2 M2 K2 A2 OK3;rw[<-RQ.out]at T3;generalize Cp.request c.header ms=rq at ES2 T3;generalize Mk.twice c.header=nm at T3 hth|-;clear RQ;go_wp2_with fail;refine⟨Reg.cls_mk R3.out.row,?_⟩;refine Reg.one 9 _ (by kernel_rfl) rfl rfl ?_;try go_frame
 go_wp2_with fail;refine⟨Reg.cls_mk R3.out.row,?_⟩;refine Reg.one 10 _ (by kernel_rfl) rfl rfl ?_
 try go_frame
 go_wp2_with fail;refine T3.out.mono ?_;clear T3;rintro e w4⟨rfl,hb4⟩;have hAl3:A<w3.heap.size:=by omega
 have Z4:=Lib.hid (Z3.out.below hb4 (by omega));have R4:=Lib.hid (R3.out.below hb4 (by omega));have M4:=Lib.hid (ownN_below M3.out hb4 (Nat.le_refl _));have K4:=Lib.hid (K3.out.thenBelow (hb4.mono (by omega)));have rA4:=A3.out.below hb4 hAl3;clear hb4 Z3 R3 M3 K3 A3;go_wp2_with fail;refine⟨Reg.cls_mk R4.out.row,?_⟩;refine Reg.one 11 _ (by kernel_rfl) rfl rfl ?_;refine build_An2 rfl _ _ rfl 1 rq rfl rfl ?_;refine⟨Reg.cls_mk R4.out.row,?_⟩;refine Reg.one 12 _ (by kernel_rfl) rfl rfl ?_;refine store_cells rfl _ _ _ rfl A (an 0 []) (an 1 rq) rfl rfl rA4 (info_Answer.trans rfl) rfl rfl ?_;have S9:=rA4.setRow (an 1 rq);have R5:=Lib.hid (R4.out.setOther (g:=A) (by omega) (an 1 rq).toArray);have Z5:=Lib.hid (Z4.out.of_block (setRow_other w4 A T (an 1 rq).toArray (by omega)));have M5:=Lib.hid (ownN_row (S:=A) M4.out (an 1 rq).toArray (by omega));have K5:=Lib.hid (K4.out.setRow A (an 1 rq).toArray (.inr (.inr rfl)));clear rA4 Z4 R4 M4 K4;generalize World.setRow _ _ _=w5 at S9 R5 Z5 M5 K5|-;refine⟨Reg.cls_mk R5.out.row,?_⟩;refine Reg.one 13 _ (by kernel_rfl) rfl rfl ?_;try go_frame
 go_wp2_with fail;refine⟨Reg.cls_mk R5.out.row,?_⟩;refine wpAnyH_done (by kernel_rfl) ?_ 0
 try go_frame
 go_wp2_with fail;refine bodyPost_ret (v:=.tuple #[.agg (an 1 rq).toArray,.int .i64 0]) (results_c1 rfl _ _ A (an 1 rq) (.int .i64 0) rfl rfl S9 _ underlying48 (info_Answer.trans rfl)) rfl ?_;rw[ES2.out];refine⟨rfl,.inr ⟨WT.out,T,_,?_,Z5.out,by omega,ownN_le M5.out (by omega)⟩,K5.out⟩
 have:=R5.out;rwa[<-hLL.out]at this
end
namespace Tp
open Go.Conc
def last2B(s t:Nat)(l:List Nat):Bool:=lastB t l&&lastB s l.dropLast&&s != t
def last2B_ok{s t l}(h:last2B s t l=true):∃l1,l=l1++[s,t]/\s∉l1/\t∉l1++[s]:=by unfold last2B at h;simp only[Bool.and_eq_true,bne_iff_ne,ne_eq]at h;obtain⟨⟨h1,h2⟩,h3⟩:=h;obtain⟨l1,rfl,hn1⟩:=lastB_ok h1;rw[List.dropLast_concat]at h2;obtain⟨l2,rfl,hn2⟩:=lastB_ok h2;exact⟨l2,by rw[List.append_assoc];rfl,hn2,hn1⟩
section
variable{P:Program}{ops:Array Oper}{Q:Exit->Act->World->Prop}
def region_cut2{S id s t o o'}(hm:P.follows .mixedOrders=true)(hl:anyOrd ops (last2B s t) ops.size (Array.replicate ops.size false) []=true)(hg:noGuardB ops=true)(hg':noGuardB (fake ops s)=true)(ho:ops[s]? =some o)(ho':(fake ops s)[t]? =some o')(hQ:∀e a w,Q e a w->e=.normal){a w} (h:wpAnyH P .any (fake (fake ops s) t) Q S (fake (fake ops s) t).size (Array.replicate (fake (fake ops s) t).size false) a {w with drawn:=w.drawn+1}) (b:Frame) k cs:∃a' w',Q .normal a' w'/\Steps P (lone (b.at a (.code (.region id ops true)::k)) cs w) (lone (b.at a' (.inRegion ops [s,t]::k)) cs w'):=by have h1:=wpOps_held hm h (w.tape w.drawn (.order b.fn id));rw[sched_same hm (fake_size t) (fake_after t),sched_same hm (fake_size s) (fake_after s)]at h1;obtain⟨l,hls,hs,ht⟩:=last2B_ok (sched_all hm hl (w.tape w.drawn (.order b.fn id)));have hst:=step_region_draw (P:=P) (b:=b) (a:=a) (k:=k) (cs:=cs) (w:=w) (ops:=ops) (id:=id);rw[hls]at h1 hst;rw[show l++[s,t]=(l++[s])++[t]by rw[List.append_assoc];rfl]at h1;have h2:=wpOps_fake (noGuardB_ok hg) ho hQ l a _ hs (wpOps_fake (noGuardB_ok hg') ho' hQ (l++[s]) a _ ht h1);obtain⟨a',w',hq,h3⟩:=ops_steps hQ l a _ h2 [s,t] b k cs;exact⟨a',w',hq,.head hst h3⟩
end
end Tp
namespace Ph
open Go.Conc
open Tp (Arr arr_step arr_stop arr_steps)
section
variable{P:Program}{Stop:Goroutine->World->Prop}{b:Frame}{a:Act}{k:List Item}{cs:List Frame}{w w':World}
def arr_cut2E{c S id s t o o' ops fo}(e:c=.region id ops true)(hm:P.follows .mixedOrders=true)(hl:Tp.anyOrd ops (Tp.last2B s t) ops.size (Array.replicate ops.size false) []=true)(hg:Tp.noGuardB ops=true)(hg':Tp.noGuardB (Tp.fake ops s)=true)(ho:ops[s]? =some o)(ho':(Tp.fake ops s)[t]? =some o')(hf:Tp.fake (Tp.fake ops s) t=fo) (h:wpAnyH P .any fo (Tp.onlyN λa' w'=>Arr P Stop (b.at a' (.inRegion ops [s,t]::k)) cs w') S fo.size (Array.replicate fo.size false) a {w with drawn:=w.drawn+1}):Arr P Stop (b.at a (.code c::k)) cs w:=by subst e;subst hf;obtain⟨a',w',q,hs⟩:=Tp.region_cut2 (id:=id) hm hl hg hg' ho ho' Tp.onlyN_ok h b k cs;exact arr_steps hs q
def arr_rest{f fn c cl}{R:Value->World->Prop}(hf:P.funcs[f]? =some fn)(hb:b.fn=f)(hk:b.kind=.normal)(h:c.wp P (bodyPost P fn λ|.returned v,w=>R v w|_,_=>False) a w) (K:∀v w',R v w'->Arr P Stop (cl.finish v) cs w'):Arr P Stop (b.at a [.code c]) (cl::cs) w:=by
 obtain⟨e,a',w',q,r⟩:=h b [] (cl::cs);subst hb;have hend:∀(fr:Frame),fr.fn=b.fn->fr.kind=.normal->fr.mode=.returning->fr.defers=[]->∀v,(results fn fr.tmps).run P w'=.ok v w'->R v w'->Arr P Stop fr (cl::cs) w':=λfr h1 h2 h3 h4 v hv hR=>arr_step (step_leave_returned ⟨h3,h4,h2,fn,by rw[h1];exact hf,hv⟩) (K v w' hR);cases e with
 |normal=>obtain⟨hd,v,hv,hR⟩:=q;exact arr_steps r (arr_step step_end (hend _ rfl hk rfl hd v hv hR))
 |ret=>obtain⟨hd,v,hv,hR⟩:=q;obtain⟨todo,hr⟩:=r;exact arr_steps hr (hend _ rfl hk rfl hd v hv hR)
 |exit id=>exact q.elim|goto l=>exact q.elim
 |panic ch=>exact q.2.elim|outgrown=>exact q.elim
end
end Ph
