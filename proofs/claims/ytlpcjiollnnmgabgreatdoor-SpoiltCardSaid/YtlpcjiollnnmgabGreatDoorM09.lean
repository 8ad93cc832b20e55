import Derived.Test.YtlpcjiollnnmgabGreatDoorM04
import Derived.Test.YtlpcjiollnnmgabGreatDoorM08
set_option maxRecDepth 100000
set_option maxHeartbeats 8000000
set_option linter.all false
namespace Go.Proofs.YtlpcjiollnnmgabGreatDoor
open Go.Proofs.Tryz
namespace Ph
open Go.Conc Rn bd
open Go.RowKit
open Tp (bG bo Term Ld bE bt bR da gu)
noncomputable def W:Code:=cb Tryz.f87
noncomputable def WX:Code:=ci (ci (cr (cl W)))
def bw:Frame:={(default:Frame)with fn:=87,kind:=.deferred}
def Hw(kd:List UInt8):List Obj:=[eY,eY,eY,eY,eY,fz [.chan (some 2)] 145,fz [.chan (some 3)] 146,fz (aL kd) 89,fz [.chan (some 4)] 147]
abbrev lp(r:Nat):Value:=.pointer (some ⟨r,0,none⟩)
def fvT(kd t:List UInt8):Value:=.agg (.string (str (En.IL (cC.Mr (En.yL kd) (En.yK kd) (Mk.ak t))))::ai t).toArray
noncomputable def tJ:List Item:=[.inRegion (co (cl WX)) [0,1],.code (cr WX),.inLoop WX,.inBlock 0,.code (cr W)]
noncomputable def tR:List Item:=[.inRegion (co (cr (ci (cr (cr WX))))) [7],.inBlock 1,.inLoop WX,.inBlock 0,.code (cr W)]
noncomputable def tD:List Item:=[.inRegion (co (cr W)) [2]]
def WA(kd:List UInt8):ko (List UInt8)->Goroutine->World->Prop
 |.bg=>λg v=>(∃x4 x6 x7 x8 x9 jP ju iV jO iU kH jC kD,g=gu (bw.at ⟨#[lp 5,lp 6,lp 7,lp 8,x4,.chan (some 2),x6,x7,x8,x9,jP,ju,iV,jO,iU,kH,jC,kD],[]⟩ tJ) [wall])/\iy v (Hw kd)|.b8 t=>λg v=>(∃x4 x6 x7 x8 jP ju iV jO iU jC kD,g=gu (bw.at ⟨#[lp 5,lp 6,lp 7,lp 8,x4,.chan (some 2),x6,x7,x8,.chan (some 3),jP,ju,iV,jO,iU,fvT kd t,jC,kD],[]⟩ tR) [wall])/\iy v (Hw kd)|.fi=>λg v=>(∃x4 x6 x7 x8 x9 jP ju iV jO iU kH,g=gu (bw.at ⟨#[lp 5,lp 6,lp 7,lp 8,x4,.chan (some 2),x6,x7,x8,x9,jP,ju,iV,jO,iU,kH,.chan (some 4),.agg #[]],[]⟩ tD) [wall])/\iy v (Hw kd)|_=>λ_ _=>False
def WA.re{kd c g v}(h:WA kd c g v) τ n:WA kd c g (v.re τ n):=by cases c<;>exact h
def hW:W=.seq (cl W) (cr W):=rfl
def hWl:cl W=.seq (cl (cl W)) (cr (cl W)):=rfl
def hWb:cr (cl W)=.block 0 (ci (cr (cl W))):=rfl
def hWo:ci (cr (cl W))=.loop WX:=rfl
def hWX:WX=.seq (cl WX) (cr WX):=rfl
def ab5 p q r u:Frame.enter prog 87 #[p,q,r,u] .deferred=bw.at ⟨#[p,q,r,u,undef,undef,undef,undef,undef,undef,undef,undef,undef,undef,undef,undef,undef,undef],[]⟩ [.code W]:=by unfold Frame.enter;rw[func87];rfl
def Eb x s a0 a1 a2 a3 a4 a5 a6 a7 a8 a9 IB IA a12 Iz Iy Ix Iw Iv Iu It a20 a21 Is Ir a24 Iq Ip Io a28 Im Il a31:prog.built 149 [(0,.string x),(1,.agg (.string s::w8 [a0,a1,a2,a3,a4,a5,a6,a7,a8,a9,IB,IA,a12,Iz,Iy,Ix,Iw,Iv,Iu,It,a20,a21,Is,Ir,a24,Iq,Ip,Io,a28,Im,Il,a31]).toArray)]=some (.string x::.string s::w8 [a0,a1,a2,a3,a4,a5,a6,a7,a8,a9,IB,IA,a12,Iz,Iy,Ix,Iw,Iv,Iu,It,a20,a21,Is,Ir,a24,Iq,Ip,Io,a28,Im,Il,a31]).toArray:=by kernel_rfl
def Lv x s d(hd:d.length=32):prog.built 149 [(0,.string x),(1,.agg (.string s::w8 d).toArray)]=some (.string x::.string s::w8 d).toArray:=
 match d,hd with
 |[a0,a1,a2,a3,a4,a5,a6,a7,a8,a9,IB,IA,a12,Iz,Iy,Ix,Iw,Iv,Iu,It,a20,a21,Is,Ir,a24,Iq,Ip,Io,a28,Im,Il,a31],_=>Eb x s a0 a1 a2 a3 a4 a5 a6 a7 a8 a9 IB IA a12 Iz Iy Ix Iw Iv Iu It a20 a21 Is Ir a24 Iq Ip Io a28 Im Il a31
def Ly{ops rest o a w Q}(iW:o.guard=none) x y(ho:o.op=.build 149 #[(0,x),(1,y)]) s t (hx:a.eval x=.string (str s)) (hy:a.eval y=.agg (ai t).toArray) (h:wpList prog ops Q rest (a.put o.dst (.agg (.string (str s)::ai t).toArray)) w):wpList prog ops Q (o::rest) a w:=by refine wpList_buildTo iW 149 _ ho _ rfl _ ?_ h;simp only[List.map_toArray,List.map_cons,List.map_nil,hx,hy];exact Lv (str s) (str t) (Mk.ak t) (eQ t)
def Sn{ops rest o a C Q}(iW:o.guard=none) x(ho:o.op=.load 89 x) g off kd (hx:a.eval x=.pointer (some ⟨g,off,none⟩)) (hr:∀w,C w->w.rangeAt g off (aL kd)) (h:wpQuiet prog ops C Q rest (a.put o.dst (.agg (aL kd).toArray))):wpQuiet prog ops C Q (o::rest) a:=by unfold wpQuiet;rw[if_pos (by simp[Region.wanted,iW])];refine⟨_,λw hw=>?_,h⟩;have:=run_loadAt_mid (P:=prog) w g off 89 (aL kd) _ (hr w hw) underlying89 rfl (pV.trans rfl);unfold Oper.quietAt execOp;simp only[ho,hx,Sem.run_bind,this,Result.andThen_ok,Sem.run_pure,Oper.quietUpon];first|trivial|exact⟨trivial,trivial⟩|exact⟨rfl,rfl⟩|exact⟨rfl,hw⟩
def iy.below{v w l B}(h:iy v l)(hb:Below B v w)(hl:l.length<=B):iy w l:=h.keep λb pf=>hb.block b (by omega)
section
variable{kd:List UInt8}{v:World}
def Pc(h:iy v (Hw kd)) x4 x6 x7 x8 x9 jP ju iV jO iU kH jC kD:bE prog (WA kd .bg) (bw.at ⟨#[lp 5,lp 6,lp 7,lp 8,x4,.chan (some 2),x6,x7,x8,x9,jP,ju,iV,jO,iU,kH,jC,kD],[]⟩ [.code WX,.inLoop WX,.inBlock 0,.code (cr W)]) [wall] v:=by refine aq hWX ?_;refine wY (s:=0) (r:=[0,1]) rfl rfl ?_;show bE _ _ _ _ _;exact bt ⟨⟨_,_,_,_,_,_,_,_,_,_,_,_,_,rfl⟩,h⟩
def aac(h:iy v (Hw kd)):Term prog (WA kd .bg) (gu (Frame.enter prog 87 #[lp 5,lp 6,lp 7,lp 8] .deferred) [wall]) v:=by rw[ab5];refine dn bo (λg w τ n (h:WA kd .bg g w)=>h.re τ n) rfl λτ n=>?_;have h:iy (v.re τ n) (Hw kd):=h;generalize v.re τ n=v at h;refine aq hW (aq hWl ?_);have l5:v.cell? ⟨5,0,none⟩=some (.chan (some 2)):=h.row (i:=5) rfl 0;refine aF (c':=.region _ _ _) rfl ?_;go_wp2_with fail;refine cG hWb (gM hWo ?_);exact Pc h _ _ _ _ _ _ _ _ _ _ _ _ _
def akq:cr WX=.seq (cl (cr WX)) (cr (cr WX)):=rfl
def aqP:cr (cr WX)=.block 1 (ci (cr (cr WX))):=rfl
def aqO:ci (cr (cr WX))=.seq (cl (ci (cr (cr WX)))) (cr (ci (cr (cr WX)))):=rfl
def ael{t g}(h:WA kd .bg g v):Term prog (WA kd (.b8 t)) (Go.Conc.served g (.tuple #[F8 t,.bool true])) v:=by
 obtain⟨⟨x4,x6,x7,x8,x9,jP,ju,iV,jO,iU,kH,jC,kD,rfl⟩,h⟩:=h;unfold tJ;rw[iN (o:=⟨some 6,_,_,_,_,_⟩) rfl];show Term _ _ (gu (bw.at ⟨#[lp 5,lp 6,lp 7,lp 8,x4,.chan (some 2),.tuple #[.agg (ai t).toArray,.bool true],x7,x8,x9,jP,ju,iV,jO,iU,kH,jC,kD],[]⟩ _) _) v;refine dn bo (λg w τ n (h:WA kd (.b8 t) g w)=>h.re τ n) rfl λτ n=>?_;have h:iy (v.re τ n) (Hw kd):=h;generalize v.re τ n=v at h;refine Tp.jM (o:=⟨some 7,_,_,_,_,_⟩) (v:=.bool true) rfl rfl rfl ?_;show bE _ _ (bw.at ⟨#[lp 5,lp 6,lp 7,lp 8,x4,.chan (some 2),.tuple #[.agg (ai t).toArray,.bool true],.bool true,x8,x9,jP,ju,iV,jO,iU,kH,jC,kD],[]⟩ _) _ _;refine Tp.bP (aq akq (ba (t:=true) rfl rfl (cR rfl (cG aqP (aq aqO ?_)))));have r1:Row (v.alloc (.cells db.toArray 78)) v.heap.size db:=Row.new v db 78;have hB:Below v.heap.size v (v.alloc (.cells db.toArray 78)):=(Below.refl _ _).alloc ν _;have B1:=η (below_setRow hB ν (ai t).toArray);have H2:=r1.setRow (ai t);rw[Tryz.gU]at r1 hB B1 H2;have H1:=r1;have HP:=η h;clear r1 hB h;refine aF (c':=.region _ _ _) rfl ?_;go_wp2_with (with_reducible refine au (o:=⟨none,_,_,_,_,_⟩) rfl _ _ _ rfl v.heap.size db (ai t) rfl rfl H1 (cW.trans (by rw[aC])) (by rw[aC,bp]) (aX t) ?_);clear H1;have P2:iy _ (Hw kd):=HP.o.below B1.o HP.o.le;have hA9:9<=v.heap.size:=HP.o.le;obtain⟨A,hA⟩:∃A,v.heap.size=A:=⟨_,rfl⟩;rw[hA]at B1 H2 P2 hA9|-;clear B1 HP hA;generalize World.setRow _ A (ai t).toArray=w2 at H2 P2|-;have hu6:∀u:ax.Of (λu=>iy u (Hw kd)/\Row u A (ai t)),u.w.cell? ⟨6,0,none⟩=some (.chan (some 3)):=λu=>u.h.1.row (i:=6) rfl 0;haveI bZ:Nonempty (ax.Of (λu=>iy u (Hw kd)/\Row u A (ai t))):=⟨⟨w2,P2,H2⟩⟩;refine Zi (S:=ax.cls (λu=>iy u (Hw kd)/\Row u A (ai t))) (s:=7) (fo:=#[_,_,_,_,_,_,_,⟨none,.move (.const undef),0,"relay.go:183",#[_,_,_],none⟩]) rfl mixed (by kernel_rfl) (by kernel_rfl) rfl rfl ?_;refine ax.gd [0,1,2,3,5] 3 (by rfl) (by kernel_rfl) (by rfl) (λc a d v w h=>h) (by as_aux_lemma=>kernel_rfl) (by rfl) (ax.aj ⟨P2,H2⟩) ?_;show wpQuiet _ _ _ _ [_,_,_,_,_] _;go_big_quiet_step (fail);refine Sn (o:=⟨some 10,_,_,_,_,_⟩) rfl _ rfl 7 0 kd rfl (λw hw=>by obtain⟨u,rfl⟩:=hw;exact λj x hx=>by rw[Nat.zero_add,u.h.1.row (i:=7) rfl j];exact hx) ?_;go_frame;go_big_quiet_step (fail);refine eE (o:=⟨some 12,_,_,_,_,_⟩) rfl _ rfl A 1 (Mk.ak t) (eQ t) rfl (λw hw=>by obtain⟨u,rfl⟩:=hw;exact λj x hx=>by rw[u.h.2.cell];show(Value.string (str t)::w8 (Mk.ak t))[1+j]? =_;rw[Nat.add_comm];exact hx) ?_;go_frame;refine Mp.AH (o:=⟨some 14,_,_,_,_,_⟩) rfl _ rfl A 0 t rfl (λw hw=>by obtain⟨u,rfl⟩:=hw;exact λj x hx=>by rw[Nat.zero_add,u.h.2.cell];exact hx) ?_;go_frame;refine wpQuiet_nil ?_;have T1:=η (tW kd (Mk.ak t) w2.drew (eQ t));have P3:iy w2.drew (Hw kd):=P2;have R3:=H2.drew;have Yp:=R3.lt;clear hu6 P2 H2;show wpAnyH _ _ _ _ _ _ _ _ w2.drew;generalize w2.drew=w3 at P3 R3 T1 Yp|-;refine ax.one 4 _ (by kernel_rfl) rfl rfl ?_;try go_frame
 go_wp2_with fail;refine T1.o.mono ?_;clear T1;rintro e w4⟨rfl,mN⟩;have P4:iy w4 (Hw kd):=P3.below mN P3.le;have R4:=R3.below mN Yp;clear mN P3 R3 Yp;go_wp2_with fail;refine⟨ax.aj ⟨P4,R4⟩,?_⟩;refine ax.one 6 _ (by kernel_rfl) rfl rfl ?_
 try go_frame
 refine Ly (o:=⟨some 15,_,_,_,_,_⟩) rfl _ _ rfl _ t rfl rfl ?_;go_frame;go_wp2_with fail;refine⟨ax.aj ⟨P4,R4⟩,?_⟩;refine ax.one 7 _ (by kernel_rfl) rfl rfl ?_;go_wp2_with fail;refine⟨ax.aj ⟨P4,R4⟩,?_⟩;refine wpAnyH_done (by kernel_rfl) ?_ 0
 exact bt ⟨⟨_,_,_,_,_,_,_,_,_,_,_,rfl⟩,P4⟩
def ah8{g z}(h:WA kd .bg g v):Term prog (WA kd .fi) (Go.Conc.served g (.tuple #[z,.bool false])) v:=by obtain⟨⟨x4,x6,x7,x8,x9,jP,ju,iV,jO,iU,kH,jC,kD,rfl⟩,h⟩:=h;unfold tJ;rw[iN (o:=⟨some 6,_,_,_,_,_⟩) rfl];show Term _ _ (gu (bw.at ⟨#[lp 5,lp 6,lp 7,lp 8,x4,.chan (some 2),.tuple #[z,.bool false],x7,x8,x9,jP,ju,iV,jO,iU,kH,jC,kD],[]⟩ _) _) v;refine dn bo (λg w τ n (h:WA kd .fi g w)=>h.re τ n) rfl λτ n=>?_;have h:iy (v.re τ n) (Hw kd):=h;generalize v.re τ n=v at h;refine Tp.jM (o:=⟨some 7,_,_,_,_,_⟩) (v:=.bool false) rfl rfl rfl ?_;show bE _ _ (bw.at ⟨#[lp 5,lp 6,lp 7,lp 8,x4,.chan (some 2),.tuple #[z,.bool false],.bool false,x8,x9,jP,ju,iV,jO,iU,kH,jC,kD],[]⟩ _) _ _;refine Tp.bP (aq akq (ba (t:=false) rfl rfl (gN rfl rfl ?_)));have l8:v.cell? ⟨8,0,none⟩=some (.chan (some 4)):=h.row (i:=8) rfl 0;refine eh 2 [2] rfl rfl (by decide +kernel) ?_;show wpList _ _ _ [_,_] _ _;go_wp2_with fail;exact bt ⟨⟨_,_,_,_,_,_,_,_,_,_,_,rfl⟩,h⟩
def aek{t g}(h:WA kd (.b8 t) g v):Term prog (WA kd .bg) (Go.Conc.served g undef) v:=by obtain⟨⟨x4,x6,x7,x8,jP,ju,iV,jO,iU,jC,kD,rfl⟩,h⟩:=h;unfold tR;rw[iN (o:=⟨none,_,_,_,_,_⟩) rfl];show Term _ _ (gu (bw.at ⟨#[lp 5,lp 6,lp 7,lp 8,x4,.chan (some 2),x6,x7,x8,.chan (some 3),jP,ju,iV,jO,iU,fvT kd t,jC,kD],[]⟩ _) _) v;refine dn bo (λg w τ n (h:WA kd .bg g w)=>h.re τ n) rfl λτ n=>?_;have h:iy (v.re τ n) (Hw kd):=h;generalize v.re τ n=v at h;refine Tp.bP (Tp.dK (Tp.eN ?_));exact Pc h _ _ _ _ _ _ _ _ _ _ _ _ _
end
end Ph
namespace Ph
open Go.Conc Rn bd
open Go.RowKit
open Tp (bG bo Term Ld bE bt bR da gu)
noncomputable def F:Code:=cb Tryz.f88
noncomputable def FX:Code:=ci (ci (cr (cl F)))
noncomputable def FY:Code:=ci (ci (cr (cl (cr (cr F)))))
def bf:Frame:={(default:Frame)with fn:=88,kind:=.deferred}
def vA:Value:=.func (.method "") #[.nilIface] #[]
def Hf(es:Array MapEntry)(clock:Nat):List Obj:=[eY,eY,eY,eY,eY,fz [lp 9] 74,fz [.chan (some 2)] 145,fz [.chan (some 4)] 147,fz [.chan (some 3)] 146,fz [.map (some 10),vA,vA,vA] 44,.map es clock]
noncomputable def tS:List Item:=[.inRegion (co (cr (ci (cr (cr FX))))) [2],.inBlock 1,.inLoop FX,.inBlock 0,.code (cr F)]
noncomputable def tCJ:List Item:=[.inRegion (co (cl (cr F))) [1],.code (cr (cr F))]
noncomputable def tRD:List Item:=[.inRegion (co (ci (cl (cr (cr FY))))) [1],.inBlock 3,.code (cr (cr (cr FY))),.inLoop FY,.inBlock 2,.code (cr (cr (cr F)))]
noncomputable def tCR:List Item:=[.inRegion (co (cr (cr (cr F)))) [1]]
def DC(left:Lit->Bool)(P:List (List UInt8)):List (List UInt8):=P.filter λt=>left (.string (Mk.ak t))
def Sa{left}(h:∀kl,left kl=false) P:DC left P=[]:=by unfold DC;rw[List.filter_eq_nil_iff];intro t _;rw[h];simp
def V0(P:List (List UInt8))(oZ:Pl.Up Mk.ak P):DC (Maps.has (Mp.D P)) P=P:=by unfold DC;rw[List.filter_eq_self];intro t ht;rw[Mp.KP P _ oZ];exact(Pl.at_mem Mk.ak (Mk.ak t) P oZ).2 ⟨t,ht,rfl⟩
theorem EI(left:Lit->Bool)(t:List UInt8)(hl:left (.string (Mk.ak t))=true):∀(P:List (List UInt8)),Pl.Up Mk.ak P->t∈P->(DC left P).Perm (t::DC (λz=>left z&& !z.sameKey (.string (Mk.ak t))) P)
 |[],_,h=>by cases h
 |y::P,oZ,h=>by
  obtain⟨h1,h2⟩:=List.pairwise_cons.1 oZ;unfold DC at *;by_cases hy:y=t;subst hy;rw[List.filter_cons_of_pos (p:=λt=>left (.string (Mk.ak t))) hl,List.filter_cons_of_neg (by dsimp only;rw[Mp.m5];simp)];refine List.Perm.cons _ ?_;have:P.filter (λu=>left (.string (Mk.ak u)))=P.filter (λu=>left (.string (Mk.ak u))&& !(Lit.string (Mk.ak u)).sameKey (.string (Mk.ak y))):=List.filter_congr λu hu=>by
   have bZ:Mk.ak y≠Mk.ak u:=λe=>by have:=h1 u hu;rw[e]at this;exact Pl.vX _ this
   rw[Mp.m5];have:(Mk.ak u==Mk.ak y)=false:=by simpa using λe=>bZ e.symm
   rw[this];simp
  rw[this];have ht:t∈P:=by rcases List.mem_cons.1 h with e|h;exact absurd e.symm hy;exact h
  have ih:=EI left t hl P h2 ht;unfold DC at ih;have bZ:Mk.ak y≠Mk.ak t:=λe=>by have:=h1 t ht;rw[e]at this;exact Pl.vX _ this
  have hk:(!(Lit.string (Mk.ak y)).sameKey (.string (Mk.ak t)))=true:=by
   rw[Mp.m5];have:(Mk.ak y==Mk.ak t)=false:=by simpa using bZ
   rw[this];rfl
  by_cases hyl:left (.string (Mk.ak y))=true;rw[List.filter_cons_of_pos (p:=λt=>left (.string (Mk.ak t))) hyl,List.filter_cons_of_pos (by dsimp only;rw[hyl,hk];rfl)];exact(List.Perm.cons y ih).trans (List.Perm.swap t y _);rw[List.filter_cons_of_neg (p:=λt=>left (.string (Mk.ak t))) hyl,List.filter_cons_of_neg (by simp[hyl])];exact ih
def agE{P:List (List UInt8)}{x:List UInt8}{z:DataW Unit}(h:∀zd,(Mp.D P).atKey (.string x) zd=z):∃t∈P,Mk.ak t=x/\z=.lit (.string t):=by
 unfold Mp.D DataW.atKey at h;dsimp only at h;cases hf:(Mp.Cx P).find? (λp=>p.1.sameKey (.string x))with
 |none=>rw[hf]at h;have h1:=h .nil;have h2:=h (.lit (.bool true));rw[<-h1]at h2;cases h2
 |some p=>rw[hf]at h;have hm:=List.mem_of_find?_eq_some hf;have hp:=List.find?_some hf;unfold Mp.Cx at hm;obtain⟨t,ht,rfl⟩:=List.mem_map.1 hm;rw[Mp.m5]at hp;exact⟨t,ht,by simpa using hp,(h .nil).symm⟩
def FA(P:List (List UInt8))(es:Array MapEntry)(clock:Nat):ko (List UInt8)->Goroutine->World->Prop
 |.cT t rem=>λg v=>(∃x4 x5 x6 x7 x8 x9 ju iV jO iU kD pb su rU nP mQ nM,g=gu (bf.at ⟨#[lp 5,lp 6,lp 7,lp 8,x4,x5,x6,x7,x8,x9,lp 11,ju,iV,jO,iU,.chan (some 2),F8 t,kD,pb,su,rU,nP,mQ,nM],[]⟩ tS) [wall])/\iy v (Hf es clock)/\∃left cnt,v.ranges prog 76 Mp.zQ 10 11 20 (Mp.D P) left cnt/\rem.Perm (DC left P)|.fe=>λg v=>(∃x4 x5 x6 x7 x8 x9 jP ju iV jO iU kH jC pb su rU nP mQ nM,g=gu (bf.at ⟨#[lp 5,lp 6,lp 7,lp 8,x4,x5,x6,x7,x8,x9,jP,ju,iV,jO,iU,kH,jC,.chan (some 2),pb,su,rU,nP,mQ,nM],[]⟩ tCJ) [wall])/\iy v (Hf es clock)|.br k=>λg v=>(∃x4 x5 x6 x7 x8 x9 jP ju iV jO iU kH jC kD su nP mQ nM,g=gu (bf.at ⟨#[lp 5,lp 6,lp 7,lp 8,x4,x5,x6,x7,x8,x9,jP,ju,iV,jO,iU,kH,jC,kD,.int .i64 (k:Int),su,.chan (some 4),nP,mQ,nM],[]⟩ tRD) [wall])/\iy v (Hf es clock)/\k<3|.dh=>λg v=>(∃x4 x5 x6 x7 x8 x9 jP ju iV jO iU kH jC kD pb su rU nP mQ,g=gu (bf.at ⟨#[lp 5,lp 6,lp 7,lp 8,x4,x5,x6,x7,x8,x9,jP,ju,iV,jO,iU,kH,jC,kD,pb,su,rU,nP,mQ,.chan (some 3)],[]⟩ tCR) [wall])/\iy v (Hf es clock)|_=>λ_ _=>False
def FA.re{P es clock c g v}(h:FA P es clock c g v) τ n:FA P es clock c g (v.re τ n):=by cases c<;>exact h
def yl(P:List (List UInt8))(es:Array MapEntry)(clock:Nat)(rem:List (List UInt8))(g:Goroutine)(v:World):Prop:=(∃a DD,rem.Perm (a::DD)/\FA P es clock (.cT a DD) g v)∨(rem=[]/\FA P es clock .fe g v)
theorem yl.re{P es clock rem g v}(h:yl P es clock rem g v) τ n:yl P es clock rem g (v.re τ n):=h.imp (λ⟨a,r,h1,h2⟩=>⟨a,r,h1,h2.re τ n⟩) (λ⟨h1,h2⟩=>⟨h1,h2.re τ n⟩)
def hF:F=.seq (cl F) (cr F):=rfl
def hFl:cl F=.seq (cl (cl F)) (cr (cl F)):=rfl
def hFb:cr (cl F)=.block 0 (ci (cr (cl F))):=rfl
def hFo:ci (cr (cl F))=.loop FX:=rfl
def hFX:FX=.seq (cl FX) (cr FX):=rfl
def akV:cr FX=.seq (cl (cr FX)) (cr (cr FX)):=rfl
def arn:cr (cr FX)=.block 1 (ci (cr (cr FX))):=rfl
def arl:ci (cr (cr FX))=.seq (cl (ci (cr (cr FX)))) (cr (ci (cr (cr FX)))):=rfl
def hFr:cr F=.seq (cl (cr F)) (cr (cr F)):=rfl
def ari:cr (cr F)=.seq (cl (cr (cr F))) (cr (cr (cr F))):=rfl
def hFy:cl (cr (cr F))=.seq (cl (cl (cr (cr F)))) (cr (cl (cr (cr F)))):=rfl
def arh:cr (cl (cr (cr F)))=.block 2 (ci (cr (cl (cr (cr F))))):=rfl
def arf:ci (cr (cl (cr (cr F))))=.loop FY:=rfl
def hFY:FY=.seq (cl FY) (cr FY):=rfl
def akU:cr FY=.seq (cl (cr FY)) (cr (cr FY)):=rfl
def ark:cr (cr FY)=.seq (cl (cr (cr FY))) (cr (cr (cr FY))):=rfl
def arj:cl (cr (cr FY))=.block 3 (ci (cl (cr (cr FY)))):=rfl
def ab7 p q r u:Frame.enter prog 88 #[p,q,r,u] .deferred=bf.at ⟨#[p,q,r,u,undef,undef,undef,undef,undef,undef,undef,undef,undef,undef,undef,undef,undef,undef,undef,undef,undef,undef,undef,undef],[]⟩ [.code F]:=by unfold Frame.enter;rw[func88];kernel_rfl
def VV{P:List (List UInt8)}{v w:World}{left:Lit->Bool}{cnt B:Nat}(h:v.ranges prog 76 Mp.zQ 10 11 20 (Mp.D P) left cnt)(h12:11<B)(hb:Below B v w):w.ranges prog 76 Mp.zQ 10 11 20 (Mp.D P) left cnt:=by obtain⟨es,clock,since,seen,c0,h1,h2,h3,h4,h5,h6⟩:=h;exact⟨es,clock,since,seen,c0,(hb.block 10 (by omega)).trans h1,h2,h3,h4,(hb.block 11 h12).trans h5,h6⟩
def iy.rg{P:List (List UInt8)}{v:World}{l:List Obj}{left:Lit->Bool}{cnt:Nat}(_:iy v l)(h:v.ranges prog 76 Mp.zQ 10 11 20 (Mp.D P) left cnt):11<v.heap.size:=h.lt
section
variable{P:List (List UInt8)}{es:Array MapEntry}{clock:Nat}{v:World}
def QL(oZ:Pl.Up Mk.ak P)(h:iy v (Hf es clock)){left cnt}(hrg:v.ranges prog 76 Mp.zQ 10 11 20 (Mp.D P) left cnt){rem}(abq:rem.Perm (DC left P)) x4 x5 x6 x7 x8 x9 ju iV jO iU kH jC kD pb su rU nP mQ nM:bE prog (yl P es clock rem) (bf.at ⟨#[lp 5,lp 6,lp 7,lp 8,x4,x5,x6,x7,x8,x9,lp 11,ju,iV,jO,iU,kH,jC,kD,pb,su,rU,nP,mQ,nM],[]⟩ [.code FX,.inLoop FX,.inBlock 0,.code (cr F)]) [wall] v:=by
 have HP:=η h;have HUP:=η oZ;have ag6:=η abq;clear h oZ abq;refine aq hFX (aF (c':=.region _ _ _) rfl ?_);go_wp2_with (at_next;refine wpList_next_ranges _ (o:=⟨some 11,_,_,_,_,_⟩) rfl _ rfl 76 Mp.law Mp.zQ (λd:{d:List UInt8 // d.length=32}=>Value.agg (w8 d.1).toArray) (λc:Value=>c) (λkey kl hk=>by obtain⟨d,hd,hv,_⟩:=P9 hk;exact⟨⟨d,hd⟩,hv⟩) (λv y hv=>⟨v,rfl⟩) 10 11 20 _ _ _ rfl hrg ?_ ?_)
 ·intro xX hl0;go_wp2_with fail;show bE _ _ _ _ _;refine aq akV (ba (t:=false) rfl rfl (gN rfl rfl ?_));have h:=HP.o;have l6:v.cell? ⟨6,0,none⟩=some (.chan (some 2)):=h.row (i:=6) rfl 0;refine aq hFr (eh 1 [1] rfl rfl (by decide +kernel) ?_);show wpList _ _ _ [_] _ _;go_wp2_with fail;exact bt (.inr ⟨by have:=ag6.o;rw[Sa hl0]at this;exact this.eq_nil,⟨_,_,_,_,_,_,_,_,_,_,_,_,_,_,_,_,_,_,_,rfl⟩,h⟩)
 intro x hx c kl yd yp w2 aAe Ha hlk hv oN aje aM hg2 rQ hen;obtain rfl:kl=.string x:=by rw[Mp.GY x hx]at Ha;exact(Option.some.inj Ha).symm
 obtain⟨t,htP,rfl,rfl⟩:=agE oN;obtain⟨t',rfl,hz⟩|⟨_,hz⟩:=Mp.F9 hv;case inr=>cases hz
 obtain rfl:t=t':=by have:=(Prod.mk.inj hz).1;injection this with this;injection this
 have alS:=η (ag6.o.trans (EI left t hlk P HUP.o htP));have h2:iy w2 (Hf es clock):=HP.o.keep λb hb=>hg2.block b (Nat.lt_of_lt_of_le hb HP.o.le) (λe=>by have:b=11:=Option.some.inj e;have:b<11:=hb;omega);have HRG:=η aje;have H2:=η h2;clear Ha hlk hv oN hz hg2 rQ aje aM hx hrg HP ag6 h2;go_wp2_with fail;show bE _ _ _ _ _;refine aq akV (ba (t:=true) rfl rfl (cR rfl (cG arn (aq arl ?_))));have r1:Row (w2.alloc (.cells db.toArray 78)) w2.heap.size db:=Row.new w2 db 78;have hB:Below w2.heap.size w2 (w2.alloc (.cells db.toArray 78)):=(Below.refl _ _).alloc ν _;have B1:=η (below_setRow hB ν (ai t).toArray);have H4:=r1.setRow (ai t);rw[Tryz.gU]at r1 hB B1 H4;have H1:=r1;clear r1 hB;have aqu:Sem.run prog (Instr.entry (Value.pointer (some {block:=11,off:=0}))) w2=Result.ok (Value.tuple #[Value.agg (w8 (Mk.ak t)).toArray,.agg (ai t).toArray]) w2:=hen;clear hen;refine aF (c':=.region _ _ _) rfl ?_;go_wp2_with (with_reducible refine au (o:=⟨none,_,_,_,_,_⟩) rfl _ _ _ rfl w2.heap.size db (ai t) rfl rfl H1 (cW.trans (by rw[aC])) (by rw[aC,bp]) (aX t) ?_);clear H1 aqu;have P3:iy _ (Hf es clock):=H2.o.below B1.o H2.o.le;have R3:=VV HRG.o (iy.rg H2.o HRG.o) B1.o;have hA9:11<=w2.heap.size:=H2.o.le;obtain⟨A,hA⟩:∃A,w2.heap.size=A:=⟨_,rfl⟩;rw[hA]at B1 H4 P3 R3|-;clear B1 hA HRG H2;generalize World.setRow _ A (ai t).toArray=w3 at H4 P3 R3|-;have l6:w3.cell? ⟨6,0,none⟩=some (.chan (some 2)):=P3.row (i:=6) rfl 0;refine eh 2 [2] rfl rfl (by decide +kernel) ?_;show wpList _ _ _ [_,_] _ _;go_wp2_with (refine bU (o:=⟨some 16,_,_,_,_,_⟩) rfl _ _ rfl A (ai t) rfl H4 _ underlying78 (cW.trans (by rw[aC])) _ rfl ?_);exact bt (.inl ⟨t,_,alS.o,⟨_,_,_,_,_,_,_,_,_,_,_,_,_,_,_,_,_,rfl⟩,P3,_,_,R3,.refl _⟩)
def ab2(oZ:Pl.Up Mk.ak P)(h:iy v (Hf es clock))(hs:v.heap.size=11)(hm:v.ownsMap prog 76 Mp.zQ 10 20 (Mp.D P)):Term prog (yl P es clock P) (gu (Frame.enter prog 88 #[lp 5,lp 6,lp 7,lp 8] .deferred) [wall]) v:=by rw[ab7];refine dn bo (λg w τ n (h:yl P es clock P g w)=>h.re τ n) rfl λτ n=>?_;have h:iy (v.re τ n) (Hf es clock):=h;have hs:(v.re τ n).heap.size=11:=hs;have hm:(v.re τ n).ownsMap prog 76 Mp.zQ 10 20 (Mp.D P):=hm;generalize v.re τ n=v at h hs hm;have HU:=η oZ;have HP:=η h;have HM:=η hm;have HS:=η hs;have l5:v.cell? ⟨5,0,none⟩=some (lp 9):=h.row (i:=5) rfl 0;have l9:v.cell? ⟨9,0,none⟩=some (.map (some 10)):=h.row (i:=9) rfl 0;clear h oZ hm hs;refine aq hF (aq hFl (aF (c':=.region _ _ _) rfl ?_));go_wp2_with (at_range;refine wpList_range_own _ (o:=⟨some 10,_,_,_,_,_⟩) rfl _ 39 rfl 76 78 Mp.law underlying39 Mp.zQ 10 20 (Mp.D P) rfl HM.o ?_;intro w0 ajf hg0 xQ);rw[HS.o]at ajf;show bE _ _ (bf.at ⟨#[_,_,_,_,_,_,_,_,_,_,.pointer (some ⟨v.heap.size,0,none⟩),_,_,_,_,_,_,_,_,_,_,_,_,_],[]⟩ _) _ _;rw[HS.o];have h0:iy w0 (Hf es clock):=HP.o.keep λb hb=>hg0.block b (Nat.lt_of_lt_of_le hb HP.o.le) (λe=>by cases e);refine cG hFb (gM hFo ?_);exact QL HU.o h0 ajf (by rw[V0 P HU.o]) _ _ _ _ _ _ _ _ _ _ _ _ _ _ _ _ _ _ _
def agu(oZ:Pl.Up Mk.ak P){t rem g}(h:FA P es clock (.cT t rem) g v):Term prog (yl P es clock rem) (Go.Conc.served g undef) v:=by obtain⟨⟨x4,x5,x6,x7,x8,x9,ju,iV,jO,iU,kD,pb,su,rU,nP,mQ,nM,rfl⟩,h,left,cnt,hrg,abq⟩:=h;unfold tS;rw[iN (o:=⟨none,_,_,_,_,_⟩) rfl];show Term _ _ (gu (bf.at ⟨#[lp 5,lp 6,lp 7,lp 8,x4,x5,x6,x7,x8,x9,lp 11,ju,iV,jO,iU,.chan (some 2),F8 t,kD,pb,su,rU,nP,mQ,nM],[]⟩ _) _) v;refine dn bo (λg w τ n (h:yl P es clock rem g w)=>h.re τ n) rfl λτ n=>?_;have h:iy (v.re τ n) (Hf es clock):=h;have hrg:(v.re τ n).ranges prog 76 Mp.zQ 10 11 20 (Mp.D P) left cnt:=hrg;generalize v.re τ n=v at h hrg;refine Tp.bP (Tp.dK (Tp.eN ?_));exact QL oZ h hrg abq _ _ _ _ _ _ _ _ _ _ _ _ _ _ _ _ _ _ _
def YF(h:iy v (Hf es clock)){k}(hk:k<3) x4 x5 x6 x7 x8 x9 jP ju iV jO iU kH jC kD su rU nP mQ nM:bE prog (FA P es clock (.br k)) (bf.at ⟨#[lp 5,lp 6,lp 7,lp 8,x4,x5,x6,x7,x8,x9,jP,ju,iV,jO,iU,kH,jC,kD,.int .i64 (k:Int),su,rU,nP,mQ,nM],[]⟩ [.code FY,.inLoop FY,.inBlock 2,.code (cr (cr (cr F)))]) [wall] v:=by
 have l7:v.cell? ⟨7,0,none⟩=some (.chan (some 4)):=h.row (i:=7) rfl 0;have HP:=η h;clear h;have Tt:((k:Int)<3):=by omega
 refine aq hFY (aF (c':=.region _ _ _) rfl ?_);go_wp2_with fail;show bE _ _ _ _ _;refine aq akU (ba (t:=true) rfl (by simp[Act.eval,Tt]) (cR rfl (aq ark (cG arj ?_))));refine eh 1 [1] rfl rfl (by decide +kernel) ?_;show wpList _ _ _ [_] _ _;go_wp2_with fail;exact bt ⟨⟨_,_,_,_,_,_,_,_,_,_,_,_,_,_,_,_,_,_,rfl⟩,HP.o,hk⟩
def YG{g}(h:FA P es clock .fe g v):Term prog (FA P es clock (.br 0)) (dQ g (.tuple #[])) v:=by obtain⟨⟨x4,x5,x6,x7,x8,x9,jP,ju,iV,jO,iU,kH,jC,pb,su,rU,nP,mQ,nM,rfl⟩,h⟩:=h;unfold tCJ;rw[Cz (o:=⟨none,_,_,_,_,_⟩) rfl];show Term _ _ (gu (bf.at ⟨#[lp 5,lp 6,lp 7,lp 8,x4,x5,x6,x7,x8,x9,jP,ju,iV,jO,iU,kH,jC,.chan (some 2),pb,su,rU,nP,mQ,nM],[]⟩ _) _) v;refine dn bo (λg w τ n (h:FA P es clock (.br 0) g w)=>h.re τ n) rfl λτ n=>?_;have h:iy (v.re τ n) (Hf es clock):=h;generalize v.re τ n=v at h;have HP:=η h;clear h;refine Tp.bP (aq ari (aq hFy (aF (c':=.region _ _ _) rfl ?_)));go_wp2_with fail;show bE _ _ _ _ _;refine cG arh (gM arf ?_);exact YF (k:=0) HP.o (by omega) _ _ _ _ _ _ _ _ _ _ _ _ _ _ _ _ _ _ _
def ab3{k g} z(hk:k<2)(h:FA P es clock (.br k) g v):Term prog (FA P es clock (.br (k+1))) (Go.Conc.served g z) v:=by
 obtain⟨⟨x4,x5,x6,x7,x8,x9,jP,ju,iV,jO,iU,kH,jC,kD,su,nP,mQ,nM,rfl⟩,h,_⟩:=h;unfold tRD;rw[iN (o:=⟨some 21,_,_,_,_,_⟩) rfl];show Term _ _ (gu (bf.at ⟨#[lp 5,lp 6,lp 7,lp 8,x4,x5,x6,x7,x8,x9,jP,ju,iV,jO,iU,kH,jC,kD,.int .i64 (k:Int),su,.chan (some 4),z,mQ,nM],[]⟩ _) _) v;refine dn bo (λg w τ n (h:FA P es clock (.br (k+1)) g w)=>h.re τ n) rfl λτ n=>?_;have h:iy (v.re τ n) (Hf es clock):=h;generalize v.re τ n=v at h;have HP:=η h;clear h;have hw:wrap64 ((k:Int)+1)=((k+1:Nat):Int):=by unfold wrap64;omega
 refine Tp.bP (Tp.dK (aF (c':=.region _ _ _) rfl ?_));go_wp2_with fail;show bE _ _ _ _ _;refine Tp.eN ?_;first|rw[hw]|skip
 exact YF (k:=k+1) HP.o (by omega) _ _ _ _ _ _ _ _ _ _ _ _ _ _ _ _ _ _ _
def agv{g} z(h:FA P es clock (.br 2) g v):Term prog (FA P es clock .dh) (Go.Conc.served g z) v:=by obtain⟨⟨x4,x5,x6,x7,x8,x9,jP,ju,iV,jO,iU,kH,jC,kD,su,nP,mQ,nM,rfl⟩,h,_⟩:=h;unfold tRD;rw[iN (o:=⟨some 21,_,_,_,_,_⟩) rfl];show Term _ _ (gu (bf.at ⟨#[lp 5,lp 6,lp 7,lp 8,x4,x5,x6,x7,x8,x9,jP,ju,iV,jO,iU,kH,jC,kD,.int .i64 2,su,.chan (some 4),z,mQ,nM],[]⟩ _) _) v;refine dn bo (λg w τ n (h:FA P es clock .dh g w)=>h.re τ n) rfl λτ n=>?_;have h:iy (v.re τ n) (Hf es clock):=h;generalize v.re τ n=v at h;have l8:v.cell? ⟨8,0,none⟩=some (.chan (some 3)):=h.row (i:=8) rfl 0;have HP:=η h;clear h;refine Tp.bP (Tp.dK (aF (c':=.region _ _ _) rfl ?_));go_wp2_with fail;show bE _ _ _ _ _;refine Tp.eN (aq hFY (aF (c':=.region _ _ _) rfl ?_));go_wp2_with fail;show bE _ _ _ _ _;refine aq akU (ba (t:=false) rfl (by simp[Act.eval]) (gN rfl rfl ?_));refine eh 1 [1] rfl rfl (by decide +kernel) ?_;show wpList _ _ _ [_] _ _;go_wp2_with fail;exact bt ⟨⟨_,_,_,_,_,_,_,_,_,_,_,_,_,_,_,_,_,_,_,rfl⟩,HP.o⟩
end
end Ph
namespace Ph
open Go.Conc Rn bd
open Go.RowKit
open Tp (bG bo Term Ld bE bt bR da gu)
noncomputable def M:Code:=cb Tryz.f45
noncomputable def M4:Code:=cr (cr (cr (cr M)))
noncomputable def MX:Code:=ci (ci (cr (cl M4)))
noncomputable def M8:Code:=cr M4
noncomputable def M9:Code:=cr M8
noncomputable def ZD:Code:=cr M9
noncomputable def MY:Code:=ci (ci (cr (cl ZD)))
noncomputable def M14:Code:=cr ZD
def bm:Frame:={(default:Frame)with fn:=45,kind:=.normal}
def Hs(kd:List UInt8):List Obj:=[eY,eY,eY,eY,eY,fz [vA] 74,fz (aL kd) 89,fz [.chan (some 2)] 145,fz [.chan (some 3)] 146,fz [.chan (some 4)] 147]
noncomputable def tG:List Item:=[.inRegion (co (ci (cl (cr (cr MX))))) [1],.inBlock 1,.code (cr (cr (cr MX))),.inLoop MX,.inBlock 0,.code M8]
noncomputable def tG3:List Item:=[.inRegion (co (cl M8)) [1],.code M9]
noncomputable def tRR:List Item:=[.inRegion (co (cl MY)) [0,1],.code (cr MY),.inLoop MY,.inBlock 2,.code M14]
def bN(kd t:List UInt8):List UInt8:=En.IL (cC.Mr (En.yL kd) (En.yK kd) (Mk.ak t))
def SA(kd:List UInt8):ko (List UInt8)->Goroutine->World->Prop
 |.spawn k=>λg v=>((k<3/\∃x0 x1 x4 x8 x9 jP ju iV iU jC kD pb su rU nP mQ nM Dl Dk Dj Di Dh Dg Df De ym y3 yZ,g=gu (bm.at ⟨#[x0,x1,lp 5,lp 6,x4,lp 7,lp 8,lp 9,x8,x9,jP,ju,iV,.int .i64 (k:Int),iU,.func (.func 87) #[] #[lp 7,lp 8,lp 6,lp 9],jC,kD,pb,su,rU,nP,mQ,nM,Dl,Dk,Dj,Di,Dh,Dg,Df,De,ym,y3,yZ],[]⟩ tG) [wall])∨(k=3/\∃x0 x1 x4 x8 x9 jP ju iV jO iU kH jC pb su rU nP mQ nM Dl Dk Dj Di Dh Dg Df De ym y3 yZ,g=gu (bm.at ⟨#[x0,x1,lp 5,lp 6,x4,lp 7,lp 8,lp 9,x8,x9,jP,ju,iV,jO,iU,kH,jC,.func (.func 88) #[] #[lp 5,lp 7,lp 9,lp 8],pb,su,rU,nP,mQ,nM,Dl,Dk,Dj,Di,Dh,Dg,Df,De,ym,y3,yZ],[]⟩ tG3) [wall]))/\iy v (Hs kd)/\v.heap.size=10|.aZ bD=>λg v=>(∃x0 x1 x4 x9 jP ju iV jO iU kH jC kD pb rU nP mQ nM Dl Dk Dj Di Dh Dg Df De ym y3 yZ,g=gu (bm.at ⟨#[x0,x1,lp 5,lp 6,x4,lp 7,lp 8,lp 9,.map (some 10),x9,jP,ju,iV,jO,iU,kH,jC,kD,pb,.chan (some 3),rU,nP,mQ,nM,Dl,Dk,Dj,Di,Dh,Dg,Df,De,ym,y3,yZ],[]⟩ tRR) [wall])/\iy v (Hs kd)/\nL v 11 10 (bN kd) bD/\bD.length<=1000|_=>λ_ _=>False
def SA.re{kd c g v}(h:SA kd c g v) τ n:SA kd c g (v.re τ n):=by cases c<;>exact h
def hM4:M4=.seq (cl M4) (cr M4):=rfl
def ara:cl M4=.seq (cl (cl M4)) (cr (cl M4)):=rfl
def arb:cr (cl M4)=.block 0 (ci (cr (cl M4))):=rfl
def aq9:ci (cr (cl M4))=.loop MX:=rfl
def hMX:MX=.seq (cl MX) (cr MX):=rfl
def agj:cr MX=.seq (cl (cr MX)) (cr (cr MX)):=rfl
def akL:cr (cr MX)=.seq (cl (cr (cr MX))) (cr (cr (cr MX))):=rfl
def akK:cl (cr (cr MX))=.block 1 (ci (cl (cr (cr MX)))):=rfl
def hM8:M8=.seq (cl M8) M9:=rfl
def hM9:M9=.seq (cl M9) ZD:=rfl
def arc:ZD=.seq (cl ZD) M14:=rfl
def akP:cl ZD=.seq (cl (cl ZD)) (cr (cl ZD)):=rfl
def akQ:cr (cl ZD)=.block 2 (ci (cr (cl ZD))):=rfl
def akO:ci (cr (cl ZD))=.loop MY:=rfl
def hMY:MY=.seq (cl MY) (cr MY):=rfl
def akJ:cr MY=.seq (cl (cr MY)) (cr (cr MY)):=rfl
def aq7:cr (cr MY)=.block 3 (ci (cr (cr MY))):=rfl
def aq6:ci (cr (cr MY))=.seq (cl (ci (cr (cr MY)))) (cr (ci (cr (cr MY)))):=rfl
def Ve{P ev o w w' t m k x}(ho:o.op=.mapUpdate t m k x)(h:(Instr.mapUpdate t (ev m) (ev k) (ev x)).run P w=.ok () w'):(execOp ev o).run P w=.ok .skip w':=by unfold execOp;simp only[ho,Sem.run_bind,h,Result.andThen_ok,Sem.run_pure]
def QJ:List Value:=.string (str [])::db
def dH(kd t:List UInt8):List Value:=.string (str (bN kd t))::ai t
def aee:QJ.toArray=#[.string (str []),.string (str []),.int .u8 0,.int .u8 0,.int .u8 0,.int .u8 0,.int .u8 0,.int .u8 0,.int .u8 0,.int .u8 0,.int .u8 0,.int .u8 0,.int .u8 0,.int .u8 0,.int .u8 0,.int .u8 0,.int .u8 0,.int .u8 0,.int .u8 0,.int .u8 0,.int .u8 0,.int .u8 0,.int .u8 0,.int .u8 0,.int .u8 0,.int .u8 0,.int .u8 0,.int .u8 0,.int .u8 0,.int .u8 0,.int .u8 0,.int .u8 0,.int .u8 0,.int .u8 0]:=by kernel_rfl
def ab1:QJ.length=34:=by unfold QJ;rw[List.length_cons,bp]
def ye kd t:(dH kd t).length=34:=by unfold dH;rw[List.length_cons,aC]
def Lb kd t:(dH kd t).all (·.oneCell')=true:=by unfold dH;rw[List.all_cons,Bool.and_eq_true];exact⟨rfl,aX t⟩
def aff:(prog.info? 149).map (·.size)=some 34:=by kernel_rfl
section
variable{kd:List UInt8}{v:World}
def aeD(h:iy v (Hs kd))(hs:v.heap.size=10){k}(hk:k<3) x0 x1 x4 x8 x9 jP ju iV iU kH jC kD pb su rU nP mQ nM Dl Dk Dj Di Dh Dg Df De ym y3 yZ:bE prog (SA kd (.spawn k)) (bm.at ⟨#[x0,x1,lp 5,lp 6,x4,lp 7,lp 8,lp 9,x8,x9,jP,ju,iV,.int .i64 (k:Int),iU,kH,jC,kD,pb,su,rU,nP,mQ,nM,Dl,Dk,Dj,Di,Dh,Dg,Df,De,ym,y3,yZ],[]⟩ [.code MX,.inLoop MX,.inBlock 0,.code M8]) [wall] v:=by
 have HP:=η h;have HS:=η hs;clear h hs;have Tt:((k:Int)<3):=by omega
 refine aq hMX (aF (c':=.region _ _ _) rfl ?_);go_wp2_with fail;show bE _ _ _ _ _;refine aq agj (ba (t:=true) rfl (by simp[Act.eval,Tt]) (cR rfl (aq akL (cG akK ?_))));refine eh 1 [1] rfl rfl (by decide +kernel) ?_;show wpList _ _ _ [_] _ _;go_wp2_with fail;exact bt ⟨.inl ⟨hk,_,_,_,_,_,_,_,_,_,_,_,_,_,_,_,_,_,_,_,_,_,_,_,_,_,_,_,_,rfl⟩,HP.o,HS.o⟩
def aeB{k g}(hk:k<3)(h:SA kd (.spawn k) g v):Term prog (SA kd (.spawn (k+1))) (dQ g undef) v:=by
 obtain⟨⟨_,x0,x1,x4,x8,x9,jP,ju,iV,iU,jC,kD,pb,su,rU,nP,mQ,nM,Dl,Dk,Dj,Di,Dh,Dg,Df,De,ym,y3,yZ,rfl⟩|⟨DO,_⟩,h,hs⟩:=h;case inr=>omega
 unfold tG;rw[Cz (o:=⟨none,_,_,_,_,_⟩) rfl];show Term _ _ (gu (bm.at ⟨#[x0,x1,lp 5,lp 6,x4,lp 7,lp 8,lp 9,x8,x9,jP,ju,iV,.int .i64 (k:Int),iU,.func (.func 87) #[] #[lp 7,lp 8,lp 6,lp 9],jC,kD,pb,su,rU,nP,mQ,nM,Dl,Dk,Dj,Di,Dh,Dg,Df,De,ym,y3,yZ],[]⟩ _) _) v;refine dn bo (λg w τ n (h:SA kd (.spawn (k+1)) g w)=>h.re τ n) rfl λτ n=>?_;have h:iy (v.re τ n) (Hs kd):=h;have hs:(v.re τ n).heap.size=10:=hs;generalize v.re τ n=v at h hs;have HP:=η h;have HS:=η hs;clear h hs;have hw:wrap64 ((k:Int)+1)=((k+1:Nat):Int):=by unfold wrap64;omega
 refine Tp.bP (Tp.dK (aF (c':=.region _ _ _) rfl ?_));go_wp2_with fail;show bE _ _ _ _ _;refine Tp.eN ?_;by_cases wE:k<2;first|rw[hw]|skip
 exact aeD (k:=k+1) HP.o HS.o (by omega) _ _ _ _ _ _ _ _ _ _ _ _ _ _ _ _ _ _ _ _ _ _ _ _ _ _ _ _ _;obtain rfl:k=2:=by omega
 refine aq hMX (aF (c':=.region _ _ _) rfl ?_);go_wp2_with fail;show bE _ _ _ _ _;refine aq agj (ba (t:=false) rfl (by simp[Act.eval]) (gN rfl rfl ?_));refine aq hM8 (eh 1 [1] rfl rfl (by decide +kernel) ?_);show wpList _ _ _ [_] _ _;go_wp2_with fail;exact bt ⟨.inr ⟨rfl,_,_,_,_,_,_,_,_,_,_,_,_,_,_,_,_,_,_,_,_,_,_,_,_,_,_,_,_,_,rfl⟩,HP.o,HS.o⟩
def Pu(h:iy v (Hs kd)){bD:List (List UInt8)}(ho:nL v 11 10 (bN kd) bD)(hn:bD.length<=1000)(x0 x1 x4 x9 jP ju iV jO iU kH jC kD pb rU nP mQ nM Dl Dk Dj Di Dh Dg Df De ym y3 yZ:Value):bE prog (SA kd (.aZ bD)) (bm.at ⟨#[x0,x1,lp 5,lp 6,x4,lp 7,lp 8,lp 9,.map (some 10),x9,jP,ju,iV,jO,iU,kH,jC,kD,pb,.chan (some 3),rU,nP,mQ,nM,Dl,Dk,Dj,Di,Dh,Dg,Df,De,ym,y3,yZ],[]⟩ [.code MY,.inLoop MY,.inBlock 2,.code M14]) [wall] v:=by refine aq hMY ?_;refine wY (s:=0) (r:=[0,1]) rfl rfl ?_;show bE _ _ _ _ _;exact bt ⟨⟨_,_,_,_,_,_,_,_,_,_,_,_,_,_,_,_,_,_,_,_,_,_,_,_,_,_,_,_,rfl⟩,h,ho,hn⟩
def ain{g}(h:SA kd (.spawn 3) g v):Term prog (SA kd (.aZ [])) (dQ g undef) v:=by
 obtain⟨⟨hk,_⟩|⟨_,x0,x1,x4,x8,x9,jP,ju,iV,jO,iU,kH,jC,pb,su,rU,nP,mQ,nM,Dl,Dk,Dj,Di,Dh,Dg,Df,De,ym,y3,yZ,rfl⟩,h,hs⟩:=h;case inl=>omega
 unfold tG3;rw[Cz (o:=⟨none,_,_,_,_,_⟩) rfl];show Term _ _ (gu (bm.at ⟨#[x0,x1,lp 5,lp 6,x4,lp 7,lp 8,lp 9,x8,x9,jP,ju,iV,jO,iU,kH,jC,.func (.func 88) #[] #[lp 5,lp 7,lp 9,lp 8],pb,su,rU,nP,mQ,nM,Dl,Dk,Dj,Di,Dh,Dg,Df,De,ym,y3,yZ],[]⟩ _) _) v;refine dn bo (λg w τ n (h:SA kd (.aZ []) g w)=>h.re τ n) rfl λτ n=>?_;have h:iy (v.re τ n) (Hs kd):=h;have hs:(v.re τ n).heap.size=10:=hs;generalize v.re τ n=v at h hs;have HP:=η h;have HS:=η hs;clear h hs;have hmm:=@run_makeMap prog;refine Tp.bP (aq hM9 (aF (c':=.region _ _ _) rfl ?_));go_wp2_with fail;show bE _ _ (bm.at ⟨#[_,_,_,_,_,_,_,_,.map (some v.heap.size),_,_,_,_,_,_,_,_,_,_,_,_,_,_,_,_,_,_,_,_,_,_,_,_,_,_],[]⟩ _) _ _;rw[HS.o];have h1:iy (v.alloc (.map #[] 0)) (Hs kd):=HP.o.alloc _;have O1:nL (v.alloc (.map #[] 0)) 11 10 (bN kd) []:=nL.nil _ _ _ _ (by rw[<-HS.o];exact(MapKept.heap_alloc v _).1);have H1:=η h1;have H2:=η O1;clear HP HS hmm h1 O1;generalize v.alloc _=v1 at H1 H2|-;have l8:v1.cell? ⟨8,0,none⟩=some (.chan (some 3)):=H1.o.row (i:=8) rfl 0;refine aq arc (aq akP (aF (c':=.region _ _ _) rfl ?_));go_wp2_with fail;show bE _ _ _ _ _;refine cG akQ (gM akO ?_);exact Pu H1.o H2.o (by simp) _ _ _ _ _ _ _ _ _ _ _ _ _ _ _ _ _ _ _ _ _ _ _ _ _ _ _ _
def s_tail{t s bD w4 A Z es clock K}(hn:(t::bD).length<=1000)(hs:bN kd t=s)(hP:iy w4 (Hs kd))(hR:Row w4 A (dH kd t)) (hK:Slot w4 11 10 (bN kd) bD s es clock K) (aM:∀g,(nT K s).ownBlock=some g->g<A) (hZ:Row w4 Z (ai t)) (hZs:w4.heap.size=Z+1) x0 x1 x4 jP ju iV jO iU kH jC kD pb y3 yZ:wpAnyH prog .any (co (cr (ci (cr (cr MY))))) (Tp.pN λa' w'=>bE prog (SA kd (.aZ (t::bD))) (bm.at a' [.inBlock 3,.inLoop MY,.inBlock 2,.code M14]) [wall] w') (ax.cls λu=>Row u A (dH kd t)) 2 #[true,true,true,true,true,true,true,true,true,true,false,false] ⟨#[x0,x1,lp 5,lp 6,x4,lp 7,lp 8,lp 9,.map (some 10),.pointer (some ⟨A,0,none⟩),jP,ju,iV,jO,iU,kH,jC,kD,pb,.chan (some 3),.tuple #[.agg (dH kd t).toArray,.bool true],.bool true,.agg (dH kd t).toArray,.map (some 10),.pointer (some ⟨A,0,none⟩),.string (str s),.map (some 10),.pointer (some ⟨A,0,none⟩),.string (str s),nT K s,.pointer (some ⟨A,1,none⟩),F8 t,.slice (some ⟨Z,0,none⟩) 1 1,y3,yZ],[]⟩ w4:=by
 obtain⟨i0,fP,oL,kP,ik⟩:=info_parts qX;have HI:=η fP;have HP:=η hP;have HK:=η hK;have HR:=η hR;have HZ:=η hZ;have HE:=η hs;have hO:=hK.own;have Qt:(gZ (bN kd) bD s).length<=1000:=Nat.le_trans (List.length_filter_le _ _) (by simp at hn|-;omega);have hcz:∀(j:Nat)(u:Value),(ai t)[j]? =some u->w4.cell? ((⟨Z,0,none⟩:Addr).add j)=some u:=λj u hu=>by rw[Addr.add_lit,Nat.zero_add,hZ.cell];exact hu
 have UY:10<w4.heap.size:=(Array.getElem?_eq_some_iff.1 hK.at_).1;have hAz:=hR.lt;clear fP hP hK hR hZ hs;show wpAnyH _ _ #[_,_,_,_,_,_,_,_,_,_,_,_] _ _ _ _ _ _;refine ax.one 10 _ (by kernel_rfl) rfl rfl ?_;refine wpList_append_own_at _ (o:=⟨some 33,_,_,_,_,_⟩) rfl _ _ 42 rfl 11 78 i0 (.agg db.toArray) 33 48 underlying42 HI.o oL kP ik (by rw[Value.cells,List.size_toArray,bp]) (by decide) _ _ _ rfl hO ⟨Z,0,none⟩ 1 1 (ai t) rfl (by rw[aC]) hcz (λu hu=>List.all_eq_true.1 (aX t) u hu) (by unfold maxLen;omega) (by omega) (by omega) ?_;intro v5 w5 jB sZ _ lR;go_frame;go_wp2_with fail;have ado:∀g,(nT K s).ownBlock=some g->11<=g:=λg hg=>(hO.lt g hg).1;have k10:w5.heap[10]? =w4.heap[10]?:=sZ.block 10 UY (λe=>by have:=ado _ e.symm;omega);have kA:w5.heap[A]? =w4.heap[A]?:=sZ.block A hAz (λe=>by have:=aM _ e.symm;omega);have R5:Row w5 A (dH kd t):=by obtain⟨T,hT⟩:=HR.o;exact⟨T,kA.trans hT⟩
 refine⟨ax.aj R5,?_⟩;have P5:iy w5 (Hs kd):=HP.o.keep λb hb=>sZ.block b (Nat.lt_of_lt_of_le hb HP.o.le) (λe=>by have:=ado _ e.symm;have:b<10:=hb;omega);obtain⟨iI,lO,hu,IU⟩:=aag (w:=w5) (m:=10) (K:=K) (k10.trans HK.o.at_) HK.o.key s v5;have OUT:nL {w5 with heap:=w5.heap.setIfInBounds 10 (.map iI lO)} 11 10 (bN kd) (t::bD):=by
  have hKt:Slot w4 11 10 (bN kd) bD (bN kd t) es clock K:=by rw[HE.o];exact HK.o
  have hee:s=bN kd t:=HE.o.symm;rw[hee]at sZ jB lR IU;exact hKt.put sZ jB (lR.imp id λe=>⟨_,e,ν⟩) IU
 have az5:10<w5.heap.size:=Nat.lt_of_lt_of_le UY sZ.size;have P6:iy {w5 with heap:=w5.heap.setIfInBounds 10 (.map iI lO)} (Hs kd):=P5.keep λb hb=>by have:b<10:=hb;show(w5.heap.setIfInBounds 10 _)[b]? =_;rw[Array.getElem?_setIfInBounds_ne (by omega)]
 have arG:A≠10:=λe=>by subst e;obtain⟨T,hT⟩:=HR.o;rw[HK.o.at_]at hT;cases hT
 have R6:Row {w5 with heap:=w5.heap.setIfInBounds 10 (.map iI lO)} A (dH kd t):=by obtain⟨T,hT⟩:=R5;exact⟨T,by show(w5.heap.setIfInBounds 10 _)[A]? =_;rw[Array.getElem?_setIfInBounds_ne (Ne.symm arG)];exact hT⟩
 refine ax.one 11 _ (by kernel_rfl) rfl rfl ?_;refine Fh (o:=⟨none,.mapUpdate 101 (.tmp 23) (.tmp 25) (.tmp 33),_,_,_,_⟩) rfl (Ve rfl hu) ?_;go_wp2_with fail;refine⟨ax.aj R6,?_⟩;refine wpAnyH_done (by kernel_rfl) ?_ 0;show bE _ _ _ _ _;refine Tp.dK (Tp.eN ?_);exact Pu P6 OUT hn _ _ _ _ _ _ _ _ _ _ _ _ _ _ _ _ _ _ _ _ _ _ _ _ _ _ _ _
def aeC{t bD g}(hn:(t::bD).length<=1000)(h:SA kd (.aZ bD) g v):Term prog (SA kd (.aZ (t::bD))) (Go.Conc.served g (.tuple #[.agg (dH kd t).toArray,.bool true])) v:=by
 obtain⟨⟨x0,x1,x4,x9,jP,ju,iV,jO,iU,kH,jC,kD,pb,rU,nP,mQ,nM,Dl,Dk,Dj,Di,Dh,Dg,Df,De,ym,y3,yZ,rfl⟩,h,ho,_⟩:=h;unfold tRR;rw[iN (o:=⟨some 20,_,_,_,_,_⟩) rfl];show Term _ _ (gu (bm.at ⟨#[x0,x1,lp 5,lp 6,x4,lp 7,lp 8,lp 9,.map (some 10),x9,jP,ju,iV,jO,iU,kH,jC,kD,pb,.chan (some 3),.tuple #[.agg (dH kd t).toArray,.bool true],nP,mQ,nM,Dl,Dk,Dj,Di,Dh,Dg,Df,De,ym,y3,yZ],[]⟩ _) _) v;refine dn bo (λg w τ n (h:SA kd (.aZ (t::bD)) g w)=>h.re τ n) rfl λτ n=>?_;have h:iy (v.re τ n) (Hs kd):=h;have ho:nL (v.re τ n) 11 10 (bN kd) bD:=ho;generalize v.re τ n=v at h ho;refine Tp.jM (o:=⟨some 21,_,_,_,_,_⟩) (v:=.bool true) rfl rfl rfl ?_;show bE _ _ (bm.at ⟨#[x0,x1,lp 5,lp 6,x4,lp 7,lp 8,lp 9,.map (some 10),x9,jP,ju,iV,jO,iU,kH,jC,kD,pb,.chan (some 3),.tuple #[.agg (dH kd t).toArray,.bool true],.bool true,mQ,nM,Dl,Dk,Dj,Di,Dh,Dg,Df,De,ym,y3,yZ],[]⟩ _) _ _;refine Tp.bP (aq akJ (ba (t:=true) rfl rfl (cR rfl (cG aq7 (aq aq6 ?_)))));obtain⟨es,clock,K,hK⟩:=ho.slot (bN kd t);have aM:∀g,(nT K (bN kd t)).ownBlock=some g->g<v.heap.size:=λg hg=>(hK.own.lt g hg).2;have UY:10<v.heap.size:=(Array.getElem?_eq_some_iff.1 hK.at_).1;have r1:Row (v.alloc (.cells QJ.toArray 149)) v.heap.size QJ:=Row.new v QJ 149;have hB:Below v.heap.size v (v.alloc (.cells QJ.toArray 149)):=(Below.refl _ _).alloc ν _;have B1:=η (below_setRow hB ν (dH kd t).toArray);have H2:=r1.setRow (dH kd t);rw[aee]at r1 hB B1 H2;have H1:=r1;have HP:=η h;have HK:=η hK;have HLT:=η aM;clear r1 hB h ho hK aM;refine aF (c':=.region _ _ _) rfl ?_;go_wp2_with (with_reducible refine au (o:=⟨none,_,_,_,_,_⟩) rfl _ _ _ rfl v.heap.size QJ (dH kd t) rfl rfl H1 (aff.trans (by rw[ye])) (by rw[ye,ab1]) (Lb kd t) ?_);clear H1;have P2:iy _ (Hs kd):=HP.o.below B1.o HP.o.le;have K2:Slot _ 11 10 (bN kd) bD (bN kd t) es clock K:=HK.o.below B1.o ν;obtain⟨A,hA⟩:∃A,v.heap.size=A:=⟨_,rfl⟩;rw[hA]at B1 H2 P2 K2 UY HLT|-;clear B1 HP HK hA;generalize World.setRow _ A (dH kd t).toArray=w2 at H2 P2 K2|-;obtain⟨s,hs⟩:∃s,bN kd t=s:=⟨_,rfl⟩;rw[hs]at K2 HLT;have DM:∀u:ax.Of (λu=>Row u A (dH kd t)),u.w.cell? ⟨A,0,none⟩=some (.string (str s)):=λu=>by rw[u.h.cell,<-hs];rfl
 haveI bZ:Nonempty (ax.Of (λu=>Row u A (dH kd t))):=⟨⟨w2,H2⟩⟩;have HK2:=η K2;have HP2:=η P2;have HE:=η hs;clear K2 P2 hs;show bE _ _ _ _ _;refine aF (c':=.region _ _ _) rfl ?_;refine ax.bA [0,1,2,3,4,5,7,8] 4 mixed (by kernel_rfl) rfl rfl (λc a d v w h=>h) (by as_aux_lemma=>kernel_rfl) rfl (λu=>Row u A (dH kd t)) H2 ?_;show wpQuiet _ _ _ _ [_,_,_,_,_,_,_,_] _;iterate 7 (go_big_quiet_step (fail))
 refine Mp.AH (o:=⟨some 31,_,_,_,_,_⟩) rfl _ rfl A 1 t rfl (λw hw=>by obtain⟨u,rfl⟩:=hw;exact λj x hx=>by rw[u.h.cell];show(Value.string (str (bN kd t))::ai t)[1+j]? =_;rw[Nat.add_comm];exact hx) ?_;go_frame;refine wpQuiet_nil ?_;have K3:Slot w2.drew 11 10 (bN kd) bD s es clock K:=HK2.o.below (w':=w2.drew) (C:=w2.heap.size) ⟨rfl,rfl,rfl,ν,λ_ _=>rfl⟩ ν;have P3:iy w2.drew (Hs kd):=HP2.o;have R3:Row w2.drew A (dH kd t):=H2;clear H2 HK2 HP2;show wpAnyH _ _ _ _ _ _ _ _ w2.drew;generalize w2.drew=w3 at R3 K3 P3|-;have Yp:=R3.lt;have B4:Below w3.heap.size w3 (w3.alloc (.cells (ai t).toArray 78)):=(Below.refl _ _).alloc ν _;have R4:=R3.alloc (.cells (ai t).toArray 78);have Z4:Row (w3.alloc (.cells (ai t).toArray 78)) w3.heap.size (ai t):=Row.new w3 (ai t) _;have z4:(w3.alloc (.cells (ai t).toArray 78)).heap.size=w3.heap.size+1:=by simp
 have K4:=K3.below B4 ν;have P4:=P3.below B4 P3.le;have L3:=η (Bz K3.at_ K3.key s);have L4:=η (Bz K4.at_ K4.key s);have HK4:=η K4;have HP4:=η P4;have HR3:=η R3;have HR4:=η R4;have HZ4:=η Z4;clear B4 R3 R4 Z4 K3 K4 P3 P4;refine ax.two 6 9 _ _ (by kernel_rfl) rfl rfl rfl rfl ?_ ?_
 ·refine lG (o:=⟨some 29,.lookup 101 (.tmp 26) (.tmp 28) false,_,_,_,_⟩) rfl (v:=nT K s) (w':=w3) (ax.sV rfl L3.o) ?_;try go_frame
  go_wp2_with fail;refine⟨ax.aj HR3.o,?_⟩;refine ax.one 9 _ (by kernel_rfl) rfl rfl ?_
  try go_frame
  refine gL (o:=⟨some 32,_,_,_,_,_⟩) rfl _ rfl t rfl ?_;go_frame;go_wp2_with fail;refine⟨ax.aj HR4.o,?_⟩;exact s_tail hn HE.o HP4.o HR4.o HK4.o HLT.o HZ4.o z4 _ _ _ _ _ _ _ _ _ _ _ _ _ _
 refine gL (o:=⟨some 32,_,_,_,_,_⟩) rfl _ rfl t rfl ?_;try go_frame
 go_wp2_with fail;refine⟨ax.aj HR4.o,?_⟩;refine ax.one 6 _ (by kernel_rfl) rfl rfl ?_
 refine lG (o:=⟨some 29,.lookup 101 (.tmp 26) (.tmp 28) false,_,_,_,_⟩) rfl (v:=nT K s) (w':=w3.alloc _) (ax.sV rfl L4.o) ?_;try go_frame
 go_wp2_with fail;refine⟨ax.aj HR4.o,?_⟩;exact s_tail hn HE.o HP4.o HR4.o HK4.o HLT.o HZ4.o z4 _ _ _ _ _ _ _ _ _ _ _ _ _ _
end
end Ph
namespace Ph
open Go.Conc Rn bd
open Go.RowKit
open Tp (bG bo Term Ld gu)
def fl:List Nat:=[39,67,109,75,110,87,88]
def PE(J R D:Nat):Env:=⟨5,λr=>if r=2 then some J else if r=3 then some R else if r=4 then some D else none,λf=>f∈fl⟩
def PA(kd:List UInt8)(P:List (List UInt8))(es:Array MapEntry)(clock:Nat):ko (List UInt8)->Goroutine->World->Prop
 |.bg=>WA kd .bg|.b8 t=>WA kd (.b8 t)|.fi=>WA kd .fi|.feed _=>λ_ _=>False|.cT t rem=>FA P es clock (.cT t rem)|.fe=>FA P es clock .fe|.br k=>FA P es clock (.br k)|.dh=>FA P es clock .dh|.spawn k=>SA kd (.spawn k)|.aZ bD=>SA kd (.aZ bD)
def PN(kd:List UInt8)(P:List (List UInt8))(es:Array MapEntry)(clock J R D:Nat):Net (List UInt8):=⟨J,R,D,F8,fvT kd,.agg #[],.agg db.toArray,.agg QJ.toArray,.agg #[],PA kd P es clock,λ_=>True⟩
noncomputable def adU(f:Nat):Bool:=match prog.funcs[f]? with
 |some fn=>(match fn.body with
  |some b=>lN prog fl b
  |none=>false)&& !(fn.name== "runtime.NumGoroutine")
 |none=>false
def alf:fl.all adU=true:=by kernel_rfl
def QG{f}(hf:f∈fl):∃fn b,prog.funcs[f]? =some fn/\fn.body=some b/\lN prog fl b=true/\(fn.name== "runtime.NumGoroutine")=false:=by
 have:=List.all_eq_true.1 alf f hf;unfold adU at this;cases h1:prog.funcs[f]? with
 |none=>rw[h1]at this;cases this
 |some fn=>
 rw[h1]at this;dsimp only at this;cases h2:fn.body with
 |none=>rw[h2]at this;cases this
 |some b=>rw[h2]at this;dsimp only at this;rw[Bool.and_eq_true]at this;exact⟨fn,b,rfl,h2,this.1,by simpa using this.2⟩
noncomputable def aiF:Item->Bool
 |.code c=>lN prog fl c|.inBlock _=>true|.inLoop b=>lN prog fl b|.inRegion ops _=>ops.toList.all (aeJ prog fl)|_=>false
section
variable{J R D:Nat}
def aa6:∀f∈fl,(PE J R D).F f:=λ_ h=>h
def W6{l}(h:l.all aiF=true):fA prog (PE J R D) l:=λx hx=>by rw[List.all_eq_true]at h;have hb:=h x hx;cases x with|code c=>exact ir prog fl aa6 hb|inBlock _=>trivial|inLoop b=>exact ir prog fl aa6 hb|inRegion ops l=>exact ir prog fl aa6 (c:=.region 0 ops false) hb|_=>cases hb
def QP:∀f fn b,(PE J R D).F f->prog.funcs[f]? =some fn->fn.body=some b->gB prog (PE J R D) b:=λf fn b hf h1 h2=>by obtain⟨fn',b',e1,e2,e3,_⟩:=QG hf;rw[h1]at e1;cases e1;rw[h2]at e2;cases e2;exact ir prog fl aa6 e3
def agB:Z8 prog (PE J R D):=λf fn hf h1=>by obtain⟨fn',b',e1,e2,_,e4⟩:=QG hf;rw[h1]at e1;cases e1;exact⟨by rw[e2];rfl,e4⟩
def YV:∀r b,(PE J R D).C r=some b->r<5:=λr b h=>by show r<5;have h':(if r=2 then some J else if r=3 then some R else if r=4 then some D else none)=some b:=h;split at h';omega;split at h';omega;split at h';omega;cases h'
def mA{X Rs}{b:Frame}{a k cs ops i l o g'}(h:GR prog (PE J R D) X Rs (gu (b.at a (.inRegion ops (i::l)::k)) cs) g')(ho:ops[i]? =some o)(hg:o.guard=none):yY g'.frame o/\(∀x,QX (PE J R D) x->Rn.V (PE J R D) X (a.eval x) (g'.frame.eval x))/\g'=⟨g'.frame,g'.callers,.running,none,g'.offers⟩/\g'.frame.kind=b.kind:=by obtain⟨hr,hd,hf,_⟩:=h;refine⟨⟨hf.mode,hf.round.2,hg,ops,i,l,k,hf.todo,ho⟩,λx hx=>?_,?_,hf.kind⟩;have:=hf.eval x hx;rwa[Frame.eval_at]at this;obtain⟨fr,fy,st,dy,off⟩:=g';dsimp only at hr hd|-;rw[hr.2,hd.2]
def pt{X r b v}(h:Rn.V (PE J R D) X (.chan (some r)) v)(hr:(PE J R D).C r=some b):v=.chan (some b):=by cases h with|chan _ b' h'=>rw[hr]at h';rw[Option.some.inj h']
def iQ:∀l (i:Nat)(v),(w8 l)[i]? =some v->Exact v:=λl i v h=>by unfold w8 at h;rw[List.getElem?_map]at h;obtain⟨x,_,rfl⟩:=Option.map_eq_some_iff.1 h;exact .int _ _
def lM{l:List Value}(h:∀(i:Nat) v,l[i]? =some v->Exact v):Exact (.agg l.toArray):=.agg _ λi v hv=>h i v (by simpa using hv)
def iH{x l}(hx:Exact x)(h:∀(i:Nat) v,l[i]? =some v->Exact v):∀(i:Nat) v,(x::l)[i]? =some v->Exact v:=λi v hv=>by
 cases i with
 |zero=>cases hv;exact hx
 |succ i=>exact h i v (by simpa using hv)
def Cv t:Exact (F8 t):=lM (iH (.string _) (iQ _))
def Fy:Exact (.agg db.toArray):=lM (iH (.string _) (iQ _))
def Lf kd t:Exact (fvT kd t):=lM (iH (.string _) (iH (.string _) (iQ _)))
def T8:Exact (.agg QJ.toArray):=lM (iH (.string _) (iH (.string _) (iQ _)))
def Fz:Exact (.agg #[]):=.agg _ λi v hv=>by simp at hv
def Ws{b:Frame}{a ops l k cs}:¬yV (gu (b.at a (.inRegion ops l::k)) cs):=λh=>by rcases h.bad with⟨_,h⟩|⟨_,_,_,h⟩<;>cases h
section
variable{kd:List UInt8}{P:List (List UInt8)}{es:Array MapEntry}{clock:Nat}
def Ep{g' o}(h:yY g'.frame o){b xs ts}(ho:o.op=.call ⟨.builtin b,xs,ts⟩):mayWake prog g'=true:=by obtain⟨ops,i,l,k,h1,h2⟩:=h.todo;unfold mayWake;rw[h.mode,h1];dsimp only;rw[h2];simp only[Option.map_some,ho]
def PA.re{c g v}(h:PA kd P es clock c g v) τ n:PA kd P es clock c g (v.re τ n):=by cases c with|feed=>exact h|bg=>exact WA.re (c:=.bg) h τ n|b8 t=>exact WA.re (c:=.b8 t) h τ n|fi=>exact WA.re (c:=.fi) h τ n|cT t r=>exact FA.re (c:=.cT t r) h τ n|fe=>exact FA.re (P:=P) (c:=.fe) h τ n|br k=>exact FA.re (P:=P) (c:=.br k) h τ n|dh=>exact FA.re (P:=P) (c:=.dh) h τ n|spawn k=>exact SA.re (c:=.spawn k) h τ n|aZ bD=>exact SA.re (c:=.aZ bD) h τ n
def PA.head{c g v}(h:PA kd P es clock c g v):∃b a ops l k,g=gu (Frame.at b a (.inRegion ops l::k)) [wall]:=by
 cases c with
 |feed=>exact h.elim|bg=>obtain⟨⟨_,_,_,_,_,_,_,_,_,_,_,_,_,rfl⟩,_⟩:=h;exact⟨_,_,_,_,_,rfl⟩
 |b8 t=>obtain⟨⟨_,_,_,_,_,_,_,_,_,_,_,rfl⟩,_⟩:=h;exact⟨_,_,_,_,_,rfl⟩
 |fi=>obtain⟨⟨_,_,_,_,_,_,_,_,_,_,_,rfl⟩,_⟩:=h;exact⟨_,_,_,_,_,rfl⟩
 |cT t r=>obtain⟨⟨_,_,_,_,_,_,_,_,_,_,_,_,_,_,_,_,_,rfl⟩,_⟩:=h;exact⟨_,_,_,_,_,rfl⟩
 |fe=>obtain⟨⟨_,_,_,_,_,_,_,_,_,_,_,_,_,_,_,_,_,_,_,rfl⟩,_⟩:=h;exact⟨_,_,_,_,_,rfl⟩
 |br k=>obtain⟨⟨_,_,_,_,_,_,_,_,_,_,_,_,_,_,_,_,_,_,rfl⟩,_⟩:=h;exact⟨_,_,_,_,_,rfl⟩
 |dh=>obtain⟨⟨_,_,_,_,_,_,_,_,_,_,_,_,_,_,_,_,_,_,_,rfl⟩,_⟩:=h;exact⟨_,_,_,_,_,rfl⟩
 |spawn k=>obtain⟨⟨_,_,_,_,_,_,_,_,_,_,_,_,_,_,_,_,_,_,_,_,_,_,_,_,_,_,_,_,_,rfl⟩|⟨_,_,_,_,_,_,_,_,_,_,_,_,_,_,_,_,_,_,_,_,_,_,_,_,_,_,_,_,_,_,rfl⟩,_⟩:=h;exact⟨_,_,_,_,_,rfl⟩;exact⟨_,_,_,_,_,rfl⟩
 |aZ bD=>obtain⟨⟨_,_,_,_,_,_,_,_,_,_,_,_,_,_,_,_,_,_,_,_,_,_,_,_,_,_,_,_,rfl⟩,_⟩:=h;exact⟨_,_,_,_,_,rfl⟩
def PA.Rm{c g v}(h:PA kd P es clock c g v):¬yV g:=by obtain⟨b,a,ops,l,k,rfl⟩:=h.head;exact Ws
def G6{t z}(h:(prog.info? t).map (·.zero)=some (some z)):∃i,prog.info? t=some i/\i.zero=some z:=by
 cases hi:prog.info? t with
 |none=>rw[hi]at h;cases h
 |some i=>rw[hi]at h;exact⟨i,rfl,Option.some.inj h⟩
def agK c X Rs g v g'(hc:c.Vu=true)(h:PA kd P es clock c g v)(hg:GR prog (PE J R D) X Rs g g') b w:stepG prog b g' w=.comm {g' with status:=.running,offers:=none} ((PN kd P es clock J R D).cases c) true ((PN kd P es clock J R D).shape c) w #[]:=by
 cases c with
 |bg=>obtain⟨⟨_,_,_,_,_,_,_,_,_,_,_,_,_,rfl⟩,_⟩:=h;obtain⟨h1,h2,h3,_⟩:=mA (o:=⟨some 6,.recv 145 (.tmp 5) true,_,_,_,_⟩) hg rfl rfl;obtain⟨i,hi,hz⟩:=G6 (t:=78) (z:=.agg db.toArray) (by kernel_rfl);have e1:=pt (h2 (.tmp 5) trivial) (b:=J) rfl;rw[h3,h1.recv rfl (by kernel_rfl:prog.underlying 145=some (.chan .both 78)) hi hz,e1];rfl
 |b8 t=>obtain⟨⟨_,_,_,_,_,_,_,_,_,_,_,rfl⟩,_⟩:=h;obtain⟨h1,h2,h3,_⟩:=mA (o:=⟨none,.send (.tmp 9) (.tmp 15),_,_,_,_⟩) hg rfl rfl;have e1:=pt (h2 (.tmp 9) trivial) (b:=R) rfl;have e2:=(Lf kd t).eq (h2 (.tmp 15) trivial);rw[h3,h1.send rfl,e1,e2];rfl
 |fi=>obtain⟨⟨_,_,_,_,_,_,_,_,_,_,_,rfl⟩,_⟩:=h;obtain⟨h1,h2,h3,_⟩:=mA (o:=⟨none,.send (.tmp 16) (.tmp 17),_,_,_,_⟩) hg rfl rfl;have e1:=pt (h2 (.tmp 16) trivial) (b:=D) rfl;have e2:=Fz.eq (h2 (.tmp 17) trivial);rw[h3,h1.send rfl,e1,e2];rfl
 |cT t r=>obtain⟨⟨_,_,_,_,_,_,_,_,_,_,_,_,_,_,_,_,_,rfl⟩,_⟩:=h;obtain⟨h1,h2,h3,_⟩:=mA (o:=⟨none,.send (.tmp 15) (.tmp 16),_,_,_,_⟩) hg rfl rfl;have e1:=pt (h2 (.tmp 15) trivial) (b:=J) rfl;have e2:=(Cv t).eq (h2 (.tmp 16) trivial);rw[h3,h1.send rfl,e1,e2];rfl
 |br k=>obtain⟨⟨_,_,_,_,_,_,_,_,_,_,_,_,_,_,_,_,_,_,rfl⟩,_⟩:=h;obtain⟨h1,h2,h3,_⟩:=mA (o:=⟨some 21,.recv 147 (.tmp 20) false,_,_,_,_⟩) hg rfl rfl;obtain⟨i,hi,hz⟩:=G6 (t:=150) (z:=.agg #[]) (by kernel_rfl);have e1:=pt (h2 (.tmp 20) trivial) (b:=D) rfl;rw[h3,h1.recv rfl (by kernel_rfl:prog.underlying 147=some (.chan .both 150)) hi hz,e1];rfl
 |aZ bD=>obtain⟨⟨_,_,_,_,_,_,_,_,_,_,_,_,_,_,_,_,_,_,_,_,_,_,_,_,_,_,_,_,rfl⟩,_⟩:=h;obtain⟨h1,h2,h3,_⟩:=mA (o:=⟨some 20,.recv 146 (.tmp 19) true,_,_,_,_⟩) hg rfl rfl;obtain⟨i,hi,hz⟩:=G6 (t:=149) (z:=.agg QJ.toArray) (by kernel_rfl);have e1:=pt (h2 (.tmp 19) trivial) (b:=R) rfl;rw[h3,h1.recv rfl (by kernel_rfl:prog.underlying 146=some (.chan .both 149)) hi hz,e1];rfl
 |_=>cases hc
def YS c ch X Rs g v g'(hc:c=.fe/\ch=J∨c=.dh/\ch=R)(h:PA kd P es clock c g v)(hg:GR prog (PE J R D) X Rs g g'):mayWake prog g'=true/\∀b w s r,w.heap[ch]? =some (.chan 0 #[] false s r false)->stepG prog b g' w=.go (dQ g' (.tuple #[])) {w with heap:=w.heap.setIfInBounds ch (.chan 0 #[] true s r false)} #[⟨.obj ch,false,true⟩,⟨.obj ch,true,true⟩]:=by rcases hc with⟨rfl,rfl⟩|⟨rfl,rfl⟩;obtain⟨⟨_,_,_,_,_,_,_,_,_,_,_,_,_,_,_,_,_,_,_,rfl⟩,_⟩:=h;obtain⟨h1,h2,h3,h4⟩:=mA (o:=⟨none,.call ⟨.builtin .close,#[.tmp 17],_⟩,_,_,_,_⟩) hg rfl rfl;have e1:=pt (h2 (.tmp 17) trivial) (b:=ch) rfl;refine⟨Ep h1 rfl,λb w s r Qw=>?_⟩;rw[h3,h1.close rfl e1 (by rw[h4];exact λe=>by cases e) _ _ _ _ Qw];rfl;obtain⟨⟨_,_,_,_,_,_,_,_,_,_,_,_,_,_,_,_,_,_,_,rfl⟩,_⟩:=h;obtain⟨h1,h2,h3,h4⟩:=mA (o:=⟨none,.call ⟨.builtin .close,#[.tmp 23],_⟩,_,_,_,_⟩) hg rfl rfl;have e1:=pt (h2 (.tmp 23) trivial) (b:=ch) rfl;refine⟨Ep h1 rfl,λb w s r Qw=>?_⟩;rw[h3,h1.close rfl e1 (by rw[h4];exact λe=>by cases e) _ _ _ _ Qw];rfl
def Vc{X f}{l:List (Nat×Nat)}{u}(h:Rn.V (PE J R D) X (.func (.func f) #[] (l.map λp=>lp p.1).toArray) u)(hX:∀p∈l,5<=p.1/\X[p.1-5]? =some p.2):u=.func (.func f) #[] (l.map λp=>lp p.2).toArray:=by
 cases h with
 |func _ _ a' _ c' hF h1 h2 h3 h4=>
 have ha:a'=#[]:=Array.eq_empty_of_size_eq_zero (by rw[<-h1];rfl);subst ha;congr 1;apply Array.ext_getElem?;intro i;by_cases hi:i<l.length;have hl:(l.map λp=>lp p.1).toArray[i]? =some (lp l[i].1):=by simp[hi]
 have hc:i<c'.size:=by rw[<-h3];simpa using hi
 have hv:=h4 i _ _ hl (Array.getElem?_eq_getElem hc);have hr:(l.map λp=>lp p.2).toArray[i]? =some (lp l[i].2):=by simp[hi]
 rw[Array.getElem?_eq_getElem hc,hr];obtain⟨_,hx⟩:=hX l[i] (List.getElem_mem hi);generalize c'[i]=y at hv;cases hv with|ptr r b o sp oN=>have:=oN.2;rw[show l[i].1-(PE J R D).G=l[i].1-5 from rfl,hx]at this;rw[Option.some.inj this]
 rw[Array.getElem?_eq_none (by rw[<-h3];simpa using hi),Array.getElem?_eq_none (by simpa using hi)]
def VE cp ck cj cr cd n k X Rs g v g'(hX:∃Y,X=[cp,ck,cj,cr,cd]++Y)(hk:k<=3)(h:PA kd P es clock (.spawn k) g v)(hg:GR prog (PE J R D) X Rs g g') b w:stepG prog b g' w=.spawn (dQ g' undef) (jo prog ⟨.fn (.func (if n+k<n+3 then 87 else 88)) (if n+k<n+3 then #[lp cj,lp cr,lp ck,lp cd]else #[lp cp,lp cj,lp cd,lp cr]),#[]⟩) w #[]:=by obtain⟨Y,rfl⟩:=hX;obtain⟨⟨DO,_,_,_,_,_,_,_,_,_,_,_,_,_,_,_,_,_,_,_,_,_,_,_,_,_,_,_,_,rfl⟩|⟨rfl,_,_,_,_,_,_,_,_,_,_,_,_,_,_,_,_,_,_,_,_,_,_,_,_,_,_,_,_,_,rfl⟩,_⟩:=h;obtain⟨h1,h2,h3,_⟩:=mA (o:=⟨none,.go ⟨.value (.tmp 15),#[],#[]⟩,_,_,_,_⟩) hg rfl rfl;have e1:=Vc (l:=[(7,cj),(8,cr),(6,ck),(9,cd)]) (h2 (.tmp 15) trivial) (by intro p hp;simp only[List.mem_cons,List.not_mem_nil,or_false]at hp;rcases hp with rfl|rfl|rfl|rfl<;>exact⟨by dsimp only;omega,rfl⟩);rw[h3,h1.go rfl e1,if_pos (by omega),if_pos (by omega)];rfl;obtain⟨h1,h2,h3,_⟩:=mA (o:=⟨none,.go ⟨.value (.tmp 17),#[],#[]⟩,_,_,_,_⟩) hg rfl rfl;have e1:=Vc (l:=[(5,cp),(7,cj),(9,cd),(8,cr)]) (h2 (.tmp 17) trivial) (by intro p hp;simp only[List.mem_cons,List.not_mem_nil,or_false]at hp;rcases hp with rfl|rfl|rfl|rfl<;>exact⟨by dsimp only;omega,rfl⟩);rw[h3,h1.go rfl e1,if_neg (by omega),if_neg (by omega)];rfl
end
end
end Ph
namespace Ph
open Go.Conc Rn bd
open Go.RowKit
open Tp (bG bo Term Ld gu)
structure Bn where
 cp:Nat
 ck:Nat
 cj:Nat
 cr:Nat
 cd:Nat
 rb:Nat
 mb:Nat
 J:Nat
 R:Nat
 D:Nat
def Bn.Sh(N:Bn)(b:Nat):Prop:=b=N.cp∨b=N.ck∨b=N.cj∨b=N.cr∨b=N.cd∨b=N.rb
def Bn.X0(N:Bn):List Nat:=[N.cp,N.ck,N.cj,N.cr,N.cd]
def Bn.Xw(N:Bn):List Nat:=[N.cj,N.cr,N.ck,N.cd]
def Bn.Xf(N:Bn):List Nat:=[N.cp,N.cj,N.cd,N.cr,N.rb,N.mb]
def lw(w:World)(l:List Obj):World:={w with heap:=l.toArray}
noncomputable def PS(kd:List UInt8)(P:List (List UInt8))(es:Array MapEntry)(clock:Nat)(N:Bn)(cs:List Frame)(w:World):Setup (List UInt8) where
 P:=prog;E:=PE N.J N.R N.D;Sh:=N.Sh;N:=PN kd P es clock N.J N.R N.D;cs:=cs;fw:=87;ff:=88;aw:=#[lp N.cj,lp N.cr,lp N.ck,lp N.cd];af:=#[lp N.cp,lp N.cj,lp N.cd,lp N.cr];all:=P;g0:=gu (bm.at ⟨#[vA,.agg (aL kd).toArray,lp 5,lp 6,.map none,lp 7,lp 8,lp 9,undef,undef,.chan (some 2),.chan (some 3),.chan (some 4),.int .i64 0,.bool true,.func (.func 87) #[] #[lp 7,lp 8,lp 6,lp 9],undef,undef,undef,undef,undef,undef,undef,undef,undef,undef,undef,undef,undef,undef,undef,undef,undef,undef,undef],[]⟩ tG) [wall];gw:=gu (Frame.enter prog 87 #[lp 5,lp 6,lp 7,lp 8] .deferred) [wall];gf:=gu (Frame.enter prog 88 #[lp 5,lp 6,lp 7,lp 8] .deferred) [wall];v0:=lw w (Hs kd);vw:=lw w (Hw kd);vf:=lw w (Hf es clock);vn:=lw w [eY,eY,eY,eY,eY];X0:=N.X0;Xw:=N.Xw;Xf:=N.Xf
noncomputable def gR(kd:List UInt8)(N:Bn)(cs:List Frame):Goroutine:=gu (bm.at ⟨#[.pointer (some ⟨N.rb,0,none⟩),.agg (aL kd).toArray,lp N.cp,lp N.ck,.map none,lp N.cj,lp N.cr,lp N.cd,undef,undef,.chan (some N.J),.chan (some N.R),.chan (some N.D),.int .i64 0,.bool true,.func (.func 87) #[] #[lp N.cj,lp N.cr,lp N.ck,lp N.cd],undef,undef,undef,undef,undef,undef,undef,undef,undef,undef,undef,undef,undef,undef,undef,undef,undef,undef,undef],[]⟩ tG) cs
section
variable{kd:List UInt8}{P:List (List UInt8)}{es:Array MapEntry}{clock:Nat}{N:Bn}{cs:List Frame}{w:World}
def uV{E X Rs fr g'}(h:GR prog E X Rs (gu fr [wall]) g'):g'.callers=Rs:=by
 obtain⟨cs,fy,e1,e2,hc⟩:=h.callers;have:cs=[]:=by
  have hl:[wall].length=(cs++[wall]).length:=by rw[<-e1]
  simp at hl;exact hl
 subst this;cases hc;simpa using e2
def JP{E X}{b:Frame}{a ops i fn g'}(h:GR prog E X [base prog] (gu (b.at a [.inRegion ops [i]]) [wall]) g')(hf:prog.funcs[b.fn]? =some fn)(hr:fn.results=#[])(hk:b.kind=.deferred) u:QuitsD prog 4 0 {g' with frame:=g'.frame.finish u,status:=.running,offers:=none}:=by have hc:=uV h;obtain⟨_,hd,fS,_⟩:=h;obtain⟨fr,fy,st,dy,off⟩:=g';dsimp only at hc hd fS|-;obtain⟨_,rfl⟩:=hd;subst hc;have hkd:fr.kind=.deferred:=fS.kind.trans hk;have Qr:fr.mode=.run:=fS.mode;have KA:fr.todo=[.inRegion ops [i]]:=fS.todo;have hdf:fr.defers=[]:=fS.defers.2;have kQ:fr.roundOf=none:=fS.round.2;have hfn:fr.fn=b.fn:=fS.fn;clear fS;obtain⟨f1,f2,f3,f4,f5,f6,f7⟩:=fr;dsimp only at hkd Qr KA hdf kQ hfn;subst hkd;subst Qr;subst KA;subst hdf;subst kQ;subst hfn;unfold Frame.finish;dsimp only;exact M0 (ops:=ops) hf hr rfl rfl rfl rfl rfl
def law(oZ:Pl.Up Mk.ak P)(h20:P.length<=1000)(n:Nat):yW ((PS kd P es clock N cs w).cfg n) where
 code:=QP;bo:=agB;ald:=by show prog.globals.size<=5;exact of_decide_eq_true (by kernel_rfl)
 YW:=YV;re:=λc g v τ n h=>PA.re h τ n;Rm:=λc g v h=>PA.Rm h;started:=λi h1 h2=>by show(if i<n+3 then _ else _)∈fl/\∃fn,prog.funcs[if i<n+3 then _ else _]? =some fn;split;obtain⟨fn,b,h,_⟩:=QG (f:=87) (by decide);exact⟨(by decide:87∈fl),fn,h⟩;obtain⟨fn,b,h,_⟩:=QG (f:=88) (by decide);exact⟨(by decide:88∈fl),fn,h⟩
 act:=λc X R g v g' hc h hg b w=>agK c X R g v g' hc h hg b w;CW:=λc ch X R g v g' hc h hg=>YS c ch X R g v g' hc h hg;app0:=λX Y ⟨Z,hZ⟩=>⟨Z++Y,by rw[hZ,List.append_assoc]⟩;LN:=λk X R g v g' hk hX h hg b w=>VE (P:=P) (es:=es) (clock:=clock) N.cp N.ck N.cj N.cr N.cd n k X R g v g' hX hk h hg b w;Md:=⟨λa=>(Cv a).clean,λa=>(Lf kd a).clean,Fz.clean,Fy.clean,T8.clean⟩;tx:=λ_ _ _ _ _=>trivial;Wy:=λa g v h _=>ael h;ac6:=λg v h=>ah8 h;Wu:=λa g v h=>aek h;Ww:=λX g v g' h hg=>by obtain⟨⟨_,_,_,_,_,_,_,_,_,_,_,rfl⟩,_⟩:=h;exact⟨4,JP hg func87 rfl rfl undef⟩
 Wv:=λa rem g v h=>agu oZ h;PX:=λg v h=>YG (P:=P) h;Nl:=λk g v hk h=>ab3 (P:=P) _ hk h;GM:=λg v h=>agv (P:=P) _ h;PW:=λX g v g' h hg=>by obtain⟨⟨_,_,_,_,_,_,_,_,_,_,_,_,_,_,_,_,_,_,_,rfl⟩,_⟩:=h;exact⟨4,JP hg func88 rfl rfl _⟩
 Wt:=λk g v hk h=>aeB hk h;PV:=λg v h=>ain h;Wx:=λa bD g v hn h=>aeC (Nat.le_trans hn h20) h
end
end Ph
namespace Ph
open Go.Conc Rn bd
open Go.RowKit
open Tp (bG bo Term Ld gu)
section
variable{E:Env}{X:List Nat}
inductive VL(E:Env)(X:List Nat):List Value->List Value->Prop
 |nil:VL E X [] []
 |cons {a b:Value} {l m:List Value} (h:Rn.V E X a b) (t:VL E X l m):VL E X (a::l) (b::m)
def VL.length{l m}(h:VL E X l m):l.length=m.length:=by induction h with|nil=>rfl|cons _ _ ih=>simp[ih]
def VL.get{l m}(h:VL E X l m):∀(i:Nat)(a b),l[i]? =some a->m[i]? =some b->Rn.V E X a b:=by
 induction h with
 |nil=>intro i a b h;simp at h|cons h _ ih=>
 intro i a b h1 h2;cases i with
 |zero=>cases h1;cases h2;exact h
 |succ i=>exact ih i a b (by simpa using h1) (by simpa using h2)
def VL.va{l m}(h:VL E X l m):VA E X l.toArray m.toArray:=⟨by simpa using h.length,λi v v' h1 h2=>h.get i v v' (by simpa using h1) (by simpa using h2)⟩
def dC:Rn.V E X undef undef:=V.eI (VA.empty _)
def ah9 kd:Rn.V E X (.agg (aL kd).toArray) (.agg (aL kd).toArray):=Clean.self (.agg _ λi v hv=>by
 have Kz:(aL kd)[i]? =some v:=by simpa using hv
 unfold aL at Kz;match i,Kz with
 |0,h=>cases h;exact .int _ _
 |1,h=>cases h;exact .int _ _
 |i+2,h=>simp at h) _
def at_{J R D r b X}(h:5<=r)(h2:X[r-5]? =some b):At (PE J R D) X r b:=⟨h,h2⟩
def dP c t:∃c' e,fz c t=.cells c' e (0,c'.size):=⟨c.toArray,t,by simp[fz]⟩
def jl{c c' t}(h:VL E X c c'):mP E X (fz c t) (.cells c'.toArray t (0,0)):=.cells _ _ _ _ _ h.va (.inr (by simp))
def Pa{Sh:Nat->Prop}{w:World}{l:List Obj}(hG:E.G=5)(hs:l.length=5+X.length)(hj:∀i,i<5->l[i]? =some eY)(hn:X.Nodup)(yN:∀b,Sh b->b<w.heap.size) (h:∀(i b:Nat),X[i]? =some b->∃o o',l[5+i]? =some o/\w.heap[b]? =some o'/\mP E X o o'/\(Sh b->∃c e,o=.cells c e (0,c.size))):WR E Sh X ((lw w l).re w.tape w.drawn) w where
 size:=by show l.toArray.size=_;rw[hG];simpa using hs
 el:=λi b hb=>by obtain⟨o,o',h1,h2,h3,_⟩:=h i b hb;exact⟨o,o',by show l.toArray[E.G+i]? =_;rw[hG];simpa using h1,h2,h3⟩
 eY:=λr hr=>by show l.toArray[r]? =_;rw[hG]at hr;exact(by simpa using hj r hr:l.toArray[r]? =some eY)
 nodup:=hn;shared:=λi b hb Tl=>by obtain⟨o,o',h1,_,_,h4⟩:=h i b hb;obtain⟨c,e,rfl⟩:=h4 Tl;exact⟨c,e,by show l.toArray[E.G+i]? =_;rw[hG];simpa using h1⟩
 low:=yN;tape:=rfl;drawn:=rfl
end
def bn(B rb mb:Nat):Bn:=⟨B,B+1,B+3,B+5,B+7,rb,mb,B+2,B+4,B+6⟩
structure AtGo(kd:List UInt8)(es:Array MapEntry)(clock B rb mb:Nat)(w:World):Prop where
 size:w.heap.size=B+8
 hcp:w.heap[B]? =some (.cells #[.pointer (some ⟨rb,0,none⟩)] 74 (0,0))
 hck:w.heap[B+1]? =some (.cells (aL kd).toArray 89 (0,0))
 hJ:w.heap[B+2]? =some (.chan 0 #[] false 0 0 false)
 Oc:w.heap[B+3]? =some (.cells #[.chan (some (B+2))] 145 (0,0))
 hR:w.heap[B+4]? =some (.chan 0 #[] false 0 0 false)
 lV:w.heap[B+5]? =some (.cells #[.chan (some (B+4))] 146 (0,0))
 hD:w.heap[B+6]? =some (.chan 3 #[] false 0 0 false)
 hcd:w.heap[B+7]? =some (.cells #[.chan (some (B+6))] 147 (0,0))
 hrb:∃a b c,w.heap[rb]? =some (.cells #[.map (some mb),a,b,c] 44 (0,0))/\flat a/\flat b/\flat c
 NZ:w.heap[mb]? =some (.map es clock)
 rlt:rb<B
 mlt:mb<B
section
variable{kd:List UInt8}{P:List (List UInt8)}{es:Array MapEntry}{clock B rb mb:Nat}{cs:List Frame}{w:World}
def AtGo.ne(h:AtGo kd es clock B rb mb w):rb≠mb:=λe=>by obtain⟨a,b,c,h1,_⟩:=h.hrb;rw[e,h.NZ]at h1;cases h1
def Ib(h:AtGo kd es clock B rb mb w):∀b,(bn B rb mb).Sh b->b<w.heap.size:=λb hb=>by have h1:=h.size;have h2:=h.rlt;unfold Bn.Sh bn at hb;dsimp only at hb;omega
def Uo{p:Nat->Nat->Prop}{a b c d e}(h0:p 0 a)(h1:p 1 b)(h2:p 2 c)(h3:p 3 d)(h4:p 4 e):∀i x,[a,b,c,d,e][i]? =some x->p i x:=λi x hx=>by
 match i,hx with
 |0,h=>cases h;exact h0
 |1,h=>cases h;exact h1
 |2,h=>cases h;exact h2
 |3,h=>cases h;exact h3
 |4,h=>cases h;exact h4
 |i+5,h=>simp at h
def Uq{p:Nat->Nat->Prop}{a b c d}(h0:p 0 a)(h1:p 1 b)(h2:p 2 c)(h3:p 3 d):∀i x,[a,b,c,d][i]? =some x->p i x:=λi x hx=>by
 match i,hx with
 |0,h=>cases h;exact h0
 |1,h=>cases h;exact h1
 |2,h=>cases h;exact h2
 |3,h=>cases h;exact h3
 |i+4,h=>simp at h
def Un{p:Nat->Nat->Prop}{a b c d e f}(h0:p 0 a)(h1:p 1 b)(h2:p 2 c)(h3:p 3 d)(h4:p 4 e)(h5:p 5 f):∀i x,[a,b,c,d,e,f][i]? =some x->p i x:=λi x hx=>by
 match i,hx with
 |0,h=>cases h;exact h0
 |1,h=>cases h;exact h1
 |2,h=>cases h;exact h2
 |3,h=>cases h;exact h3
 |4,h=>cases h;exact h4
 |5,h=>cases h;exact h5
 |i+6,h=>simp at h
def Qa{l}:∀i,i<5->(eY::eY::eY::eY::eY::l)[i]? =some eY:=λi hi=>by
 match i,hi with
 |0,_=>rfl
 |1,_=>rfl
 |2,_=>rfl
 |3,_=>rfl
 |4,_=>rfl
def jf{X J R D r b}(h:(PE J R D).C r=some b):VL (PE J R D) X [.chan (some r)] [.chan (some b)]:=.cons (.chan _ _ h) .nil
def WW{E X}:VL E X (aL kd) (aL kd):=.cons (.int _ _) (.cons (.int _ _) .nil)
def wr0(h:AtGo kd es clock B rb mb w):WR (PE (B+2) (B+4) (B+6)) (bn B rb mb).Sh (bn B rb mb).X0 ((lw w (Hs kd)).re w.tape w.drawn) w:=by refine Pa rfl rfl Qa ?_ (Ib h) (Uo ?_ ?_ ?_ ?_ ?_);show [B,B+1,B+3,B+5,B+7].Nodup;simp only[List.nodup_cons,List.mem_cons,List.not_mem_nil,or_false,List.nodup_nil,and_true,not_false_eq_true];omega;exact⟨_,_,rfl,h.hcp,jl (.cons (.undef (.pointer (some ⟨rb,0,none⟩)) trivial) .nil),λ_=>dP _ _⟩;exact⟨_,_,rfl,h.hck,jl WW,λ_=>dP _ _⟩;exact⟨_,_,rfl,h.Oc,jl (jf rfl),λ_=>dP _ _⟩;exact⟨_,_,rfl,h.lV,jl (jf rfl),λ_=>dP _ _⟩;exact⟨_,_,rfl,h.hcd,jl (jf rfl),λ_=>dP _ _⟩
def wrw(h:AtGo kd es clock B rb mb w):WR (PE (B+2) (B+4) (B+6)) (bn B rb mb).Sh (bn B rb mb).Xw ((lw w (Hw kd)).re w.tape w.drawn) w:=by refine Pa rfl rfl Qa ?_ (Ib h) (Uq ?_ ?_ ?_ ?_);show [B+3,B+5,B+1,B+7].Nodup;simp only[List.nodup_cons,List.mem_cons,List.not_mem_nil,or_false,List.nodup_nil,and_true,not_false_eq_true];omega;exact⟨_,_,rfl,h.Oc,jl (jf rfl),λ_=>dP _ _⟩;exact⟨_,_,rfl,h.lV,jl (jf rfl),λ_=>dP _ _⟩;exact⟨_,_,rfl,h.hck,jl WW,λ_=>dP _ _⟩;exact⟨_,_,rfl,h.hcd,jl (jf rfl),λ_=>dP _ _⟩
def wrf(h:AtGo kd es clock B rb mb w)(ql:∀e∈es.toList,Rn.Clean e.key/\Rn.Clean e.val):WR (PE (B+2) (B+4) (B+6)) (bn B rb mb).Sh (bn B rb mb).Xf ((lw w (Hf es clock)).re w.tape w.drawn) w:=by have bZ:=h.ne;have hr:=h.rlt;have hm:=h.mlt;refine Pa rfl rfl Qa ?_ (Ib h) (Un ?_ ?_ ?_ ?_ ?_ ?_);show [B,B+3,B+7,B+5,rb,mb].Nodup;simp only[List.nodup_cons,List.mem_cons,List.not_mem_nil,or_false,List.nodup_nil,and_true,not_false_eq_true];omega;exact⟨_,_,rfl,h.hcp,jl (.cons (.ptr _ _ _ _ (at_ (by decide) rfl)) .nil),λ_=>dP _ _⟩;exact⟨_,_,rfl,h.Oc,jl (jf rfl),λ_=>dP _ _⟩;exact⟨_,_,rfl,h.hcd,jl (jf rfl),λ_=>dP _ _⟩;exact⟨_,_,rfl,h.lV,jl (jf rfl),λ_=>dP _ _⟩;obtain⟨a,b,c,h1,ha,hb,hc⟩:=h.hrb;exact⟨_,_,rfl,h1,jl (.cons (.map _ _ (at_ (by decide) rfl)) (.cons (.undef _ ha) (.cons (.undef _ hb) (.cons (.undef _ hc) .nil)))),λ_=>dP _ _⟩;refine⟨_,_,rfl,h.NZ,.map _ _ _ ⟨rfl,λi e e' h1 h2=>?_⟩,λnA=>?_⟩;rw[h1]at h2;cases h2;obtain⟨k1,k2⟩:=ql e (by simpa using Array.mem_of_getElem? h1);exact⟨k1.self _,k2.self _,rfl⟩;have ai6:(bn B rb mb).Sh mb:=nA;unfold Bn.Sh bn at ai6;dsimp only at ai6;omega
def wrn(h:AtGo kd es clock B rb mb w):WR (PE (B+2) (B+4) (B+6)) (bn B rb mb).Sh [] ((lw w [eY,eY,eY,eY,eY]).re w.tape w.drawn) w:=Pa rfl rfl Qa List.nodup_nil (Ib h) (λi b hb=>by simp at hb)
def aoV(N:Bn):Rn.V (PE N.J N.R N.D) N.X0 (.func (.func 87) #[] #[lp 7,lp 8,lp 6,lp 9]) (.func (.func 87) #[] #[lp N.cj,lp N.cr,lp N.ck,lp N.cd]):=by have hc:VA (PE N.J N.R N.D) N.X0 #[lp 7,lp 8,lp 6,lp 9] #[lp N.cj,lp N.cr,lp N.ck,lp N.cd]:=VL.va (.cons (.ptr _ _ _ _ (at_ (by decide) rfl)) (.cons (.ptr _ _ _ _ (at_ (by decide) rfl)) (.cons (.ptr _ _ _ _ (at_ (by decide) rfl)) (.cons (.ptr _ _ _ _ (at_ (by decide) rfl)) .nil))));exact .func _ _ _ _ _ (by show _∈fl;decide) rfl (VA.empty _).el hc.size hc.el
def Ys N:GR prog (PE N.J N.R N.D) N.X0 cs (gu (bm.at ⟨#[vA,.agg (aL kd).toArray,lp 5,lp 6,.map none,lp 7,lp 8,lp 9,undef,undef,.chan (some 2),.chan (some 3),.chan (some 4),.int .i64 0,.bool true,.func (.func 87) #[] #[lp 7,lp 8,lp 6,lp 9],undef,undef,undef,undef,undef,undef,undef,undef,undef,undef,undef,undef,undef,undef,undef,undef,undef,undef,undef],[]⟩ tG) [wall]) (gR kd N cs):=by refine⟨⟨rfl,rfl⟩,⟨rfl,rfl⟩,⟨rfl,rfl,W6 (by kernel_rfl),VL.va (.cons (.undef (.pointer (some ⟨N.rb,0,none⟩)) trivial) (.cons (ah9 kd) (.cons (.ptr _ _ _ _ (at_ (by decide) rfl)) (.cons (.ptr _ _ _ _ (at_ (by decide) rfl)) (.cons (.Bu) (.cons (.ptr _ _ _ _ (at_ (by decide) rfl)) (.cons (.ptr _ _ _ _ (at_ (by decide) rfl)) (.cons (.ptr _ _ _ _ (at_ (by decide) rfl)) (.cons (dC) (.cons (dC) (.cons (.chan _ _ rfl) (.cons (.chan _ _ rfl) (.cons (.chan _ _ rfl) (.cons (.int _ _) (.cons (.bool _) (.cons (aoV N) (.cons (dC) (.cons (dC) (.cons (dC) (.cons (dC) (.cons (dC) (.cons (dC) (.cons (dC) (.cons (dC) (.cons (dC) (.cons (dC) (.cons (dC) (.cons (dC) (.cons (dC) (.cons (dC) (.cons (dC) (.cons (dC) (.cons (dC) (.cons (dC) (.cons (dC) (.nil)))))))))))))))))))))))))))))))))))),⟨rfl,rfl⟩,rfl,.inl rfl,rfl,⟨rfl,rfl⟩⟩,[],[],rfl,rfl,.nil⟩
def KS(N:Bn)(X:List Nat)(f:FuncId)(hf:f∈fl){a a':List Value}(h:VL (PE N.J N.R N.D) X a a'):GR prog (PE N.J N.R N.D) X [base prog] (gu (Frame.enter prog f a.toArray .deferred) [wall]) (started prog f a'.toArray):=⟨⟨rfl,rfl⟩,⟨rfl,rfl⟩,zC.enter QP f hf h.va _ _ rfl,[],[],rfl,rfl,.nil⟩
def Wi{m m' n Dt}{w v:World}(h:w.ownsMap prog 76 Mp.zQ m n Dt)(hb:v.heap[m']? =w.heap[m]?):v.ownsMap prog 76 Mp.zQ m' n Dt:=by obtain⟨es,clock,h1,h2⟩:=h;exact⟨es,clock,hb.trans h1,h2⟩
def ready(h:AtGo kd es clock B rb mb w)(hM:Mp.Map w mb P)(ql:∀e∈es.toList,Rn.Clean e.key/\Rn.Clean e.val):Zw (PS kd P es clock (bn B rb mb) cs w) (gR kd (bn B rb mb) cs) w where
 law:=law hM.up (Nat.le_trans hM.le (by omega));gr0:=Ys _;acV:=.stop ⟨.inl ⟨by omega,_,_,_,_,_,_,_,_,_,_,_,_,_,_,_,_,_,_,_,_,_,_,_,_,_,_,_,_,rfl⟩,iy.mk _ _ rfl,rfl⟩;grw:=KS (bn B rb mb) _ _ (by decide) (.cons (.ptr _ _ _ _ (at_ (by decide) rfl)) (.cons (.ptr _ _ _ _ (at_ (by decide) rfl)) (.cons (.ptr _ _ _ _ (at_ (by decide) rfl)) (.cons (.ptr _ _ _ _ (at_ (by decide) rfl)) .nil))));acT:=aac (iy.mk _ _ rfl);grf:=KS (bn B rb mb) _ _ (by decide) (.cons (.ptr _ _ _ _ (at_ (by decide) rfl)) (.cons (.ptr _ _ _ _ (at_ (by decide) rfl)) (.cons (.ptr _ _ _ _ (at_ (by decide) rfl)) (.cons (.ptr _ _ _ _ (at_ (by decide) rfl)) .nil))));acU:=ab2 hM.up (iy.mk _ _ rfl) rfl (Wi hM.own h.NZ.symm);wr0:=wr0 h;wrw:=wrw h;wrf:=wrf h ql;wrn:=wrn h;d0w:=λb hb _=>by have pf:b∈[B,B+1,B+3,B+5,B+7]:=hb;simp only[List.mem_cons,List.not_mem_nil,or_false]at pf;show(bn B rb mb).Sh b;unfold Bn.Sh bn;dsimp only;omega
 d0f:=λb hb _=>by have pf:b∈[B,B+1,B+3,B+5,B+7]:=hb;simp only[List.mem_cons,List.not_mem_nil,or_false]at pf;show(bn B rb mb).Sh b;unfold Bn.Sh bn;dsimp only;omega
 dww:=λb hb=>by have pf:b∈[B+3,B+5,B+1,B+7]:=hb;simp only[List.mem_cons,List.not_mem_nil,or_false]at pf;show(bn B rb mb).Sh b;unfold Bn.Sh bn;dsimp only;omega
 Dm:=⟨_,_,h.hJ⟩;DZ:=⟨_,_,h.hR⟩;Hz:=h.hD;ne:=by show B+2≠B+4/\B+2≠B+6/\B+4≠B+6;omega
end
end Ph
namespace Ph
open Go.Conc Rn bd
open Go.RowKit
open Tp (bG bo Term Ld gu)
structure fU(B:Nat)(w w':World):Prop where
 os:w'.os=w.os
 output:w'.output=w.output
 size:w.heap.size<=w'.heap.size
 block:∀k,k<B->w'.heap[k]? =w.heap[k]?
theorem fU.trans{B w w' u9}(h:fU B w w')(h':fU B w' u9):fU B w u9:=⟨h'.os.trans h.os,h'.output.trans h.output,Nat.le_trans h.size h'.size,λk hk=>(h'.block k hk).trans (h.block k hk)⟩
def fU.mono{B C w w'}(h:fU B w w')(hc:C<=B):fU C w w':=⟨h.os,h.output,h.size,λk hk=>h.block k (by omega)⟩
def fU.of{B w w'}(h:Below B w w'):fU B w w':=⟨h.os,h.output,h.size,h.block⟩
section
variable{E:Env}{Sh:Nat->Prop}{X:List Nat}{v w:World}
def agF(hn:X.Nodup){g g' b}(h:At E X g b)(h':At E X g' b):g=g':=by have h1:=h.1;have h2:=h'.1;have aM:=(List.getElem?_eq_some_iff.1 h.2).1;have:=(List.getElem?_inj aM hn).1 (h.2.trans h'.2.symm);omega
def aaP(hw:WR E Sh X v w){B B'}(lK:∀g b,At E X g b->B'<=g->B<=b){e z n x x' xs}(hx:∀u∈xs,Exact u)(h0:0<n)(hz:0<z)(h:v.ownsRow B' e z x n xs)(hv:Rn.V E X x x'):w.ownsRow B e z x' n xs/\∃g b,x.ownBlock=some g/\x'.ownBlock=some b/\At E X g b:=by
 rcases h.2 with⟨_,hn⟩|⟨g,cap,cur,rfl,hb,hc,h1,h2,h3,h4⟩;omega;cases hv with
 |slice _ b off sp _ _ oN=>
 obtain⟨o,o',e1,e2,hr⟩:=hw.obj oN;rw[hc]at e1;cases e1;cases hr with
 |cells _ c' _ _ Hk hva hf=>
 have hcz:0<cur.size:=by rw[h3];exact Nat.mul_pos (by omega) hz
 have hfz:Hk=(0,0):=by rcases hf with hf|hf;exact hf;have:=(Prod.mk.inj hf).2;omega
 subst hfz;refine⟨⟨h.1,.inr ⟨b,cap,c',rfl,lK g b oN hb,e2,h1,h2,by rw[<-hva.size];exact h3,?_⟩⟩,g,b,rfl,rfl,oN⟩;rw[<-h4];apply List.ext_getElem?;intro i;rw[List.getElem?_take,List.getElem?_take];split;rename_i hi;rcases hva.get i with⟨y,y',e1,e2,hy⟩|⟨e1,e2⟩;have hm:y∈xs:=by rw[<-h4];refine List.mem_of_getElem? (i:=i) ?_;rw[List.getElem?_take,if_pos hi];simpa using e1
 have:=(hx y hm).eq hy;rw[Array.getElem?_toList,Array.getElem?_toList,e1,e2,this];rw[Array.getElem?_toList,Array.getElem?_toList,e1,e2];rfl
def TZ ts:∀u∈aJ ts,Exact u:=λu hu=>by unfold aJ at hu;obtain⟨l,hl,hm⟩:=List.mem_flatten.1 hu;obtain⟨t,_,rfl⟩:=List.mem_map.1 hl;obtain⟨i,hi⟩:=List.getElem?_of_mem hm;exact iH (.string _) (iQ _) i u hi
def Vb{x v'}(h:Rn.V E X (.string x) v'):v'=.string x:=by cases h;rfl
def Wj(hw:WR E Sh X v w){B B' m M}(lK:∀g b,At E X g b->B'<=g->B<=b){f bD}(h:nL v B' m f bD)(hm:At E X m M):nL w B M f bD:=by
 obtain⟨es,clock,K,h1,h2,h3,h4,h5,h6⟩:=h;obtain⟨o,o',e1,e2,hr⟩:=hw.obj hm;rw[h1]at e1;cases e1;cases hr with
 |map _ iI _ hma=>
 have hlen:es.toList.length=K.length:=by have:=congrArg List.length h2;simpa using this
 have adu:iI.toList.length=K.length:=by rw[<-hlen];simpa using hma.size.symm
 have mM:∀(i:Nat)(p':By×Value),((K.zip iI.toList).map λp=>(p.1.1,p.2.val))[i]? =some p'->∃p e',K[i]? =some p/\iI[i]? =some e'/\p'=(p.1,e'.val)/\Rn.V E X p.2 e'.val/\e'.key=.string (str p.1):=λi p' hp=>by
  rw[List.getElem?_map]at hp;obtain⟨q,hq,rfl⟩:=Option.map_eq_some_iff.1 hp;obtain⟨Tm,IQ⟩:=List.getElem?_zip_eq_some.1 hq;have Qv:iI[i]? =some q.2:=by simpa using IQ
  have hi:i<es.size:=by have:=(Array.getElem?_eq_some_iff.1 Qv).1;rw[hma.size];exact this
  have hkv:(es.toList.map λe=>(e.key,e.val))[i]? =(K.map sj)[i]?:=by rw[h2]
  rw[List.getElem?_map,List.getElem?_map,Tm,Array.getElem?_toList,Array.getElem?_eq_getElem hi]at hkv;have hp:=Option.some.inj hkv;have hme:=hma.el i es[i] q.2 (Array.getElem?_eq_getElem hi) Qv;have Ha:es[i].key=.string (str q.1.1):=(Prod.mk.inj hp).1;have mI:es[i].val=q.1.2:=(Prod.mk.inj hp).2;refine⟨q.1,q.2,Tm,Qv,rfl,by rw[<-mI];exact hme.val,?_⟩;have:=hme.key;rw[Ha]at this;exact Vb this
 have bQ:∀p'∈(K.zip iI.toList).map λp=>(p.1.1,p.2.val),∀(i:Nat),((K.zip iI.toList).map λp=>(p.1.1,p.2.val))[i]? =some p'->w.ownsRow B 78 33 p'.2 (gZ f bD p'.1).length (aJ (gZ f bD p'.1))/\∃p g b,K[i]? =some p/\p.2.ownBlock=some g/\p'.2.ownBlock=some b/\At E X g b:=λp' _ i hi=>by obtain⟨p,e',k1,k2,rfl,k4,_⟩:=mM i p' hi;have hpm:=List.mem_of_getElem? k1;obtain⟨t,ht,hf⟩:=(h4 p.1).1 (List.mem_map_of_mem hpm);have hn:0< (gZ f bD p.1).length:=List.length_pos_of_mem (a:=t) (by unfold gZ;simp[ht,hf]);obtain⟨r1,g,b,r2,r3,r4⟩:=aaP hw lK (TZ _) hn (by omega) (h5 p hpm) k4;exact⟨r1,p,g,b,k1,r2,r3,r4⟩
 have ajN:((K.zip iI.toList).map λp=>(p.1.1,p.2.val)).map (·.1)=K.map (·.1):=by rw[List.map_map];apply List.ext_getElem?;intro i;rw[List.getElem?_map,List.getElem?_map];by_cases hi:i<K.length;rw[List.getElem?_eq_getElem (by simpa[adu]using hi),List.getElem?_eq_getElem hi];simp;rw[List.getElem?_eq_none (by simp;omega),List.getElem?_eq_none (by omega)];rfl
 refine⟨iI,clock,_,e2,?_,by rw[ajN];exact h3,λs=>by rw[ajN];exact h4 s,λp' hp=>?_,λi j p q hp hq j9=>?_⟩;apply List.ext_getElem?;intro i;rw[List.getElem?_map,List.getElem?_map];by_cases hi:i<K.length;have hi2:i< ((K.zip iI.toList).map λp=>(p.1.1,p.2.val)).length:=by simp at adu|-;omega
 obtain⟨p,e',k1,k2,k3,_,k5⟩:=mM i _ (List.getElem?_eq_getElem hi2);rw[List.getElem?_eq_getElem hi2,Array.getElem?_toList,k2,k3];simp only[Option.map_some];unfold sj;rw[k5];rw[List.getElem?_eq_none (by omega),List.getElem?_eq_none (by simp;omega)];rfl;obtain⟨i,hi⟩:=List.getElem?_of_mem hp;exact(bQ p' hp i hi).1;obtain⟨_,p0,g,b,k1,k2,k3,k4⟩:=bQ p (List.mem_of_getElem? hp) i hp;obtain⟨_,q0,g',b',l1,l2,l3,l4⟩:=bQ q (List.mem_of_getElem? hq) j hq;rw[k3,l3];intro e;rw[Option.some.inj e]at k4;have:=agF hw.nodup k4 l4;have hd:=h6 i j p0 q0 k1 l1 j9;rw[k2,l2,this]at hd;exact hd rfl
end
end Ph
namespace Tp
open Go.Conc
open Go.ConcN (sumTo upd sumTo_upd upd_ne upd_same)
def AtRet(P:Program)(R:Value->World->Prop)(g:Goroutine)(w:World):Prop:=g.callers=[]/\P.inits.idxOf? g.frame.fn=none/\∃v,g.frame.leaving P w (.returned v)/\R v w
def Gl{P fn tmps v w}(h:(results fn tmps).run P w=.ok v w):(∀τ n,(results fn tmps).run P (w.re τ n)=.ok v (w.re τ n))/\∃es,IH es/\(∀x,deafBehind x es=x)/\∀τ n,(results fn tmps).runT P (w.re τ n) #[]=(.ok v (w.re τ n),es):=by
 have h0:=h;rcases(AN (P:=P) fn tmps).run w #[]with⟨k,i⟩|⟨u,w',iI,hh⟩;have hr:(results fn tmps).runT P w #[]=(.ok v w,((results fn tmps).runT P w #[]).2):=by rw[Sem.runT_eq,h]
 have hk:k=0:=by have:=i.drawn;rw[hr]at this;have e:w.drawn=w.drawn+k:=this;omega
 subst hk;have hs:=λτ n=>i.same τ n (λ_ hh=>absurd hh (Nat.not_lt_zero _));rw[hr]at hs;refine⟨λτ n=>?_,_,λe he m hm=>?_,λx=>?_,λτ n=>hs τ n⟩;have:=hs τ n;rw[Sem.runT_eq]at this;exact(Prod.mk.inj this).1;rcases i.low e (by rw[hr];exact he)with h1|h1;simp at h1;unfold oH at h1;rw[hm]at h1;exact h1;have:=i.Zc (by rw[hr];trivial) x rfl;rw[hr]at this;exact this;exfalso;have hr:((results fn tmps).runT P w #[]).1=.ok v w:=by rw[Sem.runT_eq,h]
 rw[hh]at hr;cases hr
def NG{P}{fr:Frame}{w v}(h:fr.leaving P w (.returned v)) τ n:fr.leaving P (w.re τ n) (.returned v):=by obtain⟨h1,h2,h3,fn,h4,h5⟩:=h;exact⟨h1,h2,h3,fn,h4,(Gl h5).1 τ n⟩
def S6{P g w v}(hr:g.status=.running)(hd:g.dying=none)(hc:g.callers=[])(hi:P.inits.idxOf? g.frame.fn=none)(h:g.frame.leaving P w (.returned v)):∃es,(∀x,deafBehind x es=x)/\stepG P true g w=.ended (.done v) w es:=by
 obtain⟨fr,cs,st,dy,off⟩:=g;dsimp only at hr hd hc hi h;subst hr;subst hd;subst hc;obtain⟨hm,hdf,hk,fn,hf,oA⟩:=h;obtain⟨_,es,h1,h2,h3⟩:=Gl oA;have h3:=h3 w.tape w.drawn;refine⟨seen P fr.fn es,λx=>(eZ P fr.fn h1 x).trans (h2 x),?_⟩;have e1:stepG P true ⟨fr,[],.running,none,off⟩ w=unwind P true fr [] none w:=by unfold stepG;simp only[hm]
 rw[e1];unfold unwind;have h3':(results fn fr.tmps).runT P w #[]=(.ok v w,es):=h3;simp only[hm,hdf,hf,h3'];unfold doReturn;simp only[hk,hi];simp[GStep.after]
def YD{P R}(hR:∀v w d,R v w->R v (w.at d)){a w}(h:Dp P (λg u=>Fit g/\AtRet P R g u) a w):∃N last o w' t',runNT P (N+1) (solo a w) #[]=(.ended o w',t')/\runN P N (solo a w)=.next last/\step P last=.ended o w'/\Go.Conc.Good P R last o w' t':=by
 obtain⟨N,gs,a',w',sl,t,q,cD,h0,hL,hP,Oa,hS⟩:=h #[a] none #[] (λ_=>0) rfl (leavers_one P a) Sy;have hr:a'.status=.running:=Oa.1.run;have key:∀(M:Nat)(gs:Array Goroutine)(sl:Option (Nat×Nat))(t:Trace)(q:Nat->Nat)(e:Nat),sumTo gs.size q<=M->gs[0]? =some a'->Leavers P t gs q->iw t->
   ∃N last o w2 t',runNT P (N+1) (crowd gs (w'.at e) sl) t=(.ended o w2,t')/\runN P N (crowd gs (w'.at e) sl)=.next last/\step P last=.ended o w2/\Go.Conc.Good P R last o w2 t':=by
  have main:∀(gs:Array Goroutine)(sl pB:Option (Nat×Nat))(t:Trace)(q:Nat->Nat)(e d:Nat),gs[0]? =some a'->Leavers P t gs q->iw t->stepT P (crowd gs (w'.at e) sl)=runT P (crowd gs ((w'.at e).at d) pB) 0->
    ∃N last o w2 t',runNT P (N+1) (crowd gs (w'.at e) sl) t=(.ended o w2,t')/\runN P N (crowd gs (w'.at e) sl)=.next last/\step P last=.ended o w2/\Go.Conc.Good P R last o w2 t':=by
   intro gs sl pB t q e d h0 hL hP aS;obtain⟨hc,hi,v,hl,hv⟩:=hS;have ZT:a'.frame.leaving P ((w'.at e).at d) (.returned v):=NG hl w'.tape d;obtain⟨es,IU,abI⟩:=S6 hr Oa.2 hc hi ZT;have XA:=runT_many_ended (P:=P) (sl:=pB) (i:=0) h0 (show stepG P (0==0) a' ((w'.at e).at d)=_ from abI);have bY:∀op∈MemOp.ofEvents 0 a'.frame.fn a'.frame.place es,op.g=0:=λop cI=>by obtain⟨e,_,rfl⟩:=Go.Conc.mem_ofEvents cI;rfl
   have hP':=hP.app0 bY (jZ IU t);have hs:stepT P (crowd gs (w'.at e) sl)=(.ended (.done v) ((w'.at e).at d),MemOp.ofEvents 0 a'.frame.fn a'.frame.place es):=aS.trans XA;refine⟨0,crowd gs (w'.at e) sl,.done v,(w'.at e).at d,t++MemOp.ofEvents 0 a'.frame.fn a'.frame.place es,?_,rfl,?_,v,rfl,hR _ _ _ (hR _ _ _ hv),hP'.clean,hP'.over,⟨λx hx=>?_,rfl⟩,λj x hx hj=>?_⟩
   ·simp only[runNT,hs]
   ·show(stepT P _).1=_;rw[hs]
   ·obtain⟨j,hj⟩:=List.mem_iff_getElem?.1 hx;rw[List.getElem?_drop]at hj;exact⟨_,(hL.old (1+j) x (by omega) (by simpa[crowd]using hj)).leaves⟩
   ·have hq:=hL.old j x (by omega) hx
    refine⟨q j,?_⟩;have e:(t++MemOp.ofEvents 0 a'.frame.fn a'.frame.place es).deaf j (t++MemOp.ofEvents 0 a'.frame.fn a'.frame.place es).size=Deaf t j:=
     Deaf_other t (g:=j) (g':=0) (by omega) _ bY
    rw[e];exact hq.hears _
  intro M;induction M with
  |zero=>
   intro gs sl t q e hM h0 hL hP;obtain⟨i,g,d,pB,hi,hg,aS⟩:=crowd_pick (P:=P) (w:=w'.at e) (sl:=sl) (ru hL h0 hr) ⟨0,a',h0,hr⟩;rcases Nat.eq_zero_or_pos i with rfl|dX
   ·exact main gs sl pB t q e d h0 hL hP aS
   ·obtain⟨gs',ops,q',c1,c2,c3,c4,c5,c6⟩:=slip (w:=(w'.at e).at d) (sl:=pB) hL hP h0 hr hi dX hg;omega
  |succ M ih=>
   intro gs sl t q e hM h0 hL hP;obtain⟨i,g,d,pB,hi,hg,aS⟩:=crowd_pick (P:=P) (w:=w'.at e) (sl:=sl) (ru hL h0 hr) ⟨0,a',h0,hr⟩;rcases Nat.eq_zero_or_pos i with rfl|dX
   ·exact main gs sl pB t q e d h0 hL hP aS
   ·obtain⟨gs',ops,q',c1,c2,c3,c4,c5,c6⟩:=slip (w:=(w'.at e).at d) (sl:=pB) hL hP h0 hr hi dX hg;obtain⟨N,last,o,w2,t2,r1,r2,r3,r4⟩:=ih gs' pB (t++ops) q' d (by omega) c2 c4 c5
    have Ca:stepT P (crowd gs (w'.at e) sl)=(.next (crowd gs' (w'.at d) pB),ops):=aS.trans c1
    refine⟨N+1,last,o,w2,t2,?_,?_,r3,r4⟩
    ·rw[runNT];simp only[Ca];exact r1
    ·rw[runN];have:step P (crowd gs (w'.at e) sl)=.next (crowd gs' (w'.at d) pB):=by show(stepT P _).1=_;rw[Ca]
     simp only[this];exact r2
 obtain⟨N2,last,o,w2,t2,r1,r2,r3,r4⟩:=key _ gs sl t q w'.drawn ν h0 hL hP;have adh:runNT P N (solo a w) #[]=(.next (crowd gs (w'.at w'.drawn) sl),t):=cD;have ai9:runN P N (solo a w)=.next (crowd gs (w'.at w'.drawn) sl):=by rw[<-runNT_fst P N _ #[],adh]
 refine⟨N+N2,last,o,w2,t2,?_,?_,r3,r4⟩;rw[Nat.add_assoc,runNT_add,adh];exact r1;rw[runN_add,ai9];exact r2
end Tp
namespace Ph
open Go.Conc Rn bd
open Go.RowKit
open Tp (bG bo Term Ld gu bE bt bR Dp eO fB Fit)
noncomputable def Vx:List Item:=[.inRegion (co (cl MY)) [1],.code (cr MY),.inLoop MY,.inBlock 2,.code M14]
def Aft(kd:List UInt8)(P:List (List UInt8))(B:Nat)(w:World)(cs:List Frame)(a':Goroutine)(w':World):Prop:=∃(bD:List (List UInt8))(M:Nat)(arr:Array Value)(z:Value),a'=gu (bm.at ⟨arr,[]⟩ Vx) cs/\arr.size=35/\arr[8]? =some (.map (some M))/\arr[20]? =some (.tuple #[z,.bool false])/\(∀p,bD.countP p=P.countP p)/\nL w' B M (bN kd) bD/\B<=M/\fU B w w'
def TR{fr}{b:Frame}{a t}(h1:fr.fn=b.fn)(h2:fr.tmps=a)(h3:fr.todo=t)(h4:fr.defers=[])(h5:fr.mode=.run)(h6:fr.kind=b.kind)(h7:fr.roundOf=none):fr=b.at ⟨a,[]⟩ t:=by obtain⟨f1,f2,f3,f4,f5,f6,f7⟩:=fr;dsimp only at h1 h2 h3 h4 h5 h6 h7;subst h1;subst h2;subst h3;subst h4;subst h5;subst h6;subst h7;rfl
section
variable{kd:List UInt8}{P:List (List UInt8)}{es:Array MapEntry}{clock B rb mb:Nat}{cs:List Frame}{w wg:World}
def agJ(h:AtGo kd es clock B rb mb wg)(ql:∀e∈es.toList,Exact e.key/\Exact e.val){a' w'}(ha:aed (PS kd P es clock (bn B rb mb) cs wg) wg a' w'):Aft kd P B wg cs a' w':=by
 obtain⟨bD,X,g,v,Xf,gf,vf,h1,kC,h2,h3,h4,⟨Y,rfl,hY⟩,h6,h7,⟨Z,rfl⟩,h9,UY,h11,h12,h13⟩:=ha;obtain⟨⟨x0,x1,x4,x9,jP,ju,iV,jO,iU,kH,jC,kD,pb,rU,nP,mQ,nM,Dl,Dk,Dj,Di,Dh,Dg,Df,De,ym,y3,yZ,rfl⟩,To,oB,_⟩:=(show SA kd (.aZ bD) g v from h2);have h1:GR prog (PE (B+2) (B+4) (B+6)) ((bn B rb mb).X0++Y) cs (Go.Conc.served (gu (bm.at ⟨#[x0,x1,lp 5,lp 6,x4,lp 7,lp 8,lp 9,.map (some 10),x9,jP,ju,iV,jO,iU,kH,jC,kD,pb,.chan (some 3),rU,nP,mQ,nM,Dl,Dk,Dj,Di,Dh,Dg,Df,De,ym,y3,yZ],[]⟩ tRR) [wall]) (.tuple #[.agg QJ.toArray,.bool false])) a':=h1;unfold tRR at h1;rw[iN (o:=⟨some 20,_,_,_,_,_⟩) rfl]at h1;have h1:GR prog (PE (B+2) (B+4) (B+6)) ((bn B rb mb).X0++Y) cs (gu (bm.at ⟨#[x0,x1,lp 5,lp 6,x4,lp 7,lp 8,lp 9,.map (some 10),x9,jP,ju,iV,jO,iU,kH,jC,kD,pb,.chan (some 3),.tuple #[.agg QJ.toArray,.bool false],nP,mQ,nM,Dl,Dk,Dj,Di,Dh,Dg,Df,De,ym,y3,yZ],[]⟩ Vx) [wall]) a':=h1;have hc:=uV h1;obtain⟨hr,hd,hf,_⟩:=h1;have hX5:∃M,((bn B rb mb).X0++Y)[5]? =some M:=by have hs:=h4.size;obtain⟨zw,arP,K,he,_⟩:=oB;have aM:=(Array.getElem?_eq_some_iff.1 he).1;have hs':v.heap.size=5+((bn B rb mb).X0++Y).length:=hs;exact⟨_,List.getElem?_eq_getElem (show 5< ((bn B rb mb).X0++Y).length by omega)⟩
 obtain⟨M,hM⟩:=hX5;have age:At (PE (B+2) (B+4) (B+6)) ((bn B rb mb).X0++Y) 10 M:=⟨by show 5<=10;omega,hM⟩;have lU:=h.size;have lK:∀g b,At (PE (B+2) (B+4) (B+6)) ((bn B rb mb).X0++Y) g b->10<=g->B<=b:=λg b hg UY=>by have h1:((bn B rb mb).X0++Y)[g-5]? =some b:=hg.2;rw[List.getElem?_append_right (by show 5<=g-5;omega)]at h1;have:=hY b (List.mem_of_getElem? h1);omega
 have xO:∀t x,(hx:(⟨#[x0,x1,lp 5,lp 6,x4,lp 7,lp 8,lp 9,.map (some 10),x9,jP,ju,iV,jO,iU,kH,jC,kD,pb,.chan (some 3),.tuple #[.agg QJ.toArray,.bool false],nP,mQ,nM,Dl,Dk,Dj,Di,Dh,Dg,Df,De,ym,y3,yZ],[]⟩:Act).tmps[t]? =some x)->∃x',a'.frame.tmps[t]? =some x'/\Rn.V (PE (B+2) (B+4) (B+6)) ((bn B rb mb).X0++Y) x x':=λt x hx=>by rcases hf.tmps.get t with⟨y,y',e1,e2,hy⟩|⟨e1,_⟩;have:some y=some x:=e1.symm.trans hx;cases this;exact⟨y',e2,hy⟩;have:none=some x:=e1.symm.trans hx;cases this
 obtain⟨y8,e8,v8⟩:=xO 8 _ rfl;obtain⟨y20,e20,v20⟩:=xO 20 _ rfl;have e8':y8=.map (some M):=by cases v8 with|map _ b hb=>have:=hb.2.symm.trans age.2;rw[Option.some.inj this]
 obtain⟨z,rfl⟩:∃z,y20=.tuple #[z,.bool false]:=by
  cases v20 with
  |tuple _ a2 rQ hel=>
  have hs3:a2.size=2:=rQ.symm;have hb:=hel 1 (.bool false) a2[1] rfl (Array.getElem?_eq_getElem (by omega));have iq:a2[1]=.bool false:=by generalize a2[1]=q at hb;cases hb;rfl
  refine⟨a2[0],?_⟩;congr 1;apply Array.ext;simpa using hs3;intro i ZV hi2;have:i=0∨i=1:=by simp at hi2;omega
  rcases this with rfl|rfl;rfl;exact iq
 refine⟨bD,M,a'.frame.tmps,z,?_,?_,by rw[e8,e8'],e20,h3,Wj h4 (λg b hg h11=>lK g b hg (by omega)) oB age,lK 10 M age ν,?_⟩;have fS:a'.frame=bm.at ⟨a'.frame.tmps,[]⟩ Vx:=TR (b:=bm) hf.fn rfl hf.todo hf.defers.2 hf.mode hf.kind hf.round.2;obtain⟨fr,fy,st,dy,off⟩:=a';dsimp only at fS hc hr hd kC|-;obtain⟨_,rfl⟩:=hr;obtain⟨_,rfl⟩:=hd;subst hc;subst kC;exact congrArg (λf=>gu f fy) fS;exact hf.tmps.size.symm;refine⟨h11,h12,h9,λk hk=>?_⟩;by_cases NZ:k=mb;subst NZ;obtain⟨_,hpf⟩:=(show FA P es clock .dh gf vf from h6);obtain⟨o,o',f1,f2,f3⟩:=h7.el 5 k rfl;have f1':vf.heap[10]? =some o:=f1;rw[hpf 10 _ rfl]at f1';cases f1';rw[f2,h.NZ];cases f3 with
 |map _ iI _ hma=>
  congr 2;apply Array.ext_getElem?;intro i;by_cases hi:i<es.size;have KH:i<iI.size:=by rw[<-hma.size];exact hi
  have hme:=hma.el i es[i] iI[i] (Array.getElem?_eq_getElem hi) (Array.getElem?_eq_getElem KH);obtain⟨x1,x2⟩:=ql es[i] (by simp);rw[Array.getElem?_eq_getElem hi,Array.getElem?_eq_getElem KH];congr 1;have k1:=x1.eq hme.key;have k2:=x2.eq hme.val;have k3:=hme.born;generalize iI[i]=e' at k1 k2 k3;generalize es[i]=e at k1 k2 k3;obtain⟨a1,a2,a3⟩:=e';obtain⟨b1,b2,b3⟩:=e;dsimp only at k1 k2 k3;subst k1;subst k2;subst k3;rfl;rw[Array.getElem?_eq_none (by rw[<-hma.size];omega),Array.getElem?_eq_none (by omega)]
 refine UY k (by omega) (by show k≠B+2;omega) (by show k≠B+4;omega) (by show k≠B+6;omega) ?_;by_cases hrb:k=rb;right;show(bn B rb mb).Sh k;unfold Bn.Sh bn;dsimp only;omega;left;refine⟨?_,?_,?_⟩;show k∉ [B,B+1,B+3,B+5,B+7];simp only[List.mem_cons,List.not_mem_nil,or_false];omega;show k∉ [B+3,B+5,B+1,B+7];simp only[List.mem_cons,List.not_mem_nil,or_false];omega;show k∉ [B,B+3,B+7,B+5,rb,mb];simp only[List.mem_cons,List.not_mem_nil,or_false];omega
def TU:Tp.bI Vx:=Cq (by kernel_rfl)
def OD(h:AtGo kd es clock B rb mb w)(hM:Mp.Map w mb P)(ql:∀e∈es.toList,Exact e.key/\Exact e.val):eO prog (Aft kd P B w cs) (gR kd (bn B rb mb) cs) w:=by
 intro hf τ n;have h1:AtGo kd es clock B rb mb (w.re τ n):=⟨h.size,h.hcp,h.hck,h.hJ,h.Oc,h.hR,h.lV,h.hD,h.hcd,h.hrb,h.NZ,h.rlt,h.mlt⟩;have hM1:Mp.Map (w.re τ n) mb P:=hM.block rfl;have hb:=Us (ready (cs:=cs) h1 hM1 (λe he=>⟨(ql e he).1.clean,(ql e he).2.clean⟩));refine hb.mono λa' w' ha=>?_;have hA:=agJ h1 ql ha;have hA':Aft kd P B w cs a' w':=by obtain⟨bD,M,arr,z,h1,h2,h3,h4,h5,h6,h7,h8⟩:=hA;exact⟨bD,M,arr,z,h1,h2,h3,h4,h5,h6,h7,⟨h8.os,h8.output,h8.size,h8.block⟩⟩
 refine⟨?_,hA'⟩;obtain⟨bD,M,arr,z,rfl,_⟩:=hA';exact⟨⟨rfl,(λd hd=>by cases hd),⟨TU,hf.1.TY.rest,(λhd=>by cases hd)⟩⟩,rfl⟩
def agk:M14=.seq (cl M14) (cr M14):=rfl
def DV(hM:Mp.Map w mb P)(NZ:w.heap[mb]? =some (.map es clock)):∀e∈es.toList,Exact e.key/\Exact e.val:=λe he=>by obtain⟨iI,lO,h1,hF,_⟩:=hM.own;rw[NZ]at h1;cases h1;obtain⟨yy,hyy⟩:=hF.reads e he;unfold WideElems.rd at hyy;simp only[Option.bind_eq_some_iff,Option.map_eq_some_iff]at hyy;obtain⟨kl,hk,y,hy,_⟩:=hyy;obtain⟨d,_,hd,_⟩:=P9 hk;refine⟨by rw[hd];exact lM (iQ d),?_⟩;rcases Mp.F9 hy with⟨t,ht,_⟩|⟨ht,_⟩;rw[ht];exact Cv t;rw[ht];exact Fy
def arJ:prog.funcs[45]? =some Tryz.f45:=func45
def YI{B0 c Stop}(K:∀v w',(∃M bD,v=.map (some M)/\(∀p,bD.countP p=P.countP p)/\nL w' B M (bN kd) bD/\B<=M/\fU B B0 w')->eO prog Stop (gu (c.finish v) cs) w') (hw:fU B B0 w) {a' w'} (ha:Aft kd P B w (c::cs) a' w'):eO prog Stop a' w':=by
 obtain⟨bD,M,arr,z,rfl,hs,h8,h20,h5,h6,h7,h9⟩:=ha;have K1:=K (.map (some M)) w' ⟨M,bD,rfl,h5,h6,h7,hw.trans h9⟩;refine Tp.bW bo (Tp.cE λτ n=>?_);have K1:eO prog Stop (gu (c.finish (.map (some M))) cs) (w'.re τ n):=K1.re τ n;generalize w'.re τ n=w2 at K1;have e20:∀(ar:Array Value)(d:Nat)(v:Value),d≠20->ar[20]? =some (.tuple #[z,.bool false])->(ar.setIfInBounds d v)[20]? =some (.tuple #[z,.bool false]):=λar d v hd h=>by rw[Array.getElem?_setIfInBounds_ne hd];exact h
 unfold Vx;refine Tp.jM (o:=⟨some 21,.extract (.tmp 20) 1,_,_,_,_⟩) (v:=.bool false) (w':=w2) rfl rfl ?_ ?_;unfold execOp;have:(Act.mk arr []).eval (.tmp 20)=.tuple #[z,.bool false]:=by show arr.getD 20 undef=_;rw[Array.getD_eq_getD_getElem?,h20];rfl
 simp only[this];rfl;show bE _ _ (bm.at ⟨arr.setIfInBounds 21 (.bool false),[]⟩ _) _ _;refine Tp.bP (aq akJ (ba (t:=false) rfl ?_ (gN rfl rfl ?_)));show(arr.setIfInBounds 21 (.bool false)).getD 21 undef=_;rw[Array.getD_eq_getD_getElem?,Array.getElem?_setIfInBounds_self_of_lt (by omega)];rfl;refine aq agk ?_;refine wY (s:=0) (r:=[0,1]) rfl rfl ?_;show bE _ _ _ _ _;refine Tp.jM (o:=⟨some 34,.move (.tmp 8),_,_,_,_⟩) (v:=.map (some M)) (w':=w2) rfl rfl ?_ ?_;unfold execOp;have:(Act.mk (arr.setIfInBounds 21 (.bool false)) []).eval (.tmp 8)=.map (some M):=by show(arr.setIfInBounds 21 (.bool false)).getD 8 undef=_;rw[Array.getD_eq_getD_getElem?,Array.getElem?_setIfInBounds_ne (by omega),h8];rfl
 simp only[this];rfl;show bE _ _ (bm.at ⟨(arr.setIfInBounds 21 (.bool false)).setIfInBounds 34 (.map (some M)),[]⟩ _) _ _;refine Tp.jM (o:=⟨some 4,.assign (.tmp 34),_,_,_,_⟩) (v:=.map (some M)) (w':=w2) rfl rfl ?_ ?_;unfold execOp;have:(Act.mk ((arr.setIfInBounds 21 (.bool false)).setIfInBounds 34 (.map (some M))) []).eval (.tmp 34)=.map (some M):=by show((arr.setIfInBounds 21 (.bool false)).setIfInBounds 34 (.map (some M))).getD 34 undef=_;rw[Array.getD_eq_getD_getElem?,Array.getElem?_setIfInBounds_self_of_lt (by simp;omega)];rfl
 simp only[this];rfl;show bE _ _ (bm.at ⟨((arr.setIfInBounds 21 (.bool false)).setIfInBounds 34 (.map (some M))).setIfInBounds 4 (.map (some M)),[]⟩ _) _ _;have h4:(((arr.setIfInBounds 21 (.bool false)).setIfInBounds 34 (.map (some M))).setIfInBounds 4 (.map (some M)))[4]? =some (.map (some M)):=by rw[Array.getElem?_setIfInBounds_self_of_lt (by simp;omega)]
 generalize((arr.setIfInBounds 21 (.bool false)).setIfInBounds 34 (.map (some M))).setIfInBounds 4 (.map (some M))=ar at h4;refine Tp.bP (bR step_ret ?_);refine bR (step_leave_returned (v:=.map (some M)) ⟨rfl,rfl,rfl,_,arJ,?_⟩) (bt K1);refine(results_tmp (t:=4) (fn:=Tryz.f45) rfl _ _ _).trans ?_;show Result.ok (ar.getD 4 undef) w2=_;rw[Array.getD_eq_getD_getElem?,h4];rfl
def hMa:Ph.M=.seq (cl Ph.M) (cr Ph.M):=rfl
def hMb:cr Ph.M=.seq (cl (cr Ph.M)) (cr (cr Ph.M)):=rfl
def hMc:cr (cr Ph.M)=.seq (cl (cr (cr Ph.M))) (cr (cr (cr Ph.M))):=rfl
def hMd:cr (cr (cr Ph.M))=.seq (cl (cr (cr (cr Ph.M)))) M4:=rfl
def ab6 p q:Frame.enter prog 45 #[p,q] .normal=bm.at ⟨#[p,q,undef,undef,undef,undef,undef,undef,undef,undef,undef,undef,undef,undef,undef,undef,undef,undef,undef,undef,undef,undef,undef,undef,undef,undef,undef,undef,undef,undef,undef,undef,undef,undef,undef],[]⟩ [.code Ph.M]:=by unfold Frame.enter;rw[func45];kernel_rfl
def alv{u B}(hs:u.heap.size=B)(hr:∃a b c,u.heap[rb]? =some (.cells #[.map (some mb),a,b,c] 44 (0,0))/\flat a/\flat b/\flat c)(NZ:u.heap[mb]? =some (.map es clock))(XE:rb<B)(XT:mb<B):AtGo kd es clock B rb mb ((((((((u.alloc (.cells #[.pointer (some ⟨rb,0,none⟩)] 74)).alloc (.cells (aL kd).toArray 89)).alloc (.chan 0 #[] false 0 0 false)).alloc (.cells #[.chan (some (B+2))] 145)).alloc (.chan 0 #[] false 0 0 false)).alloc (.cells #[.chan (some (B+4))] 146)).alloc (.chan 3 #[] false 0 0 false)).alloc (.cells #[.chan (some (B+6))] 147))/\fU B u ((((((((u.alloc (.cells #[.pointer (some ⟨rb,0,none⟩)] 74)).alloc (.cells (aL kd).toArray 89)).alloc (.chan 0 #[] false 0 0 false)).alloc (.cells #[.chan (some (B+2))] 145)).alloc (.chan 0 #[] false 0 0 false)).alloc (.cells #[.chan (some (B+4))] 146)).alloc (.chan 3 #[] false 0 0 false)).alloc (.cells #[.chan (some (B+6))] 147)):=by
 have hg:∀(x:World)(o:Obj)(k:Nat),(x.alloc o).heap[k]? =if k=x.heap.size then some o else x.heap[k]?:=λx o k=>by show(x.heap.push o)[k]? =_;rw[Array.getElem?_push]
 obtain⟨a,b,c,h1,h2⟩:=hr;refine⟨⟨by simp only[World.size_alloc,hs],?_,?_,?_,?_,?_,?_,?_,?_,⟨a,b,c,?_,h2⟩,?_,XE,XT⟩,rfl,rfl,by simp only[World.size_alloc];omega,λk hk=>?_⟩;all_goals simp only[hg,World.size_alloc,hs]
 all_goals repeat(first|rw[if_neg (by omega)])
 all_goals first|done|exact h1|exact NZ|exact if_pos trivial
def Dv(kd:List UInt8)(P:List (List UInt8))(rb mb:Nat)(w:World)(hr:∃a b c,w.heap[rb]? =some (.cells #[.map (some mb),a,b,c] 44 (0,0))/\flat a/\flat b/\flat c)(hM:Mp.Map w mb P):fB prog 45 #[.pointer (some ⟨rb,0,none⟩),.agg (aL kd).toArray] w λv w'=>∃M bD,v=.map (some M)/\(∀p,bD.countP p=P.countP p)/\nL w' w.heap.size M (bN kd) bD/\w.heap.size<=M/\fU w.heap.size w w':=λc cs Stop K=>by
 have Ts:=hM.lt;have XE:rb<w.heap.size:=by obtain⟨a,b,c,h1,_⟩:=hr;exact(Array.getElem?_eq_some_iff.1 h1).1
 obtain⟨es,clock,NZ,_⟩:=hM.own;refine Tp.bW bo (Tp.cE λτ n=>?_);rw[ab6];have hJ:∀u:World,(Instr.makeChan 145 (.int .i64 0)).run prog u=.ok (.chan (some u.heap.size)) (u.alloc (.chan 0 #[] false 0 0 false)):=λu=>by kernel_rfl
 have hR:∀u:World,(Instr.makeChan 146 (.int .i64 0)).run prog u=.ok (.chan (some u.heap.size)) (u.alloc (.chan 0 #[] false 0 0 false)):=λu=>by kernel_rfl
 have hD:∀u:World,(Instr.makeChan 147 (.int .i64 3)).run prog u=.ok (.chan (some u.heap.size)) (u.alloc (.chan 3 #[] false 0 0 false)):=λu=>by kernel_rfl
 refine aq hMa (aF (c':=.region _ _ _) rfl ?_);go_wp2_with fail;show bE _ _ _ _ _;refine aq hMb (aF (c':=.region _ _ _) rfl ?_);go_wp2_with fail;show bE _ _ _ _ _;refine aq hMc (aF (c':=.region _ _ _) rfl ?_);go_wp2_with fail;show bE _ _ _ _ _;refine aq hMd (aF (c':=.region _ _ _) rfl ?_);go_wp2_with fail;show bE _ _ _ _ _;have hs:(w.re τ n).heap.size=w.heap.size:=rfl;rw[hs];obtain⟨hA,hB⟩:=alv (kd:=kd) (u:=w.re τ n) (es:=es) (clock:=clock) hs hr NZ XE Ts;have hM:Mp.Map _ mb P:=hM.block ((hB.block mb Ts).trans rfl);have hB:fU w.heap.size w _:=⟨hB.os,hB.output,hB.size,hB.block⟩;simp only[Nat.add_assoc,Nat.reduceAdd]at hA hB hM|-;generalize(World.alloc _ _)=w8 at hA hB hM|-;have ql:=DV hM hA.NZ;have HA:=η hA;have HB:=η hB;have HM:=η hM;have HC:=η ql;have HK:=η K;clear hA hB hM ql hJ hR hD hr NZ K hs;refine aq hM4 (aq ara (aF (c':=.region _ _ _) rfl ?_));go_wp2_with fail;show bE _ _ _ _ _;refine cG arb (gM aq9 ?_);refine aq hMX (aF (c':=.region _ _ _) rfl ?_);go_wp2_with fail;show bE _ _ _ _ _;refine aq agj (ba (t:=true) rfl rfl (cR rfl (aq akL (cG akK ?_))));refine eh 1 [1] rfl rfl (by decide +kernel) ?_;show wpList _ _ _ [_] _ _;go_wp2_with fail;show bE _ _ (bm.at _ tG) _ _;exact bt ((OD (P:=P) (cs:=c::cs) HA.o HM.o HC.o).trans λa' w' ha=>YI (c:=c) (B0:=w) HK.o HB.o ha)
end
end Ph
section
open Go.RowKit bd
open Ph (cb cl cr ci co nL gZ nT bN)
noncomputable def CM:Code:=cb Tryz.f21
noncomputable def aha:Code:=cr (cr (cr (cr (cr (cr (cr (cr (cr (cr CM)))))))))
def Ka{w B e v l}(h:w.ownsRow B e 1 v l.length (sC l)):du w v (Cp.ints l):=by by_cases h0:l.length=0;obtain⟨a,c,rfl⟩:=aP h;have:l=[]:=List.eq_nil_of_length_eq_zero h0;subst this;exact .inl ⟨a,c,rfl,rfl⟩;obtain⟨g,cap,rfl,_,hg,oN⟩:=fL h (by omega);refine .inr ⟨g,0,cap,by rw[Cp.ij],hg,λj hj=>?_⟩;rw[Cp.ij]at hj;rw[Nat.zero_add,oN j (by omega)];unfold sC Cp.ints;rw[List.getElem?_map,List.getD_eq_getElem?_getD,List.getElem?_map,List.getElem?_eq_getElem hj];rfl
def Mw{w g off t}(hr:w.rangeAt g off (ai t)):(Instr.loadAt 78 (.pointer (some ⟨g,off,none⟩))).run prog w=.ok (.agg (ai t).toArray) w:=run_loadAt_mid w g off _ (ai t) _ hr underlying78 rfl (by rw[cW,aC])
def sA{ops rest o a C Q}(hw:Region.wanted o (yielded ops a.tmps)=true) x(ho:o.op=.load 78 x) g off t (hx:a.eval x=.pointer (some ⟨g,off,none⟩)) (hr:∀w,C w->w.rangeAt g off (ai t)) (h:wpQuiet prog ops C Q rest (a.put o.dst (.agg (ai t).toArray))):wpQuiet prog ops C Q (o::rest) a:=by refine vzq hw (λw hC=>?_) h;unfold execOp;simp only[ho,hx,Sem.run_bind,Mw (hr w hC),Result.andThen_ok,Sem.run_pure]
def aU.qI{O w w1 w2}(h:aU O w w1)(k:Below w.heap.size w1 w2):aU O w w2:=⟨k.os.trans h.os,k.tape.trans h.tape,k.output.trans h.output,Nat.le_trans h.size k.size,λj hj ho=>(k.block j hj).trans (h.block j hj ho)⟩
def Tw(rb T A:Nat)(k:Nat):Prop:=k=rb∨k=T∨k=A
def iJ(w:World)(rb mb C:Nat)(s:Cp.RS):Prop:=(s=Cp.idle/\dm w rb (n8 mb))∨(Cp.CX s/\∃T mv,dm w rb (dW mb s.header (.slice (some ⟨T,0,none⟩) s.bx.length s.bx.length) mv)/\Tz.At w T s.bx/\C<=T/\w.ownsRow C 3 1 mv s.missing.length (sC s.missing))
def Hr(c:Wr.Cb)(P bD:List (List UInt8))(f:List UInt8->List UInt8)(L0:List (List UInt8))(rb mb A D T M C0 CS B:Nat)(sa:Option Addr)(sc:Nat)(av tv:Value)(w:World) (hT:cH w) (lX:1<rb) (dO:Wr.al2 c) (hP:∀t∈P,t≠ []/\t.length<=610) (Cf:∀p:List UInt8->Bool,bD.countP p=P.countP p) (hR:dm w rb (dW mb c.header (.slice (some ⟨T,0,none⟩) (c.ae.length+c.ag.length) (c.ae.length+c.ag.length)) (.slice none 0 0))) (hA:Row w A (an 0 [])) (hD:Row w D (cc c.header c.nonce (.slice sa c.ae.length sc) av tv)) (hS:w.ownsRow CS 9 1 (.slice sa c.ae.length sc) c.ae.length (wt c.ae)) (hTz:Tz.At w T L0) (hM:nL w B M f bD) (hF:Cp.FI f P c.ag c.ae (c.ae.length+c.ag.length) 0 L0 [] 0) (Qm:rb<C0) (hCA:C0<=A) (azZ:A<CS) (hAT:A<T) (hDT:D<T) (hAD:A<D) (hTB:T<B) (hBM:B<=M) (hMw:B<=w.heap.size) (hsT:∀k,Value.ownBlock (.slice sa c.ae.length sc)=some k->k<T) (x1 x2 x3 x5 x7 x8 x9 jP iV jO iU kH jC kD pb su rU nP mQ nM Dl Dk Dj Di Dh Dg Df De ym y3 yZ x35 x36 x37 x38 x39 x40 x41 x42 x43 x44 x45 x46 x47 x48 x49 x50 x51 x52 x53 x54 x55 x56 x57 x58 x59 x60 x61 x62 x63 x64 x65 x66 x67 x68 x69 x70 x71 x72 x73 x74 x75 x76 x77 x78 x79 x80 x81 x82 x83 x84 x85 x86 x87 x88 x89 x90 x91 x92 x93 x94 x95 x96 x97 x98 x99 aoS aoR aoQ aoP aoO aoN aoM aoL aoK aoJ aoI aoH aoG aoF aoE aoD aoC aoB aoA aoz aoy aox aow aov aou aot aos aor aoq aop aoo aon aom aol aok aoj aoi aoh aog aof aoe aod aoc aob aoa an9 an8 an7 an6 an5 an4 an3 an2 an1 an0 anZ anY anX anW:Value):aha.wp prog (bodyPost prog Tryz.f21 λ|.returned v,w'=>(v=.tuple #[.agg (an (Cp.ix f P c).1.1 (Cp.ix f P c).1.2).toArray,.int .i64 0]/\iJ w' rb mb C0 (Cp.ix f P c).2/\aU (Tw rb T A) w w')|_,_=>False) ⟨List.toArray (.pointer (some ⟨rb,0,none⟩)::x1::x2::x3::.pointer (some ⟨A,0,none⟩)::x5::.pointer (some ⟨D,0,none⟩)::x7::x8::x9::jP::.map (some M)::iV::jO::iU::kH::jC::kD::pb::su::rU::nP::mQ::nM::Dl::Dk::Dj::Di::Dh::Dg::Df::De::ym::y3::yZ::x35::x36::x37::x38::x39::x40::x41::x42::x43::x44::x45::x46::x47::x48::x49::x50::x51::x52::x53::x54::x55::x56::x57::x58::x59::x60::x61::x62::x63::x64::x65::x66::x67::x68::x69::x70::x71::x72::x73::x74::x75::x76::x77::x78::x79::x80::x81::x82::x83::x84::x85::x86::x87::x88::x89::x90::x91::x92::x93::x94::x95::x96::x97::x98::x99::aoS::aoR::aoQ::aoP::aoO::aoN::aoM::aoL::aoK::aoJ::aoI::aoH::aoG::aoF::aoE::aoD::aoC::aoB::aoA::aoz::aoy::aox::aow::aov::aou::aot::aos::aor::aoq::aop::aoo::aon::aom::aol::aok::aoj::aoi::aoh::aog::aof::aoe::aod::aoc::aob::aoa::an9::an8::an7::an6::an5::an4::an3::an2::an1::an0::anZ::anY::anX::anW::[]),[]⟩ w:=by
 have XR:=dO.le;have hn0:=dO.pos;have HR:=η hR;have HA:=η hA;have HD:=η hD;have HS:=η hS;have HTz:=η hTz;have HM:=η hM;have HF:=η hF;have HP:=η hP;have HG:=η Cf;have HST:=η hsT;have HT:=η hT;have ES:=η (show Cp.ix f P c=if(Cp.fill f P c.ag (c.ae.length+c.ag.length) 0 c.ae).2=[]then(Cp.finish c.header (Cp.fill f P c.ag (c.ae.length+c.ag.length) 0 c.ae).1,Cp.idle)else((1,Cp.request c.header (Cp.fill f P c.ag (c.ae.length+c.ag.length) 0 c.ae).2),⟨c.header,(Cp.fill f P c.ag (c.ae.length+c.ag.length) 0 c.ae).1,(Cp.fill f P c.ag (c.ae.length+c.ag.length) 0 c.ae).2⟩)from rfl);obtain⟨LM,qn⟩:∃p,Cp.ix f P c=p:=⟨_,rfl⟩;rw[qn]at ES|-;clear hR hA hD hS hTz hM hF hP Cf hsT qn hT;have uF:=HR.o.cell 2;rw[show(dW mb c.header (.slice (some ⟨T,0,none⟩) (c.ae.length+c.ag.length) (c.ae.length+c.ag.length)) (.slice none 0 0))[2]? =some (.slice (some ⟨T,0,none⟩) (c.ae.length+c.ag.length) (c.ae.length+c.ag.length))from rfl]at uF;obtain⟨n,hn⟩:∃n,c.ae.length+c.ag.length=n:=⟨_,rfl⟩;rw[hn]at HR HF ES uF XR hn0;have as8:c.ae.length<=16:=by omega
 have HN:=η hn;have LV:=η (show Cp.mO n c.ag by rw[<-hn];exact dO.ag);clear hn;generalize hQ:bodyPost prog Tryz.f21 _=Q;simp only[aha,CM,Ph.cb,Tryz.f21,Option.getD_some,Ph.cr];subst hQ;go_wp2_with fail;clear uF;obtain⟨i1,ZV,hq0,Tm,IQ⟩:=info_parts ny;have HI:=η ZV;clear ZV;go_loopw [12,13,14,95] (λnv jv lv iv wr=>∃(i nx:Nat)(L:List (List UInt8))(ms:List Nat)(mv:Value),i<=n/\iv=.int .i64 i/\nv=.int .i64 nx/\Cp.FI f P c.ag c.ae n i L ms nx/\ms.length<=i/\dm wr rb (dW mb c.header (.slice (some ⟨T,0,none⟩) n n) mv)/\wr.ownsRow w.heap.size 3 1 mv ms.length (sC ms)/\Tz.At wr T L/\aU (Tw rb T A) w wr/\Row wr A (an 0 [])) (λ_ _ _ iv _=>n-(intOf iv).toNat);exact⟨0,0,L0,[],_,by omega,rfl,rfl,HF.o,by simp,HR.o,World.ownsRow_nil _ _ _ _,HTz.o,aU.refl _ _,HA.o⟩;obtain⟨i,nx,L,ms,mv,hi,rfl,rfl,hF,XT,hR,hmo,hTz,hK,hA⟩:=hrel;have F1:=η hF;have R1:=η hR;have M1:=η hmo;have Z1:=η hTz;have K1:=η hK;have A1:=η hA;have mH:=hK.size;have hLl:=hF.len;have IW:=η hLl;clear hF hR hmo hTz hK hA;by_cases aM:i<n
 ·have p1:(i:Int)< (n:Int):=by omega
  have uF:=R1.o.cell 2;rw[show(dW mb c.header (.slice (some ⟨T,0,none⟩) n n) mv)[2]? =some (.slice (some ⟨T,0,none⟩) n n)from rfl]at uF;have yO:=Z1.o.bytes i (by omega);rw[Nat.mul_comm]at yO;have HY:=η yO;clear hLl;by_cases hz:L.getD i []=[]
  ·have Qq:=F1.o.next LV.o HN.o.symm aM hz;have p2:(nx:Int)< (c.ae.length:Int):=by omega
   obtain⟨g,CL,Kz,sn,hg,oN⟩:=fL HS.o (by omega:0<c.ae.length);cases Kz;have hgT:=HST.o g rfl;have ep:wr.cell? ⟨g,nx,none⟩=some (.string (str (c.ae.getD nx []))):=by rw[<-wtq c.ae nx Qq,<-oN nx (by omega)];exact World.cell?_of_block (w:=w) (K1.o.block g hg (by unfold Tw;omega))
   have hD2:=(K1.o.row HD.o (by unfold Tw;omega)).cell 2;rw[show(cc c.header c.nonce (.slice (some ⟨g,0,none⟩) c.ae.length sc) av tv)[2]? =some (.slice (some ⟨g,0,none⟩) c.ae.length sc)from rfl]at hD2;obtain⟨es,clock,KK,Fo⟩:=HM.o.slot (c.ae.getD nx []);have aq5:M<w.heap.size:=(Array.getElem?_eq_some_iff.1 Fo.at_).1;have hlk:=Ph.Bz (w:=wr) ((K1.o.block M aq5 (by unfold Tw;omega)).trans Fo.at_) Fo.key (c.ae.getD nx []);have hlo:=K1.o.own Fo.own (λk hk=>by have:=(Fo.own.lt k hk).1;unfold Tw;omega);have hho:=Cp.Hd (f:=f) HG.o (c.ae.getD nx []);have HMI:=η (λh=>F1.o.apb LV.o HN.o.symm aM hz h);have HHI:=η (λt h=>F1.o.hit (t:=t) LV.o HN.o.symm aM hz h);obtain⟨s,BY⟩:∃s,c.ae.getD nx []=s:=⟨_,rfl⟩;rw[BY]at ep hlk hlo hho HMI HHI;obtain⟨la,lc,hvl⟩:=aP hlo;rw[hvl]at hlk hlo;rw[hz]at yO;have HO:=η hlo;have HH:=η hho;have DR:([]:List UInt8).isEmpty=true:=rfl;have q1:IntKind.i64.wrap ((nx:Int)+1)=((nx+1:Nat):Int):=IntWalk.i64_in _ (by omega);clear Fo BY hlo hho hz oN hvl;obtain⟨gl,Qt⟩:∃gl,(gZ f bD s).length=gl:=⟨_,rfl⟩;rw[Qt]at hlk HO HH;have HGL:=η Qt;clear Qt;by_cases h1:gl=1
   ·subst h1;obtain⟨t,ht⟩:=List.length_eq_one_iff.1 HGL.o;have HF2:=η (HHI.o t (HH.o.2 t ht));have HF3:=η (HH.o.2 t ht);rw[ht]at HO;clear HHI HMI HH HGL ht;obtain⟨g2,c2',hv2,ayA,hg2,ZP⟩:=mm (ts:=[t]) HO.o (by simp);cases hv2;have mR:wr.rangeAt g2 0 (ai t):=ZP 0 (by simp);clear HO ZP;go_upto_region 24 with fail;have rP:∀u:ax.Of (λu=>Row u rb (dW mb c.header (.slice (some ⟨T,0,none⟩) n n) mv)/\u.rangeAt g2 0 (ai t)),u.w.cell? ⟨rb,2,none⟩=some (.slice (some ⟨T,0,none⟩) n n):=λu=>u.h.1.cell 2;haveI bZ:Nonempty (ax.Of (λu=>Row u rb (dW mb c.header (.slice (some ⟨T,0,none⟩) n n) mv)/\u.rangeAt g2 0 (ai t))):=⟨⟨wr,R1.o.row,mR⟩⟩;refine ax.bA [0,1,2,3,4,5,6,7,8] 1 mixed (by kernel_rfl) rfl rfl (λc a d v w h=>by cases d<;>exact h) (by as_aux_lemma=>kernel_rfl) rfl (λu=>Row u rb (dW mb c.header (.slice (some ⟨T,0,none⟩) n n) mv)/\u.rangeAt g2 0 (ai t)) ⟨R1.o.row.drew,mR⟩ ?_;show wpQuiet _ _ _ _ [_,_,_,_,_,_,_,_,_] _;go_big_quiet_step (fail);go_big_quiet_step (fail);go_big_quiet_step (fail);go_big_quiet_step (fail);go_big_quiet_step (fail);go_big_quiet_step (fail);go_big_quiet_step (fail);refine sA (o:=⟨some 126,_,_,_,_,_⟩) rfl _ rfl g2 0 t rfl (λw hw=>by obtain⟨u,rfl⟩:=hw;exact u.h.2) ?_;go_frame;go_big_quiet_step (fail);refine wpQuiet_nil ?_;clear rP;have hTn:t≠ []:=(HP.o t (Cp.KG (HF3.o))).1;have Z2:=η (show Tz.At wr.drew T L from Z1.o);have R2:=η R1.o.drew;have M2:=η (show wr.drew.ownsRow w.heap.size 3 1 mv ms.length (sC ms)from M1.o);have K2:=η K1.o.drew;have A2:=η A1.o.drew;have Fp:wr.drew.rangeAt g2 0 (ai t):=mR;have ZO:=Z2.o.there i (by rw[IW.o];exact aM);have hlT:=Z2.o.lt;clear Z1 R1 M1 K1 A1 mR;generalize wr.drew=w2 at Z2 R2 M2 K2 A2 Fp ZO hlT|-;have Z3:=η (show Tz.At (w2.setCells T (i*33) (ai t)) T (L.set i t)by have:=Z2.o.put i t (by rw[IW.o];exact aM);rwa[Tz.F6 hTn,Nat.mul_comm]at this);have o8:=Tz.Aa w2 T (i*33) (ai t) w2.heap.size;have R3:=η (R2.o.same (o8.block rb R2.o.lt (by omega)));have M3:=η (gp M2.o o8 (by omega));have A3:=η (o8.row A2.o A2.o.lt (by omega));have K3:=η (K2.o.trans (aU.jg o8 (.inr (.inl rfl))));have IN:=rangeAt_of_block Fp (o8.block g2 (by have:=World.block_lt_of_cell? w2 _ (Fp 0 _ (show(ai t)[0]? =some (.string (str t))from rfl));exact this) (by omega));refine ax.one 9 _ (by kernel_rfl) rfl rfl ?_;refine wpList_store_mid rfl _ _ _ rfl T (i*33) (ai t).toArray rfl rfl (by rw[List.size_toArray,aC,Nat.mul_comm];exact ZO) (cW.trans (by rw[List.size_toArray,aC])) (by rw[List.all_toArray];exact aX t) ?_;refine⟨ax.aj ⟨R3.o.row,IN⟩,?_⟩;refine wpAnyH_done (by kernel_rfl) ?_ 0;try go_frame
    go_wp2_with fail;go_roundw
    ·exact⟨i+1,nx+1,L.set i t,ms,mv,by omega,by go_num,by go_num,HF2.o,by omega,R3.o,M3.o,Z3.o,K3.o,A3.o⟩
    simp[intOf];omega
   have p3:¬(gl:Int)=1:=by omega
   have HF2:=η (HMI.o (by rw[<-HH.o.1];exact h1));clear HHI HMI HH HGL HO;have KM:=R1.o.cell 3;obtain⟨ma,mc,rfl⟩:=aP M1.o;rw[show(dW mb c.header (.slice (some ⟨T,0,none⟩) n n) (.slice ma ms.length mc))[3]? =some (.slice ma ms.length mc)from rfl]at KM;have hTw:T<w.heap.size:=by omega
   have hAw:A<w.heap.size:=by omega
   have hmx:ms.length<1000:=by omega
   go_wp2_with (at_builtin;refine wpList_append_own _ rfl _ _ 25 rfl w.heap.size 3 i1 (.int .i64 0) 1 8 underlying25 HI.o hq0 Tm IQ rfl (by decide) _ _ _ rfl (M1.o.alloc _) ⟨wr.heap.size,0,none⟩ 1 1 [.int .i64 (i:Int)] rfl rfl (cell_one_new _ _ _) (λu hu=>by simp at hu;subst hu;rfl) (by unfold maxLen;omega) (by omega) (by rw[World.size_alloc];omega) ?_;intro Vd w3 cg dr _;have jI:Below w.heap.size wr w3:=((Below.refl w.heap.size wr).alloc mH _).grown dr (by rw[World.size_alloc];omega) (λk hk=>(M1.o.lt k hk).1);obtain⟨pa,pc,rfl⟩:=aP cg;have R3:=R1.o.below jI (by omega);have nz:=R3.free 3;have ayN:=R3.cell 3;have N3:=η cg;have G3:=η jI;have R3':=η R3;clear cg dr jI R3)
   go_roundw
   ·exact⟨i+1,nx+1,L,ms++[i],_,by omega,by go_num,by go_num,HF2.o,by rw[List.length_append];simp;omega,R3'.o.set 3 _,by rw[List.length_append,<-tu];exact bq (a:=⟨rb,3,none⟩) N3.o _ (by show rb<_;omega),(Z1.o.below G3.o hTw).of_block (Below.heap_setCell _ _ _ _ (by show T≠rb;omega)),((K1.o.qI G3.o).set ⟨rb,3,none⟩ _ (.inl rfl)),(A1.o.below G3.o hAw).other (a:=⟨rb,3,none⟩) (show rb≠A by omega) _⟩
   simp[intOf];omega
  have HF2:=η (F1.o.skip LV.o aM hz);obtain⟨x,Xj⟩:∃x,L.getD i []=x:=⟨_,rfl⟩;rw[Xj]at yO hz;have bZ:x.isEmpty=false:=by cases x with
   |nil=>exact absurd rfl hz
   |cons a l=>rfl
  clear HY Xj hz;go_wp2_with fail;go_roundw
  ·exact⟨i+1,nx,L,ms,mv,by omega,by go_num,rfl,HF2.o,by omega,R1.o,M1.o,Z1.o,K1.o,A1.o⟩
  simp[intOf];omega
 obtain rfl:i=n:=by omega
 have adE:=F1.o.done;have X8:=Cp.zr (f:=f) LV.o HP.o i 0 c.ae;rw[adE]at X8 ES;obtain⟨o1,o2,o3⟩:=X8;rw[Nat.zero_add]at o3;have OK1:=η o1;have OK2:=η o2;have OK3:=η o3;have TW:=η (K1.o.sE HT.o (by unfold Tw;omega) (by unfold Tw;omega));obtain⟨ma,mc,rfl⟩:=aP M1.o;have KM:=R1.o.cell 3;rw[show(dW mb c.header (.slice (some ⟨T,0,none⟩) i i) (.slice ma ms.length mc))[3]? =some (.slice ma ms.length mc)from rfl]at KM;have Yp:=A1.o.lt;have hTl:=Z1.o.lt;have hRl:=R1.o.lt;clear adE o1 o2 o3 hLl HF HTz HR HA HM;by_cases hm:ms=[]
 ·subst hm;have hLn:∀t∈L,t≠ []:=λt ht e=>by obtain⟨j,hj,he⟩:=List.mem_iff_getElem.1 ht;have:=OK2.o j (by rw[<-IW.o];exact hj) (by rw[List.getD_eq_getElem?_getD,List.getElem?_eq_getElem hj];simpa[e]using he);cases this
  have hto:wr.ownsRow T 78 33 (.slice (some ⟨T,0,none⟩) i i) L.length (aJ L):=by have:=Z1.o.own (C:=T) ν (by rw[IW.o];omega);rw[Tz.Mf L hLn]at this;rwa[IW.o]at this|-
  have T1:=η (uN rb mb c.header (.slice (some ⟨T,0,none⟩) i i) (.slice ma 0 mc) L T wr TW.o lX R1.o hto OK1.o (by rw[IW.o];exact hn0) (by rw[IW.o];exact XR) dO.head (by omega));have OW:=η (show LM=(Cp.finish c.header L,Cp.idle)by rw[ES.o,if_pos rfl]);clear hto ES OK1 OK2 OK3 M1 hLn;obtain⟨fa,hfa⟩:∃p,Cp.finish c.header L=p:=⟨_,rfl⟩;rw[hfa]at T1 OW;obtain⟨k1,bs⟩:=fa;go_wp2_with fail;refine T1.o.mono ?_;clear T1 KM;rintro e w4⟨rfl,IN,mN⟩;have xz:=mN.row A1.o Yp (by omega);have R4:=η IN;have K4:=η (K1.o.trans (aU.jg mN (.inl rfl)));clear IN mN;go_wp2_with (with_reducible refine au (o:=⟨none,_,_,_,_,_⟩) rfl _ _ _ rfl A (an 0 []) (an k1 bs) rfl rfl xz (aO.trans rfl) rfl rfl ?_);have S9:=xz.setRow (an k1 bs);refine bodyPost_ret (v:=.tuple #[.agg (an k1 bs).toArray,.int .i64 0]) (cn rfl _ _ A (an k1 bs) (.int .i64 0) rfl rfl S9 _ underlying49 (aO.trans rfl)) rfl ?_;rw[OW.o];exact⟨rfl,.inl ⟨rfl,R4.o.aG (by omega) _⟩,K4.o.setRow A _ (.inr (.inr rfl))⟩
 have ax8:ms.length≠0:=λe=>hm (List.eq_nil_of_length_eq_zero e);have p4:¬(ms.length:Int)=0:=by omega
 have OW:=η (show LM=((1,Cp.request c.header ms),⟨c.header,L,ms⟩)by rw[ES.o,if_neg hm]);have WT:=η (show Cp.CX ⟨c.header,L,ms⟩from⟨hm,dO.head,by show 0<L.length;rw[IW.o];exact hn0,by show L.length<=16;rw[IW.o];exact XR,OK1.o,λj hj he=>by have:=OK2.o j (by rw[<-IW.o];exact hj) he;rwa[Nat.zero_add]at this,by show En.qE L.length 0 _;rw[IW.o];exact OK3.o⟩);clear ES OK1 OK2;go_upto_region 29 with fail;have yM:∀u:ax.Of (λu=>Row u rb (dW mb c.header (.slice (some ⟨T,0,none⟩) i i) (.slice ma ms.length mc))),u.w.cell? ⟨rb,1,none⟩=some (.string (str c.header)):=λu=>u.h.cell 1;have hu3:∀u:ax.Of (λu=>Row u rb (dW mb c.header (.slice (some ⟨T,0,none⟩) i i) (.slice ma ms.length mc))),u.w.cell? ⟨rb,3,none⟩=some (.slice ma ms.length mc):=λu=>u.h.cell 3;haveI bZ:Nonempty (ax.Of (λu=>Row u rb (dW mb c.header (.slice (some ⟨T,0,none⟩) i i) (.slice ma ms.length mc)))):=⟨⟨wr,R1.o.row⟩⟩;refine ax.bA [0,1,2,3,5,6,7,8] 6 mixed (by kernel_rfl) rfl rfl (λc a d v w h=>by cases d<;>exact h) (by as_aux_lemma=>kernel_rfl) rfl (λu=>Row u rb (dW mb c.header (.slice (some ⟨T,0,none⟩) i i) (.slice ma ms.length mc))) R1.o.row.drew ?_;show wpQuiet _ _ _ _ [_,_,_,_,_,_,_,_] _;repeat(go_big_quiet_step (fail))
 refine wpQuiet_nil ?_;clear yM hu3 KM;have Z2:=η (show Tz.At wr.drew T L from Z1.o);have R2:=η R1.o.drew;have M2:=η (show wr.drew.ownsRow w.heap.size 3 1 (.slice ma ms.length mc) ms.length (sC ms)from M1.o);have K2:=η K1.o.drew;have A2:=η A1.o.drew;have T2:=η (sS c.header wr.drew TW.o (by have:=dO.head;omega));have ik:w.heap.size<=wr.drew.heap.size:=mH;have ak7:A<wr.drew.heap.size:=Yp;have akt:T<wr.drew.heap.size:=hTl;have akw:rb<wr.drew.heap.size:=hRl;clear Z1 R1 M1 K1 A1 mH Yp hTl hRl TW;generalize wr.drew=w2 at Z2 R2 M2 K2 A2 T2 ik ak7 akt akw|-;refine ax.one 4 _ (by kernel_rfl) rfl rfl ?_;try go_frame
 go_wp2_with fail;refine T2.o.mono ?_;clear T2;rintro e w3⟨rfl,gQ⟩;have Z3:=η (Z2.o.below gQ akt);have R3:=η (R2.o.below gQ akw);have M3:=η (aE M2.o gQ ν);have K3:=η (K2.o.qI (gQ.mono ik));have A3:=η (A2.o.below gQ ak7);have nz:=gQ.size;have ZO:=eQ c.header;have T3:=η (Ap (Mk.ak c.header) (.slice ma ms.length mc) (Cp.ints ms) i w3 (Ka M3.o) OK3.o (by omega) (by rw[Cp.ij];omega) (by omega))
 have RQ:=η (show Cp.request c.header ms=Mk.ak c.header++Wr.dI (Cp.ints ms).length++(En.dx 0 (Cp.ints ms)).flatten by rw[Cp.ij];rfl);clear gQ Z2 R2 M2 K2 A2 OK3;rw[<-RQ.o]at T3;generalize Cp.request c.header ms=rq at OW T3;generalize Mk.ak c.header=nm at T3 ZO|-;clear RQ;go_wp2_with fail;refine⟨ax.aj R3.o.row,?_⟩;refine ax.one 9 _ (by kernel_rfl) rfl rfl ?_;try go_frame
 go_wp2_with fail;refine⟨ax.aj R3.o.row,?_⟩;refine ax.one 10 _ (by kernel_rfl) rfl rfl ?_
 try go_frame
 go_wp2_with fail;refine T3.o.mono ?_;clear T3;rintro e w4⟨rfl,mN⟩;have agp:A<w3.heap.size:=by omega
 have Z4:=η (Z3.o.below mN (by omega));have R4:=η (R3.o.below mN (by omega));have M4:=η (aE M3.o mN ν);have K4:=η (K3.o.qI (mN.mono (by omega)));have xz:=A3.o.below mN agp;clear mN Z3 R3 M3 K3 A3;go_wp2_with fail;refine⟨ax.aj R4.o.row,?_⟩;refine ax.one 11 _ (by kernel_rfl) rfl rfl ?_;refine wT rfl _ _ rfl 1 rq rfl rfl ?_;refine⟨ax.aj R4.o.row,?_⟩;refine ax.one 12 _ (by kernel_rfl) rfl rfl ?_;refine au rfl _ _ _ rfl A (an 0 []) (an 1 rq) rfl rfl xz (aO.trans rfl) rfl rfl ?_;have S9:=xz.setRow (an 1 rq);have R5:=η (R4.o.aG (g:=A) (by omega) (an 1 rq).toArray);have Z5:=η (Z4.o.of_block (setRow_other w4 A T (an 1 rq).toArray (by omega)));have M5:=η (dg (S:=A) M4.o (an 1 rq).toArray (by omega));have K5:=η (K4.o.setRow A (an 1 rq).toArray (.inr (.inr rfl)));clear xz Z4 R4 M4 K4;generalize World.setRow _ _ _=w5 at S9 R5 Z5 M5 K5|-;refine⟨ax.aj R5.o.row,?_⟩;refine ax.one 13 _ (by kernel_rfl) rfl rfl ?_;try go_frame
 go_wp2_with fail;refine⟨ax.aj R5.o.row,?_⟩;refine wpAnyH_done (by kernel_rfl) ?_ 0
 try go_frame
 go_wp2_with fail;refine bodyPost_ret (v:=.tuple #[.agg (an 1 rq).toArray,.int .i64 0]) (cn rfl _ _ A (an 1 rq) (.int .i64 0) rfl rfl S9 _ underlying49 (aO.trans rfl)) rfl ?_;rw[OW.o];refine⟨rfl,.inr ⟨WT.o,T,_,?_,Z5.o,by omega,eV M5.o (by omega)⟩,K5.o⟩
 have:=R5.o;rwa[<-IW.o]at this
end
namespace Tp
open Go.Conc
def GX(s t:Nat)(l:List Nat):Bool:=lastB t l&&lastB s l.dropLast&&s != t
def Tb{s t l}(h:GX s t l=true):∃l1,l=l1++[s,t]/\s∉l1/\t∉l1++[s]:=by unfold GX at h;simp only[Bool.and_eq_true,bne_iff_ne,ne_eq]at h;obtain⟨⟨h1,h2⟩,h3⟩:=h;obtain⟨l1,rfl,hn1⟩:=BF h1;rw[List.dropLast_concat]at h2;obtain⟨l2,rfl,hn2⟩:=BF h2;exact⟨l2,by rw[List.append_assoc];rfl,hn2,hn1⟩
section
variable{P:Program}{ops:Array Oper}{Q:Exit->Act->World->Prop}
def JE{S id s t o o'}(hm:P.follows .mixedOrders=true)(hl:oG ops (GX s t) ops.size (Array.replicate ops.size false) []=true)(hg:jh ops=true)(IT:jh (jw ops s)=true)(ho:ops[s]? =some o)(ho':(jw ops s)[t]? =some o')(hQ:∀e a w,Q e a w->e=.normal){a w} (h:wpAnyH P .any (jw (jw ops s) t) Q S (jw (jw ops s) t).size (Array.replicate (jw (jw ops s) t).size false) a {w with drawn:=w.drawn+1}) (b:Frame) k cs:∃a' w',Q .normal a' w'/\Steps P (lone (b.at a (.code (.region id ops true)::k)) cs w) (lone (b.at a' (.inRegion ops [s,t]::k)) cs w'):=by have h1:=zK hm h (w.tape w.drawn (.order b.fn id));rw[sH hm (wP t) (te t),sH hm (wP s) (te s)]at h1;obtain⟨l,hls,hs,ht⟩:=Tb (ED hm hl (w.tape w.drawn (.order b.fn id)));have aS:=step_region_draw (P:=P) (b:=b) (a:=a) (k:=k) (cs:=cs) (w:=w) (ops:=ops) (id:=id);rw[hls]at h1 aS;rw[show l++[s,t]=(l++[s])++[t]by rw[List.append_assoc];rfl]at h1;have h2:=nR (pS hg) ho hQ l a _ hs (nR (pS IT) ho' hQ (l++[s]) a _ ht h1);obtain⟨a',w',hq,h3⟩:=nk hQ l a _ h2 [s,t] b k cs;exact⟨a',w',hq,.head aS h3⟩
end
end Tp
namespace Ph
open Go.Conc
open Tp (bE bR bt da)
section
variable{P:Program}{Stop:Goroutine->World->Prop}{b:Frame}{a:Act}{k:List Item}{cs:List Frame}{w w':World}
def FG{c S id s t o o' ops fo}(e:c=.region id ops true)(hm:P.follows .mixedOrders=true)(hl:Tp.oG ops (Tp.GX s t) ops.size (Array.replicate ops.size false) []=true)(hg:Tp.jh ops=true)(IT:Tp.jh (Tp.jw ops s)=true)(ho:ops[s]? =some o)(ho':(Tp.jw ops s)[t]? =some o')(hf:Tp.jw (Tp.jw ops s) t=fo) (h:wpAnyH P .any fo (Tp.pN λa' w'=>bE P Stop (b.at a' (.inRegion ops [s,t]::k)) cs w') S fo.size (Array.replicate fo.size false) a {w with drawn:=w.drawn+1}):bE P Stop (b.at a (.code c::k)) cs w:=by subst e;subst hf;obtain⟨a',w',q,hs⟩:=Tp.JE (id:=id) hm hl hg IT ho ho' Tp.pM h b k cs;exact da hs q
def nK{f fn c cl}{R:Value->World->Prop}(hf:P.funcs[f]? =some fn)(hb:b.fn=f)(hk:b.kind=.normal)(h:c.wp P (bodyPost P fn λ|.returned v,w=>R v w|_,_=>False) a w) (K:∀v w',R v w'->bE P Stop (cl.finish v) cs w'):bE P Stop (b.at a [.code c]) (cl::cs) w:=by
 obtain⟨e,a',w',q,r⟩:=h b [] (cl::cs);subst hb;have abI:∀(fr:Frame),fr.fn=b.fn->fr.kind=.normal->fr.mode=.returning->fr.defers=[]->∀v,(results fn fr.tmps).run P w'=.ok v w'->R v w'->bE P Stop fr (cl::cs) w':=λfr h1 h2 h3 h4 v hv hR=>bR (step_leave_returned ⟨h3,h4,h2,fn,by rw[h1];exact hf,hv⟩) (K v w' hR);cases e with
 |normal=>obtain⟨hd,v,hv,hR⟩:=q;exact da r (bR step_end (abI _ rfl hk rfl hd v hv hR))
 |ret=>obtain⟨hd,v,hv,hR⟩:=q;obtain⟨todo,hr⟩:=r;exact da hr (abI _ rfl hk rfl hd v hv hR)
 |exit id=>exact q.elim|goto l=>exact q.elim
 |panic ch=>exact q.2.elim|outgrown=>exact q.elim
end
end Ph
