import Derived.Test.YtlpcjiollnnmgaaGreatDoorM04
import Derived.Test.YtlpcjiollnnmgaaGreatDoorM08
set_option maxRecDepth 100000
set_option maxHeartbeats 8000000
set_option linter.all false
namespace Go.Proofs.YtlpcjiollnnmgaaGreatDoor
open Go.Proofs.Tryz
namespace Ph
open Go.Conc Rn ba
open Go.RowKit
open Tp (bu bp Term Ld bS bc bD cT fS)
noncomputable def W:Code:=cb Tryz.f65
noncomputable def WX:Code:=ci (ci (cr (cl W)))
def bw:Frame:={(default:Frame)with fn:=65,kind:=.deferred}
def Hw(kd:List UInt8):List Obj:=[eW,eW,eW,eW,eW,fz [.chan (some 2)] 132,fz [.chan (some 3)] 133,fz (aN kd) 93,fz [.chan (some 4)] 134]
abbrev lp(r:Nat):Value:=.pointer (some ⟨r,0,none⟩)
def fvT(kd t:List UInt8):Value:=.agg (.string (str (En.Hr (cC.Lt (En.yj kd) (En.yh kd) (Mk.ak t))))::ai t).toArray
noncomputable def tJ:List Item:=[.inRegion (co (cl WX)) [0,1],.code (cr WX),.inLoop WX,.inBlock 0,.code (cr W)]
noncomputable def tR:List Item:=[.inRegion (co (cr (ci (cr (cr WX))))) [7],.inBlock 1,.inLoop WX,.inBlock 0,.code (cr W)]
noncomputable def tD:List Item:=[.inRegion (co (cr W)) [2]]
def WA(kd:List UInt8):j8 (List UInt8)->Goroutine->World->Prop
 |.bg=>λg v=>(∃x4 x6 x7 x8 x9 jG ji iJ jF iI kC js kq,g=fS (bw.at ⟨#[lp 5,lp 6,lp 7,lp 8,x4,.chan (some 2),x6,x7,x8,x9,jG,ji,iJ,jF,iI,kC,js,kq],[]⟩ tJ) [wall])/\ie v (Hw kd)|.b9 t=>λg v=>(∃x4 x6 x7 x8 jG ji iJ jF iI js kq,g=fS (bw.at ⟨#[lp 5,lp 6,lp 7,lp 8,x4,.chan (some 2),x6,x7,x8,.chan (some 3),jG,ji,iJ,jF,iI,fvT kd t,js,kq],[]⟩ tR) [wall])/\ie v (Hw kd)|.fg=>λg v=>(∃x4 x6 x7 x8 x9 jG ji iJ jF iI kC,g=fS (bw.at ⟨#[lp 5,lp 6,lp 7,lp 8,x4,.chan (some 2),x6,x7,x8,x9,jG,ji,iJ,jF,iI,kC,.chan (some 4),.agg #[]],[]⟩ tD) [wall])/\ie v (Hw kd)|_=>λ_ _=>False
def WA.re{kd c g v}(h:WA kd c g v) τ n:WA kd c g (v.re τ n):=by cases c<;>exact h
def hW:W=.seq (cl W) (cr W):=rfl
def hWl:cl W=.seq (cl (cl W)) (cr (cl W)):=rfl
def hWb:cr (cl W)=.block 0 (ci (cr (cl W))):=rfl
def hWo:ci (cr (cl W))=.loop WX:=rfl
def hWX:WX=.seq (cl WX) (cr WX):=rfl
def abm(p q r u:Value):Frame.enter prog 65 #[p,q,r,u] .deferred=bw.at ⟨#[p,q,r,u,undef,undef,undef,undef,undef,undef,undef,undef,undef,undef,undef,undef,undef,undef],[]⟩ [.code W]:=by unfold Frame.enter;rw[func65];rfl
def DH(x s:ByteArray)(a0 a1 a2 a3 a4 a5 a6 a7 a8 a9 Hi Hh a12 Hg He Hd Hc Ha G9 G8 a20 a21 G7 G6 a24 G0 GZ GY a28 GX GV a31:UInt8):prog.built 136 [(0,.string x),(1,.agg (.string s::w8 [a0,a1,a2,a3,a4,a5,a6,a7,a8,a9,Hi,Hh,a12,Hg,He,Hd,Hc,Ha,G9,G8,a20,a21,G7,G6,a24,G0,GZ,GY,a28,GX,GV,a31]).toArray)]=some (.string x::.string s::w8 [a0,a1,a2,a3,a4,a5,a6,a7,a8,a9,Hi,Hh,a12,Hg,He,Hd,Hc,Ha,G9,G8,a20,a21,G7,G6,a24,G0,GZ,GY,a28,GX,GV,a31]).toArray:=by kernel_rfl
def Ky(x s:ByteArray)(d:List UInt8)(hd:d.length=32):prog.built 136 [(0,.string x),(1,.agg (.string s::w8 d).toArray)]=some (.string x::.string s::w8 d).toArray:=
 match d,hd with
 |[a0,a1,a2,a3,a4,a5,a6,a7,a8,a9,Hi,Hh,a12,Hg,He,Hd,Hc,Ha,G9,G8,a20,a21,G7,G6,a24,G0,GZ,GY,a28,GX,GV,a31],_=>DH x s a0 a1 a2 a3 a4 a5 a6 a7 a8 a9 Hi Hh a12 Hg He Hd Hc Ha G9 G8 a20 a21 G7 G6 a24 G0 GZ GY a28 GX GV a31
def KC{ops:Array Oper}{rest:List Oper}{o:Oper}{a:Act}{w:World}{Q:Exit->Act->World->Prop}(jk:o.guard=none)(x y:Operand)(ho:o.op=.build 136 #[(0,x),(1,y)]) (s t:List UInt8) (hx:a.eval x=.string (str s)) (hy:a.eval y=.agg (ai t).toArray) (h:wpList prog ops Q rest (a.put o.dst (.agg (.string (str s)::ai t).toArray)) w):wpList prog ops Q (o::rest) a w:=by refine wpList_buildTo jk 136 _ ho _ rfl _ ?_ h;simp only[List.map_toArray,List.map_cons,List.map_nil,hx,hy];exact Ky (str s) (str t) (Mk.ak t) (eM t)
def Ra{ops:Array Oper}{rest:List Oper}{o:Oper}{a:Act}{C:World->Prop}{Q:Act->Prop}(jk:o.guard=none)(x:Operand)(ho:o.op=.load 93 x) (g off:Nat) (kd:List UInt8) (hx:a.eval x=.pointer (some ⟨g,off,none⟩)) (hr:∀w,C w->w.rangeAt g off (aN kd)) (h:wpQuiet prog ops C Q rest (a.put o.dst (.agg (aN kd).toArray))):wpQuiet prog ops C Q (o::rest) a:=by unfold wpQuiet;rw[if_pos (by simp[Region.wanted,jk])];refine⟨_,λw hw=>?_,h⟩;have:=run_loadAt_mid (P:=prog) w g off 93 (aN kd) _ (hr w hw) underlying93 rfl (pF.trans rfl);unfold Oper.quietAt execOp;simp only[ho,hx,Sem.run_bind,this,Result.andThen_ok,Sem.run_pure,Oper.quietUpon];first|trivial|exact⟨trivial,trivial⟩|exact⟨rfl,rfl⟩|exact⟨rfl,hw⟩
def ie.below{v w l B}(h:ie v l)(hb:Below B v w)(hl:l.length<=B):ie w l:=h.keep λb nC=>hb.block b (by omega)
section
variable{kd:List UInt8}{v:World}
def NZ(h:ie v (Hw kd)) x4 x6 x7 x8 x9 jG ji iJ jF iI kC js kq:bS prog (WA kd .bg) (bw.at ⟨#[lp 5,lp 6,lp 7,lp 8,x4,.chan (some 2),x6,x7,x8,x9,jG,ji,iJ,jF,iI,kC,js,kq],[]⟩ [.code WX,.inLoop WX,.inBlock 0,.code (cr W)]) [wall] v:=by refine ay hWX ?_;refine wG (s:=0) (r:=[0,1]) rfl rfl ?_;show bS _ _ _ _ _;exact bc ⟨⟨_,_,_,_,_,_,_,_,_,_,_,_,_,rfl⟩,h⟩
def Zk(h:ie v (Hw kd)):Term prog (WA kd .bg) (fS (Frame.enter prog 65 #[lp 5,lp 6,lp 7,lp 8] .deferred) [wall]) v:=by rw[abm];refine dn bp (λg w τ n (h:WA kd .bg g w)=>h.re τ n) rfl λτ n=>?_;have h:ie (v.re τ n) (Hw kd):=h;generalize v.re τ n=v at h;refine ay hW (ay hWl ?_);have l5:v.cell? ⟨5,0,none⟩=some (.chan (some 2)):=h.row (i:=5) rfl 0;refine aP (c':=.region _ _ _) rfl ?_;go_wp2_with fail;refine bX hWb (eC hWo ?_);exact NZ h _ _ _ _ _ _ _ _ _ _ _ _ _
def amQ:cr WX=.seq (cl (cr WX)) (cr (cr WX)):=rfl
def aus:cr (cr WX)=.block 1 (ci (cr (cr WX))):=rfl
def aur:ci (cr (cr WX))=.seq (cl (ci (cr (cr WX)))) (cr (ci (cr (cr WX)))):=rfl
def adG{t g}(h:WA kd .bg g v):Term prog (WA kd (.b9 t)) (Go.Conc.served g (.tuple #[Fp t,.bool true])) v:=by
 obtain⟨⟨x4,x6,x7,x8,x9,jG,ji,iJ,jF,iI,kC,js,kq,rfl⟩,h⟩:=h;unfold tJ;rw[iC (o:=⟨some 6,_,_,_,_,_⟩) rfl];show Term _ _ (fS (bw.at ⟨#[lp 5,lp 6,lp 7,lp 8,x4,.chan (some 2),.tuple #[.agg (ai t).toArray,.bool true],x7,x8,x9,jG,ji,iJ,jF,iI,kC,js,kq],[]⟩ _) _) v;refine dn bp (λg w τ n (h:WA kd (.b9 t) g w)=>h.re τ n) rfl λτ n=>?_;have h:ie (v.re τ n) (Hw kd):=h;generalize v.re τ n=v at h;refine Tp.jD (o:=⟨some 7,_,_,_,_,_⟩) (v:=.bool true) rfl rfl rfl ?_;show bS _ _ (bw.at ⟨#[lp 5,lp 6,lp 7,lp 8,x4,.chan (some 2),.tuple #[.agg (ai t).toArray,.bool true],.bool true,x8,x9,jG,ji,iJ,jF,iI,kC,js,kq],[]⟩ _) _ _;refine Tp.bR (ay amQ (bT (t:=true) rfl rfl (da rfl (bX aus (ay aur ?_)))));have r1:Row (v.alloc (.cells dc.toArray 69)) v.heap.size dc:=Row.new v dc 69;have hB:Below v.heap.size v (v.alloc (.cells dc.toArray 69)):=(Below.refl _ _).alloc ν _;have B1:=η (below_setRow hB ν (ai t).toArray);have H2:=r1.setRow (ai t);rw[Tryz.gI]at r1 hB B1 H2;have H1:=r1;have HP:=η h;clear r1 hB h;refine aP (c':=.region _ _ _) rfl ?_;go_wp2_with (with_reducible refine au (o:=⟨none,_,_,_,_,_⟩) rfl _ _ _ rfl v.heap.size dc (ai t) rfl rfl H1 (cW.trans (by rw[aE])) (by rw[aE,bq]) (aY t) ?_);clear H1;have P2:ie _ (Hw kd):=HP.o.below B1.o HP.o.le;have hA9:9<=v.heap.size:=HP.o.le;obtain⟨A,hA⟩:∃A,v.heap.size=A:=⟨_,rfl⟩;rw[hA]at B1 H2 P2 hA9|-;clear B1 HP hA;generalize World.setRow _ A (ai t).toArray=w2 at H2 P2|-;have hu6:∀u:ax.Of (λu=>ie u (Hw kd)/\Row u A (ai t)),u.w.cell? ⟨6,0,none⟩=some (.chan (some 3)):=λu=>u.h.1.row (i:=6) rfl 0;haveI cE:Nonempty (ax.Of (λu=>ie u (Hw kd)/\Row u A (ai t))):=⟨⟨w2,P2,H2⟩⟩;refine Yz (S:=ax.cls (λu=>ie u (Hw kd)/\Row u A (ai t))) (s:=7) (fo:=#[_,_,_,_,_,_,_,⟨none,.move (.const undef),0,"relay.go:183",#[_,_,_],none⟩]) rfl mixed (by kernel_rfl) (by kernel_rfl) rfl rfl ?_;refine ax.iQ [0,1,2,3,5] 3 (by rfl) (by kernel_rfl) (by rfl) (λc a d v w h=>h) (by as_aux_lemma=>kernel_rfl) (by rfl) (ax.aq ⟨P2,H2⟩) ?_;show wpQuiet _ _ _ _ [_,_,_,_,_] _;go_big_quiet_step (fail);refine Ra (o:=⟨some 10,_,_,_,_,_⟩) rfl _ rfl 7 0 kd rfl (λw hw=>by obtain⟨u,rfl⟩:=hw;exact λj x hx=>by rw[Nat.zero_add,u.h.1.row (i:=7) rfl j];exact hx) ?_;go_frame;go_big_quiet_step (fail);refine eE (o:=⟨some 12,_,_,_,_,_⟩) rfl _ rfl A 1 (Mk.ak t) (eM t) rfl (λw hw=>by obtain⟨u,rfl⟩:=hw;exact λj x hx=>by rw[u.h.2.cell];show(Value.string (str t)::w8 (Mk.ak t))[1+j]? =_;rw[Nat.add_comm];exact hx) ?_;go_frame;refine Mp.Ae (o:=⟨some 14,_,_,_,_,_⟩) rfl _ rfl A 0 t rfl (λw hw=>by obtain⟨u,rfl⟩:=hw;exact λj x hx=>by rw[Nat.zero_add,u.h.2.cell];exact hx) ?_;go_frame;refine wpQuiet_nil ?_;have T1:=η (tF kd (Mk.ak t) w2.drew (eM t));have P3:ie w2.drew (Hw kd):=P2;have R3:=H2.drew;have XB:=R3.lt;clear hu6 P2 H2;show wpAnyH _ _ _ _ _ _ _ _ w2.drew;generalize w2.drew=w3 at P3 R3 T1 XB|-;refine ax.one 4 _ (by kernel_rfl) rfl rfl ?_;try go_frame
 go_wp2_with fail;refine T1.o.mono ?_;clear T1;rintro e w4⟨rfl,mE⟩;have P4:ie w4 (Hw kd):=P3.below mE P3.le;have R4:=R3.below mE XB;clear mE P3 R3 XB;go_wp2_with fail;refine⟨ax.aq ⟨P4,R4⟩,?_⟩;refine ax.one 6 _ (by kernel_rfl) rfl rfl ?_
 try go_frame
 refine KC (o:=⟨some 15,_,_,_,_,_⟩) rfl _ _ rfl _ t rfl rfl ?_;go_frame;go_wp2_with fail;refine⟨ax.aq ⟨P4,R4⟩,?_⟩;refine ax.one 7 _ (by kernel_rfl) rfl rfl ?_;go_wp2_with fail;refine⟨ax.aq ⟨P4,R4⟩,?_⟩;refine wpAnyH_done (by kernel_rfl) ?_ 0
 exact bc ⟨⟨_,_,_,_,_,_,_,_,_,_,_,rfl⟩,P4⟩
def akJ{g z}(h:WA kd .bg g v):Term prog (WA kd .fg) (Go.Conc.served g (.tuple #[z,.bool false])) v:=by obtain⟨⟨x4,x6,x7,x8,x9,jG,ji,iJ,jF,iI,kC,js,kq,rfl⟩,h⟩:=h;unfold tJ;rw[iC (o:=⟨some 6,_,_,_,_,_⟩) rfl];show Term _ _ (fS (bw.at ⟨#[lp 5,lp 6,lp 7,lp 8,x4,.chan (some 2),.tuple #[z,.bool false],x7,x8,x9,jG,ji,iJ,jF,iI,kC,js,kq],[]⟩ _) _) v;refine dn bp (λg w τ n (h:WA kd .fg g w)=>h.re τ n) rfl λτ n=>?_;have h:ie (v.re τ n) (Hw kd):=h;generalize v.re τ n=v at h;refine Tp.jD (o:=⟨some 7,_,_,_,_,_⟩) (v:=.bool false) rfl rfl rfl ?_;show bS _ _ (bw.at ⟨#[lp 5,lp 6,lp 7,lp 8,x4,.chan (some 2),.tuple #[z,.bool false],.bool false,x8,x9,jG,ji,iJ,jF,iI,kC,js,kq],[]⟩ _) _ _;refine Tp.bR (ay amQ (bT (t:=false) rfl rfl (eD rfl rfl ?_)));have l8:v.cell? ⟨8,0,none⟩=some (.chan (some 4)):=h.row (i:=8) rfl 0;refine ep 2 [2] rfl rfl (by decide +kernel) ?_;show wpList _ _ _ [_,_] _ _;go_wp2_with fail;exact bc ⟨⟨_,_,_,_,_,_,_,_,_,_,_,rfl⟩,h⟩
def adF{t g}(h:WA kd (.b9 t) g v):Term prog (WA kd .bg) (Go.Conc.served g undef) v:=by obtain⟨⟨x4,x6,x7,x8,jG,ji,iJ,jF,iI,js,kq,rfl⟩,h⟩:=h;unfold tR;rw[iC (o:=⟨none,_,_,_,_,_⟩) rfl];show Term _ _ (fS (bw.at ⟨#[lp 5,lp 6,lp 7,lp 8,x4,.chan (some 2),x6,x7,x8,.chan (some 3),jG,ji,iJ,jF,iI,fvT kd t,js,kq],[]⟩ _) _) v;refine dn bp (λg w τ n (h:WA kd .bg g w)=>h.re τ n) rfl λτ n=>?_;have h:ie (v.re τ n) (Hw kd):=h;generalize v.re τ n=v at h;refine Tp.bR (Tp.db (Tp.dA ?_));exact NZ h _ _ _ _ _ _ _ _ _ _ _ _ _
end
end Ph
namespace Ph
open Go.Conc Rn ba
open Go.RowKit
open Tp (bu bp Term Ld bS bc bD cT fS)
noncomputable def F:Code:=cb Tryz.f66
noncomputable def FX:Code:=ci (ci (cr (cl F)))
noncomputable def FY:Code:=ci (ci (cr (cl (cr (cr F)))))
def bf:Frame:={(default:Frame)with fn:=66,kind:=.deferred}
def vm:Value:=.func (.method "") #[.nilIface] #[]
def Hf(es:Array MapEntry)(clock:Nat):List Obj:=[eW,eW,eW,eW,eW,fz [lp 9] 72,fz [.chan (some 2)] 132,fz [.chan (some 4)] 134,fz [.chan (some 3)] 133,fz [.map (some 10),vm,vm,vm] 41,.map es clock]
noncomputable def tS:List Item:=[.inRegion (co (cr (ci (cr (cr FX))))) [2],.inBlock 1,.inLoop FX,.inBlock 0,.code (cr F)]
noncomputable def tCJ:List Item:=[.inRegion (co (cl (cr F))) [1],.code (cr (cr F))]
noncomputable def tRD:List Item:=[.inRegion (co (ci (cl (cr (cr FY))))) [1],.inBlock 3,.code (cr (cr (cr FY))),.inLoop FY,.inBlock 2,.code (cr (cr (cr F)))]
noncomputable def tCR:List Item:=[.inRegion (co (cr (cr (cr F)))) [1]]
def Di(left:Lit->Bool)(P:List (List UInt8)):List (List UInt8):=P.filter λt=>left (.string (Mk.ak t))
def QN{left}(h:∀kl,left kl=false) P:Di left P=[]:=by unfold Di;rw[List.filter_eq_nil_iff];intro t _;rw[h];simp
def Vk(P:List (List UInt8))(mg:Pl.Up Mk.ak P):Di (Maps.has (Mp.D P)) P=P:=by unfold Di;rw[List.filter_eq_self];intro t ht;rw[Mp.JZ P _ mg];exact(Pl.at_mem Mk.ak (Mk.ak t) P mg).2 ⟨t,ht,rfl⟩
theorem Ej(left:Lit->Bool)(t:List UInt8)(hl:left (.string (Mk.ak t))=true):∀(P:List (List UInt8)),Pl.Up Mk.ak P->t∈P->(Di left P).Perm (t::Di (λz=>left z&& !z.sameKey (.string (Mk.ak t))) P)
 |[],_,h=>by cases h
 |y::P,mg,h=>by
  obtain⟨h1,h2⟩:=List.pairwise_cons.1 mg;unfold Di at *;by_cases hy:y=t;subst hy;rw[List.filter_cons_of_pos (p:=λt=>left (.string (Mk.ak t))) hl,List.filter_cons_of_neg (by dsimp only;rw[Mp.mT];simp)];refine List.Perm.cons _ ?_;have:P.filter (λu=>left (.string (Mk.ak u)))=P.filter (λu=>left (.string (Mk.ak u))&& !(Lit.string (Mk.ak u)).sameKey (.string (Mk.ak y))):=List.filter_congr λu hu=>by
   have cE:Mk.ak y≠Mk.ak u:=λe=>by have:=h1 u hu;rw[e]at this;exact Pl.sI _ this
   rw[Mp.mT];have:(Mk.ak u==Mk.ak y)=false:=by simpa using λe=>cE e.symm
   rw[this];simp
  rw[this];have ht:t∈P:=by rcases List.mem_cons.1 h with e|h;exact absurd e.symm hy;exact h
  have ih:=Ej left t hl P h2 ht;unfold Di at ih;have cE:Mk.ak y≠Mk.ak t:=λe=>by have:=h1 t ht;rw[e]at this;exact Pl.sI _ this
  have hk:(!(Lit.string (Mk.ak y)).sameKey (.string (Mk.ak t)))=true:=by
   rw[Mp.mT];have:(Mk.ak y==Mk.ak t)=false:=by simpa using cE
   rw[this];rfl
  by_cases hyl:left (.string (Mk.ak y))=true;rw[List.filter_cons_of_pos (p:=λt=>left (.string (Mk.ak t))) hyl,List.filter_cons_of_pos (by dsimp only;rw[hyl,hk];rfl)];exact(List.Perm.cons y ih).trans (List.Perm.swap t y _);rw[List.filter_cons_of_neg (p:=λt=>left (.string (Mk.ak t))) hyl,List.filter_cons_of_neg (by simp[hyl])];exact ih
def ai7{P:List (List UInt8)}{x:List UInt8}{z:DataW Unit}(h:∀zd,(Mp.D P).atKey (.string x) zd=z):∃t∈P,Mk.ak t=x/\z=.lit (.string t):=by
 unfold Mp.D DataW.atKey at h;dsimp only at h;cases hf:(Mp.uE P).find? (λp=>p.1.sameKey (.string x))with
 |none=>rw[hf]at h;have h1:=h .nil;have h2:=h (.lit (.bool true));rw[<-h1]at h2;cases h2
 |some p=>rw[hf]at h;have hm:=List.mem_of_find?_eq_some hf;have hp:=List.find?_some hf;unfold Mp.uE at hm;obtain⟨t,ht,rfl⟩:=List.mem_map.1 hm;rw[Mp.mT]at hp;exact⟨t,ht,by simpa using hp,(h .nil).symm⟩
def FA(P:List (List UInt8))(es:Array MapEntry)(clock:Nat):j8 (List UInt8)->Goroutine->World->Prop
 |.cU t rem=>λg v=>(∃x4 x5 x6 x7 x8 x9 ji iJ jF iI kq oM rX rz nD mI nz,g=fS (bf.at ⟨#[lp 5,lp 6,lp 7,lp 8,x4,x5,x6,x7,x8,x9,lp 11,ji,iJ,jF,iI,.chan (some 2),Fp t,kq,oM,rX,rz,nD,mI,nz],[]⟩ tS) [wall])/\ie v (Hf es clock)/\∃left cnt,v.ranges prog 67 Mp.wK 10 11 20 (Mp.D P) left cnt/\rem.Perm (Di left P)|.fb=>λg v=>(∃x4 x5 x6 x7 x8 x9 jG ji iJ jF iI kC js oM rX rz nD mI nz,g=fS (bf.at ⟨#[lp 5,lp 6,lp 7,lp 8,x4,x5,x6,x7,x8,x9,jG,ji,iJ,jF,iI,kC,js,.chan (some 2),oM,rX,rz,nD,mI,nz],[]⟩ tCJ) [wall])/\ie v (Hf es clock)|.bx k=>λg v=>(∃x4 x5 x6 x7 x8 x9 jG ji iJ jF iI kC js kq rX nD mI nz,g=fS (bf.at ⟨#[lp 5,lp 6,lp 7,lp 8,x4,x5,x6,x7,x8,x9,jG,ji,iJ,jF,iI,kC,js,kq,.int .i64 (k:Int),rX,.chan (some 4),nD,mI,nz],[]⟩ tRD) [wall])/\ie v (Hf es clock)/\k<3|.dk=>λg v=>(∃x4 x5 x6 x7 x8 x9 jG ji iJ jF iI kC js kq oM rX rz nD mI,g=fS (bf.at ⟨#[lp 5,lp 6,lp 7,lp 8,x4,x5,x6,x7,x8,x9,jG,ji,iJ,jF,iI,kC,js,kq,oM,rX,rz,nD,mI,.chan (some 3)],[]⟩ tCR) [wall])/\ie v (Hf es clock)|_=>λ_ _=>False
def FA.re{P es clock c g v}(h:FA P es clock c g v) τ n:FA P es clock c g (v.re τ n):=by cases c<;>exact h
def xL(P:List (List UInt8))(es:Array MapEntry)(clock:Nat)(rem:List (List UInt8))(g:Goroutine)(v:World):Prop:=(∃a Dj,rem.Perm (a::Dj)/\FA P es clock (.cU a Dj) g v)∨(rem=[]/\FA P es clock .fb g v)
theorem xL.re{P es clock rem g v}(h:xL P es clock rem g v) τ n:xL P es clock rem g (v.re τ n):=h.imp (λ⟨a,r,h1,h2⟩=>⟨a,r,h1,h2.re τ n⟩) (λ⟨h1,h2⟩=>⟨h1,h2.re τ n⟩)
def hF:F=.seq (cl F) (cr F):=rfl
def hFl:cl F=.seq (cl (cl F)) (cr (cl F)):=rfl
def hFb:cr (cl F)=.block 0 (ci (cr (cl F))):=rfl
def hFo:ci (cr (cl F))=.loop FX:=rfl
def hFX:FX=.seq (cl FX) (cr FX):=rfl
def ang:cr FX=.seq (cl (cr FX)) (cr (cr FX)):=rfl
def au8:cr (cr FX)=.block 1 (ci (cr (cr FX))):=rfl
def au7:ci (cr (cr FX))=.seq (cl (ci (cr (cr FX)))) (cr (ci (cr (cr FX)))):=rfl
def hFr:cr F=.seq (cl (cr F)) (cr (cr F)):=rfl
def au4:cr (cr F)=.seq (cl (cr (cr F))) (cr (cr (cr F))):=rfl
def hFy:cl (cr (cr F))=.seq (cl (cl (cr (cr F)))) (cr (cl (cr (cr F)))):=rfl
def au3:cr (cl (cr (cr F)))=.block 2 (ci (cr (cl (cr (cr F))))):=rfl
def au2:ci (cr (cl (cr (cr F))))=.loop FY:=rfl
def hFY:FY=.seq (cl FY) (cr FY):=rfl
def anf:cr FY=.seq (cl (cr FY)) (cr (cr FY)):=rfl
def au6:cr (cr FY)=.seq (cl (cr (cr FY))) (cr (cr (cr FY))):=rfl
def au5:cl (cr (cr FY))=.block 3 (ci (cl (cr (cr FY)))):=rfl
def abo(p q r u:Value):Frame.enter prog 66 #[p,q,r,u] .deferred=bf.at ⟨#[p,q,r,u,undef,undef,undef,undef,undef,undef,undef,undef,undef,undef,undef,undef,undef,undef,undef,undef,undef,undef,undef,undef],[]⟩ [.code F]:=by unfold Frame.enter;rw[func66];kernel_rfl
def Vf{P:List (List UInt8)}{v w:World}{left:Lit->Bool}{cnt B:Nat}(h:v.ranges prog 67 Mp.wK 10 11 20 (Mp.D P) left cnt)(h12:11<B)(hb:Below B v w):w.ranges prog 67 Mp.wK 10 11 20 (Mp.D P) left cnt:=by obtain⟨es,clock,since,seen,c0,h1,h2,h3,h4,h5,h6⟩:=h;exact⟨es,clock,since,seen,c0,(hb.block 10 (by omega)).trans h1,h2,h3,h4,(hb.block 11 h12).trans h5,h6⟩
def ie.rg{P:List (List UInt8)}{v:World}{l:List Obj}{left:Lit->Bool}{cnt:Nat}(_:ie v l)(h:v.ranges prog 67 Mp.wK 10 11 20 (Mp.D P) left cnt):11<v.heap.size:=h.lt
section
variable{P:List (List UInt8)}{es:Array MapEntry}{clock:Nat}{v:World}
def PW(mg:Pl.Up Mk.ak P)(h:ie v (Hf es clock)){left:Lit->Bool}{cnt:Nat}(TT:v.ranges prog 67 Mp.wK 10 11 20 (Mp.D P) left cnt){rem:List (List UInt8)}(aaI:rem.Perm (Di left P))(x4 x5 x6 x7 x8 x9 ji iJ jF iI kC js kq oM rX rz nD mI nz:Value):bS prog (xL P es clock rem) (bf.at ⟨#[lp 5,lp 6,lp 7,lp 8,x4,x5,x6,x7,x8,x9,lp 11,ji,iJ,jF,iI,kC,js,kq,oM,rX,rz,nD,mI,nz],[]⟩ [.code FX,.inLoop FX,.inBlock 0,.code (cr F)]) [wall] v:=by
 have HP:=η h;have HUP:=η mg;have ajz:=η aaI;clear h mg aaI;refine ay hFX (aP (c':=.region _ _ _) rfl ?_);go_wp2_with (at_next;refine wpList_next_ranges _ (o:=⟨some 11,_,_,_,_,_⟩) rfl _ rfl 67 Mp.law Mp.wK (λd:{d:List UInt8 // d.length=32}=>Value.agg (w8 d.1).toArray) (λc:Value=>c) (λkey kl hk=>by obtain⟨d,hd,hv,_⟩:=Gk hk;exact⟨⟨d,hd⟩,hv⟩) (λv y hv=>⟨v,rfl⟩) 10 11 20 _ _ _ rfl TT ?_ ?_)
 ·intro vV hl0;go_wp2_with fail;show bS _ _ _ _ _;refine ay ang (bT (t:=false) rfl rfl (eD rfl rfl ?_));have h:=HP.o;have l6:v.cell? ⟨6,0,none⟩=some (.chan (some 2)):=h.row (i:=6) rfl 0;refine ay hFr (ep 1 [1] rfl rfl (by decide +kernel) ?_);show wpList _ _ _ [_] _ _;go_wp2_with fail;exact bc (.inr ⟨by have:=ajz.o;rw[QN hl0]at this;exact this.eq_nil,⟨_,_,_,_,_,_,_,_,_,_,_,_,_,_,_,_,_,_,_,rfl⟩,h⟩)
 intro x hx c kl yd yp w2 anG vT hlk hv nj WN aM T8 oO hen;obtain rfl:kl=.string x:=by rw[Mp.Bf x hx]at vT;exact(Option.some.inj vT).symm
 obtain⟨t,htP,rfl,rfl⟩:=ai7 nj;obtain⟨t',rfl,hz⟩|⟨_,hz⟩:=Mp.Fq hv;case inr=>cases hz
 obtain rfl:t=t':=by have:=(Prod.mk.inj hz).1;injection this with this;injection this
 have an7:=η (ajz.o.trans (Ej left t hlk P HUP.o htP));have h2:ie w2 (Hf es clock):=HP.o.keep λb hb=>T8.block b (Nat.lt_of_lt_of_le hb HP.o.le) (λe=>by have:b=11:=Option.some.inj e;have:b<11:=hb;omega);have HRG:=η WN;have H2:=η h2;clear vT hlk hv nj hz T8 oO WN aM hx TT HP ajz h2;go_wp2_with fail;show bS _ _ _ _ _;refine ay ang (bT (t:=true) rfl rfl (da rfl (bX au8 (ay au7 ?_))));have r1:Row (w2.alloc (.cells dc.toArray 69)) w2.heap.size dc:=Row.new w2 dc 69;have hB:Below w2.heap.size w2 (w2.alloc (.cells dc.toArray 69)):=(Below.refl _ _).alloc ν _;have B1:=η (below_setRow hB ν (ai t).toArray);have H4:=r1.setRow (ai t);rw[Tryz.gI]at r1 hB B1 H4;have H1:=r1;clear r1 hB;have at6:Sem.run prog (Instr.entry (Value.pointer (some {block:=11,off:=0}))) w2=Result.ok (Value.tuple #[Value.agg (w8 (Mk.ak t)).toArray,.agg (ai t).toArray]) w2:=hen;clear hen;refine aP (c':=.region _ _ _) rfl ?_;go_wp2_with (with_reducible refine au (o:=⟨none,_,_,_,_,_⟩) rfl _ _ _ rfl w2.heap.size dc (ai t) rfl rfl H1 (cW.trans (by rw[aE])) (by rw[aE,bq]) (aY t) ?_);clear H1 at6;have P3:ie _ (Hf es clock):=H2.o.below B1.o H2.o.le;have R3:=Vf HRG.o (ie.rg H2.o HRG.o) B1.o;have hA9:11<=w2.heap.size:=H2.o.le;obtain⟨A,hA⟩:∃A,w2.heap.size=A:=⟨_,rfl⟩;rw[hA]at B1 H4 P3 R3|-;clear B1 hA HRG H2;generalize World.setRow _ A (ai t).toArray=w3 at H4 P3 R3|-;have l6:w3.cell? ⟨6,0,none⟩=some (.chan (some 2)):=P3.row (i:=6) rfl 0;refine ep 2 [2] rfl rfl (by decide +kernel) ?_;show wpList _ _ _ [_,_] _ _;go_wp2_with (refine dW (o:=⟨some 16,_,_,_,_,_⟩) rfl _ _ rfl A (ai t) rfl H4 _ underlying69 (cW.trans (by rw[aE])) _ rfl ?_);exact bc (.inl ⟨t,_,an7.o,⟨_,_,_,_,_,_,_,_,_,_,_,_,_,_,_,_,_,rfl⟩,P3,_,_,R3,.refl _⟩)
def abi(mg:Pl.Up Mk.ak P)(h:ie v (Hf es clock))(hs:v.heap.size=11)(hm:v.ownsMap prog 67 Mp.wK 10 20 (Mp.D P)):Term prog (xL P es clock P) (fS (Frame.enter prog 66 #[lp 5,lp 6,lp 7,lp 8] .deferred) [wall]) v:=by rw[abo];refine dn bp (λg w τ n (h:xL P es clock P g w)=>h.re τ n) rfl λτ n=>?_;have h:ie (v.re τ n) (Hf es clock):=h;have hs:(v.re τ n).heap.size=11:=hs;have hm:(v.re τ n).ownsMap prog 67 Mp.wK 10 20 (Mp.D P):=hm;generalize v.re τ n=v at h hs hm;have HU:=η mg;have HP:=η h;have HM:=η hm;have HS:=η hs;have l5:v.cell? ⟨5,0,none⟩=some (lp 9):=h.row (i:=5) rfl 0;have l9:v.cell? ⟨9,0,none⟩=some (.map (some 10)):=h.row (i:=9) rfl 0;clear h mg hm hs;refine ay hF (ay hFl (aP (c':=.region _ _ _) rfl ?_));go_wp2_with (at_range;refine wpList_range_own _ (o:=⟨some 10,_,_,_,_,_⟩) rfl _ 35 rfl 67 69 Mp.law underlying35 Mp.wK 10 20 (Mp.D P) rfl HM.o ?_;intro w0 WO hg0 rQ);rw[HS.o]at WO;show bS _ _ (bf.at ⟨#[_,_,_,_,_,_,_,_,_,_,.pointer (some ⟨v.heap.size,0,none⟩),_,_,_,_,_,_,_,_,_,_,_,_,_],[]⟩ _) _ _;rw[HS.o];have h0:ie w0 (Hf es clock):=HP.o.keep λb hb=>hg0.block b (Nat.lt_of_lt_of_le hb HP.o.le) (λe=>by cases e);refine bX hFb (eC hFo ?_);exact PW HU.o h0 WO (by rw[Vk P HU.o]) _ _ _ _ _ _ _ _ _ _ _ _ _ _ _ _ _ _ _
def aiW(mg:Pl.Up Mk.ak P){t rem g}(h:FA P es clock (.cU t rem) g v):Term prog (xL P es clock rem) (Go.Conc.served g undef) v:=by obtain⟨⟨x4,x5,x6,x7,x8,x9,ji,iJ,jF,iI,kq,oM,rX,rz,nD,mI,nz,rfl⟩,h,left,cnt,TT,aaI⟩:=h;unfold tS;rw[iC (o:=⟨none,_,_,_,_,_⟩) rfl];show Term _ _ (fS (bf.at ⟨#[lp 5,lp 6,lp 7,lp 8,x4,x5,x6,x7,x8,x9,lp 11,ji,iJ,jF,iI,.chan (some 2),Fp t,kq,oM,rX,rz,nD,mI,nz],[]⟩ _) _) v;refine dn bp (λg w τ n (h:xL P es clock rem g w)=>h.re τ n) rfl λτ n=>?_;have h:ie (v.re τ n) (Hf es clock):=h;have TT:(v.re τ n).ranges prog 67 Mp.wK 10 11 20 (Mp.D P) left cnt:=TT;generalize v.re τ n=v at h TT;refine Tp.bR (Tp.db (Tp.dA ?_));exact PW mg h TT aaI _ _ _ _ _ _ _ _ _ _ _ _ _ _ _ _ _ _ _
def XQ(h:ie v (Hf es clock)){k}(hk:k<3) x4 x5 x6 x7 x8 x9 jG ji iJ jF iI kC js kq rX rz nD mI nz:bS prog (FA P es clock (.bx k)) (bf.at ⟨#[lp 5,lp 6,lp 7,lp 8,x4,x5,x6,x7,x8,x9,jG,ji,iJ,jF,iI,kC,js,kq,.int .i64 (k:Int),rX,rz,nD,mI,nz],[]⟩ [.code FY,.inLoop FY,.inBlock 2,.code (cr (cr (cr F)))]) [wall] v:=by
 have l7:v.cell? ⟨7,0,none⟩=some (.chan (some 4)):=h.row (i:=7) rfl 0;have HP:=η h;clear h;have Sn:((k:Int)<3):=by omega
 refine ay hFY (aP (c':=.region _ _ _) rfl ?_);go_wp2_with fail;show bS _ _ _ _ _;refine ay anf (bT (t:=true) rfl (by simp[Act.eval,Sn]) (da rfl (ay au6 (bX au5 ?_))));refine ep 1 [1] rfl rfl (by decide +kernel) ?_;show wpList _ _ _ [_] _ _;go_wp2_with fail;exact bc ⟨⟨_,_,_,_,_,_,_,_,_,_,_,_,_,_,_,_,_,_,rfl⟩,HP.o,hk⟩
def XR{g}(h:FA P es clock .fb g v):Term prog (FA P es clock (.bx 0)) (dU g (.tuple #[])) v:=by obtain⟨⟨x4,x5,x6,x7,x8,x9,jG,ji,iJ,jF,iI,kC,js,oM,rX,rz,nD,mI,nz,rfl⟩,h⟩:=h;unfold tCJ;rw[Ck (o:=⟨none,_,_,_,_,_⟩) rfl];show Term _ _ (fS (bf.at ⟨#[lp 5,lp 6,lp 7,lp 8,x4,x5,x6,x7,x8,x9,jG,ji,iJ,jF,iI,kC,js,.chan (some 2),oM,rX,rz,nD,mI,nz],[]⟩ _) _) v;refine dn bp (λg w τ n (h:FA P es clock (.bx 0) g w)=>h.re τ n) rfl λτ n=>?_;have h:ie (v.re τ n) (Hf es clock):=h;generalize v.re τ n=v at h;have HP:=η h;clear h;refine Tp.bR (ay au4 (ay hFy (aP (c':=.region _ _ _) rfl ?_)));go_wp2_with fail;show bS _ _ _ _ _;refine bX au3 (eC au2 ?_);exact XQ (k:=0) HP.o (by omega) _ _ _ _ _ _ _ _ _ _ _ _ _ _ _ _ _ _ _
def abj{k g} z(hk:k<2)(h:FA P es clock (.bx k) g v):Term prog (FA P es clock (.bx (k+1))) (Go.Conc.served g z) v:=by
 obtain⟨⟨x4,x5,x6,x7,x8,x9,jG,ji,iJ,jF,iI,kC,js,kq,rX,nD,mI,nz,rfl⟩,h,_⟩:=h;unfold tRD;rw[iC (o:=⟨some 21,_,_,_,_,_⟩) rfl];show Term _ _ (fS (bf.at ⟨#[lp 5,lp 6,lp 7,lp 8,x4,x5,x6,x7,x8,x9,jG,ji,iJ,jF,iI,kC,js,kq,.int .i64 (k:Int),rX,.chan (some 4),z,mI,nz],[]⟩ _) _) v;refine dn bp (λg w τ n (h:FA P es clock (.bx (k+1)) g w)=>h.re τ n) rfl λτ n=>?_;have h:ie (v.re τ n) (Hf es clock):=h;generalize v.re τ n=v at h;have HP:=η h;clear h;have hw:wrap64 ((k:Int)+1)=((k+1:Nat):Int):=by unfold wrap64;omega
 refine Tp.bR (Tp.db (aP (c':=.region _ _ _) rfl ?_));go_wp2_with fail;show bS _ _ _ _ _;refine Tp.dA ?_;first|rw[hw]|skip
 exact XQ (k:=k+1) HP.o (by omega) _ _ _ _ _ _ _ _ _ _ _ _ _ _ _ _ _ _ _
def aiX{g} z(h:FA P es clock (.bx 2) g v):Term prog (FA P es clock .dk) (Go.Conc.served g z) v:=by obtain⟨⟨x4,x5,x6,x7,x8,x9,jG,ji,iJ,jF,iI,kC,js,kq,rX,nD,mI,nz,rfl⟩,h,_⟩:=h;unfold tRD;rw[iC (o:=⟨some 21,_,_,_,_,_⟩) rfl];show Term _ _ (fS (bf.at ⟨#[lp 5,lp 6,lp 7,lp 8,x4,x5,x6,x7,x8,x9,jG,ji,iJ,jF,iI,kC,js,kq,.int .i64 2,rX,.chan (some 4),z,mI,nz],[]⟩ _) _) v;refine dn bp (λg w τ n (h:FA P es clock .dk g w)=>h.re τ n) rfl λτ n=>?_;have h:ie (v.re τ n) (Hf es clock):=h;generalize v.re τ n=v at h;have l8:v.cell? ⟨8,0,none⟩=some (.chan (some 3)):=h.row (i:=8) rfl 0;have HP:=η h;clear h;refine Tp.bR (Tp.db (aP (c':=.region _ _ _) rfl ?_));go_wp2_with fail;show bS _ _ _ _ _;refine Tp.dA (ay hFY (aP (c':=.region _ _ _) rfl ?_));go_wp2_with fail;show bS _ _ _ _ _;refine ay anf (bT (t:=false) rfl (by simp[Act.eval]) (eD rfl rfl ?_));refine ep 1 [1] rfl rfl (by decide +kernel) ?_;show wpList _ _ _ [_] _ _;go_wp2_with fail;exact bc ⟨⟨_,_,_,_,_,_,_,_,_,_,_,_,_,_,_,_,_,_,_,rfl⟩,HP.o⟩
end
end Ph
namespace Ph
open Go.Conc Rn ba
open Go.RowKit
open Tp (bu bp Term Ld bS bc bD cT fS)
noncomputable def M:Code:=cb Tryz.f33
noncomputable def M4:Code:=cr (cr (cr (cr M)))
noncomputable def MX:Code:=ci (ci (cr (cl M4)))
noncomputable def M8:Code:=cr M4
noncomputable def M9:Code:=cr M8
noncomputable def YT:Code:=cr M9
noncomputable def MY:Code:=ci (ci (cr (cl YT)))
noncomputable def M14:Code:=cr YT
def bm:Frame:={(default:Frame)with fn:=33,kind:=.normal}
def Hs(kd:List UInt8):List Obj:=[eW,eW,eW,eW,eW,fz [vm] 72,fz (aN kd) 93,fz [.chan (some 2)] 132,fz [.chan (some 3)] 133,fz [.chan (some 4)] 134]
noncomputable def tG:List Item:=[.inRegion (co (ci (cl (cr (cr MX))))) [1],.inBlock 1,.code (cr (cr (cr MX))),.inLoop MX,.inBlock 0,.code M8]
noncomputable def tG3:List Item:=[.inRegion (co (cl M8)) [1],.code M9]
noncomputable def tRR:List Item:=[.inRegion (co (cl MY)) [0,1],.code (cr MY),.inLoop MY,.inBlock 2,.code M14]
def bQ(kd t:List UInt8):List UInt8:=En.Hr (cC.Lt (En.yj kd) (En.yh kd) (Mk.ak t))
def SA(kd:List UInt8):j8 (List UInt8)->Goroutine->World->Prop
 |.spawn k=>λg v=>((k<3/\∃x0 x1 x4 x8 x9 jG ji iJ iI js kq oM rX rz nD mI nz CX CW CV CU CQ CO CN CL xM yE yD,g=fS (bm.at ⟨#[x0,x1,lp 5,lp 6,x4,lp 7,lp 8,lp 9,x8,x9,jG,ji,iJ,.int .i64 (k:Int),iI,.func (.func 65) #[] #[lp 7,lp 8,lp 6,lp 9],js,kq,oM,rX,rz,nD,mI,nz,CX,CW,CV,CU,CQ,CO,CN,CL,xM,yE,yD],[]⟩ tG) [wall])∨(k=3/\∃x0 x1 x4 x8 x9 jG ji iJ jF iI kC js oM rX rz nD mI nz CX CW CV CU CQ CO CN CL xM yE yD,g=fS (bm.at ⟨#[x0,x1,lp 5,lp 6,x4,lp 7,lp 8,lp 9,x8,x9,jG,ji,iJ,jF,iI,kC,js,.func (.func 66) #[] #[lp 5,lp 7,lp 9,lp 8],oM,rX,rz,nD,mI,nz,CX,CW,CV,CU,CQ,CO,CN,CL,xM,yE,yD],[]⟩ tG3) [wall]))/\ie v (Hs kd)/\v.heap.size=10|.aZ bC=>λg v=>(∃x0 x1 x4 x9 jG ji iJ jF iI kC js kq oM rz nD mI nz CX CW CV CU CQ CO CN CL xM yE yD,g=fS (bm.at ⟨#[x0,x1,lp 5,lp 6,x4,lp 7,lp 8,lp 9,.map (some 10),x9,jG,ji,iJ,jF,iI,kC,js,kq,oM,.chan (some 3),rz,nD,mI,nz,CX,CW,CV,CU,CQ,CO,CN,CL,xM,yE,yD],[]⟩ tRR) [wall])/\ie v (Hs kd)/\ny v 11 10 (bQ kd) bC/\bC.length<=1000|_=>λ_ _=>False
def SA.re{kd c g v}(h:SA kd c g v) τ n:SA kd c g (v.re τ n):=by cases c<;>exact h
def hM4:M4=.seq (cl M4) (cr M4):=rfl
def auX:cl M4=.seq (cl (cl M4)) (cr (cl M4)):=rfl
def auY:cr (cl M4)=.block 0 (ci (cr (cl M4))):=rfl
def auW:ci (cr (cl M4))=.loop MX:=rfl
def hMX:MX=.seq (cl MX) (cr MX):=rfl
def aiL:cr MX=.seq (cl (cr MX)) (cr (cr MX)):=rfl
def am6:cr (cr MX)=.seq (cl (cr (cr MX))) (cr (cr (cr MX))):=rfl
def am5:cl (cr (cr MX))=.block 1 (ci (cl (cr (cr MX)))):=rfl
def hM8:M8=.seq (cl M8) M9:=rfl
def hM9:M9=.seq (cl M9) YT:=rfl
def auZ:YT=.seq (cl YT) M14:=rfl
def ana:cl YT=.seq (cl (cl YT)) (cr (cl YT)):=rfl
def anb:cr (cl YT)=.block 2 (ci (cr (cl YT))):=rfl
def am9:ci (cr (cl YT))=.loop MY:=rfl
def hMY:MY=.seq (cl MY) (cr MY):=rfl
def am4:cr MY=.seq (cl (cr MY)) (cr (cr MY)):=rfl
def auU:cr (cr MY)=.block 3 (ci (cr (cr MY))):=rfl
def auT:ci (cr (cr MY))=.seq (cl (ci (cr (cr MY)))) (cr (ci (cr (cr MY)))):=rfl
def Ur{P ev o w w' t m k x}(ho:o.op=.mapUpdate t m k x)(h:(Instr.mapUpdate t (ev m) (ev k) (ev x)).run P w=.ok () w'):(execOp ev o).run P w=.ok .skip w':=by unfold execOp;simp only[ho,Sem.run_bind,h,Result.andThen_ok,Sem.run_pure]
def PU:List Value:=.string (str [])::dc
def dM(kd t:List UInt8):List Value:=.string (str (bQ kd t))::ai t
def adA:PU.toArray=#[.string (str []),.string (str []),.int .u8 0,.int .u8 0,.int .u8 0,.int .u8 0,.int .u8 0,.int .u8 0,.int .u8 0,.int .u8 0,.int .u8 0,.int .u8 0,.int .u8 0,.int .u8 0,.int .u8 0,.int .u8 0,.int .u8 0,.int .u8 0,.int .u8 0,.int .u8 0,.int .u8 0,.int .u8 0,.int .u8 0,.int .u8 0,.int .u8 0,.int .u8 0,.int .u8 0,.int .u8 0,.int .u8 0,.int .u8 0,.int .u8 0,.int .u8 0,.int .u8 0,.int .u8 0]:=by kernel_rfl
def abh:PU.length=34:=by unfold PU;rw[List.length_cons,bq]
def xI kd t:(dM kd t).length=34:=by unfold dM;rw[List.length_cons,aE]
def Kg kd t:(dM kd t).all (·.oneCell')=true:=by unfold dM;rw[List.all_cons,Bool.and_eq_true];exact⟨rfl,aY t⟩
def ahK:(prog.info? 136).map (·.size)=some 34:=by kernel_rfl
section
variable{kd:List UInt8}{v:World}
def adY(h:ie v (Hs kd))(hs:v.heap.size=10){k}(hk:k<3) x0 x1 x4 x8 x9 jG ji iJ iI kC js kq oM rX rz nD mI nz CX CW CV CU CQ CO CN CL xM yE yD:bS prog (SA kd (.spawn k)) (bm.at ⟨#[x0,x1,lp 5,lp 6,x4,lp 7,lp 8,lp 9,x8,x9,jG,ji,iJ,.int .i64 (k:Int),iI,kC,js,kq,oM,rX,rz,nD,mI,nz,CX,CW,CV,CU,CQ,CO,CN,CL,xM,yE,yD],[]⟩ [.code MX,.inLoop MX,.inBlock 0,.code M8]) [wall] v:=by
 have HP:=η h;have HS:=η hs;clear h hs;have Sn:((k:Int)<3):=by omega
 refine ay hMX (aP (c':=.region _ _ _) rfl ?_);go_wp2_with fail;show bS _ _ _ _ _;refine ay aiL (bT (t:=true) rfl (by simp[Act.eval,Sn]) (da rfl (ay am6 (bX am5 ?_))));refine ep 1 [1] rfl rfl (by decide +kernel) ?_;show wpList _ _ _ [_] _ _;go_wp2_with fail;exact bc ⟨.inl ⟨hk,_,_,_,_,_,_,_,_,_,_,_,_,_,_,_,_,_,_,_,_,_,_,_,_,_,_,_,_,rfl⟩,HP.o,HS.o⟩
def adW{k g}(hk:k<3)(h:SA kd (.spawn k) g v):Term prog (SA kd (.spawn (k+1))) (dU g undef) v:=by
 obtain⟨⟨_,x0,x1,x4,x8,x9,jG,ji,iJ,iI,js,kq,oM,rX,rz,nD,mI,nz,CX,CW,CV,CU,CQ,CO,CN,CL,xM,yE,yD,rfl⟩|⟨Dw,_⟩,h,hs⟩:=h;case inr=>omega
 unfold tG;rw[Ck (o:=⟨none,_,_,_,_,_⟩) rfl];show Term _ _ (fS (bm.at ⟨#[x0,x1,lp 5,lp 6,x4,lp 7,lp 8,lp 9,x8,x9,jG,ji,iJ,.int .i64 (k:Int),iI,.func (.func 65) #[] #[lp 7,lp 8,lp 6,lp 9],js,kq,oM,rX,rz,nD,mI,nz,CX,CW,CV,CU,CQ,CO,CN,CL,xM,yE,yD],[]⟩ _) _) v;refine dn bp (λg w τ n (h:SA kd (.spawn (k+1)) g w)=>h.re τ n) rfl λτ n=>?_;have h:ie (v.re τ n) (Hs kd):=h;have hs:(v.re τ n).heap.size=10:=hs;generalize v.re τ n=v at h hs;have HP:=η h;have HS:=η hs;clear h hs;have hw:wrap64 ((k:Int)+1)=((k+1:Nat):Int):=by unfold wrap64;omega
 refine Tp.bR (Tp.db (aP (c':=.region _ _ _) rfl ?_));go_wp2_with fail;show bS _ _ _ _ _;refine Tp.dA ?_;by_cases yn:k<2;first|rw[hw]|skip
 exact adY (k:=k+1) HP.o HS.o (by omega) _ _ _ _ _ _ _ _ _ _ _ _ _ _ _ _ _ _ _ _ _ _ _ _ _ _ _ _ _;obtain rfl:k=2:=by omega
 refine ay hMX (aP (c':=.region _ _ _) rfl ?_);go_wp2_with fail;show bS _ _ _ _ _;refine ay aiL (bT (t:=false) rfl (by simp[Act.eval]) (eD rfl rfl ?_));refine ay hM8 (ep 1 [1] rfl rfl (by decide +kernel) ?_);show wpList _ _ _ [_] _ _;go_wp2_with fail;exact bc ⟨.inr ⟨rfl,_,_,_,_,_,_,_,_,_,_,_,_,_,_,_,_,_,_,_,_,_,_,_,_,_,_,_,_,_,rfl⟩,HP.o,HS.o⟩
def Oq(h:ie v (Hs kd)){bC:List (List UInt8)}(ho:ny v 11 10 (bQ kd) bC)(hn:bC.length<=1000)(x0 x1 x4 x9 jG ji iJ jF iI kC js kq oM rz nD mI nz CX CW CV CU CQ CO CN CL xM yE yD:Value):bS prog (SA kd (.aZ bC)) (bm.at ⟨#[x0,x1,lp 5,lp 6,x4,lp 7,lp 8,lp 9,.map (some 10),x9,jG,ji,iJ,jF,iI,kC,js,kq,oM,.chan (some 3),rz,nD,mI,nz,CX,CW,CV,CU,CQ,CO,CN,CL,xM,yE,yD],[]⟩ [.code MY,.inLoop MY,.inBlock 2,.code M14]) [wall] v:=by refine ay hMY ?_;refine wG (s:=0) (r:=[0,1]) rfl rfl ?_;show bS _ _ _ _ _;exact bc ⟨⟨_,_,_,_,_,_,_,_,_,_,_,_,_,_,_,_,_,_,_,_,_,_,_,_,_,_,_,_,rfl⟩,h,ho,hn⟩
def akW{g}(h:SA kd (.spawn 3) g v):Term prog (SA kd (.aZ [])) (dU g undef) v:=by
 obtain⟨⟨hk,_⟩|⟨_,x0,x1,x4,x8,x9,jG,ji,iJ,jF,iI,kC,js,oM,rX,rz,nD,mI,nz,CX,CW,CV,CU,CQ,CO,CN,CL,xM,yE,yD,rfl⟩,h,hs⟩:=h;case inl=>omega
 unfold tG3;rw[Ck (o:=⟨none,_,_,_,_,_⟩) rfl];show Term _ _ (fS (bm.at ⟨#[x0,x1,lp 5,lp 6,x4,lp 7,lp 8,lp 9,x8,x9,jG,ji,iJ,jF,iI,kC,js,.func (.func 66) #[] #[lp 5,lp 7,lp 9,lp 8],oM,rX,rz,nD,mI,nz,CX,CW,CV,CU,CQ,CO,CN,CL,xM,yE,yD],[]⟩ _) _) v;refine dn bp (λg w τ n (h:SA kd (.aZ []) g w)=>h.re τ n) rfl λτ n=>?_;have h:ie (v.re τ n) (Hs kd):=h;have hs:(v.re τ n).heap.size=10:=hs;generalize v.re τ n=v at h hs;have HP:=η h;have HS:=η hs;clear h hs;have hmm:=@run_makeMap prog;refine Tp.bR (ay hM9 (aP (c':=.region _ _ _) rfl ?_));go_wp2_with fail;show bS _ _ (bm.at ⟨#[_,_,_,_,_,_,_,_,.map (some v.heap.size),_,_,_,_,_,_,_,_,_,_,_,_,_,_,_,_,_,_,_,_,_,_,_,_,_,_],[]⟩ _) _ _;rw[HS.o];have h1:ie (v.alloc (.map #[] 0)) (Hs kd):=HP.o.alloc _;have O1:ny (v.alloc (.map #[] 0)) 11 10 (bQ kd) []:=ny.nil _ _ _ _ (by rw[<-HS.o];exact(MapKept.heap_alloc v _).1);have H1:=η h1;have H2:=η O1;clear HP HS hmm h1 O1;generalize v.alloc _=v1 at H1 H2|-;have l8:v1.cell? ⟨8,0,none⟩=some (.chan (some 3)):=H1.o.row (i:=8) rfl 0;refine ay auZ (ay ana (aP (c':=.region _ _ _) rfl ?_));go_wp2_with fail;show bS _ _ _ _ _;refine bX anb (eC am9 ?_);exact Oq H1.o H2.o (by simp) _ _ _ _ _ _ _ _ _ _ _ _ _ _ _ _ _ _ _ _ _ _ _ _ _ _ _ _
def U3{t s bC w4 A Z es clock K}(hn:(t::bC).length<=1000)(hs:bQ kd t=s)(hP:ie w4 (Hs kd))(hR:Row w4 A (dM kd t)) (hK:Slot w4 11 10 (bQ kd) bC s es clock K) (aM:∀g,(nH K s).ownBlock=some g->g<A) (hZ:Row w4 Z (ai t)) (hZs:w4.heap.size=Z+1) x0 x1 x4 jG ji iJ jF iI kC js kq oM yE yD:wpAnyH prog .any (co (cr (ci (cr (cr MY))))) (Tp.px λa' w'=>bS prog (SA kd (.aZ (t::bC))) (bm.at a' [.inBlock 3,.inLoop MY,.inBlock 2,.code M14]) [wall] w') (ax.cls λu=>Row u A (dM kd t)) 2 #[true,true,true,true,true,true,true,true,true,true,false,false] ⟨#[x0,x1,lp 5,lp 6,x4,lp 7,lp 8,lp 9,.map (some 10),.pointer (some ⟨A,0,none⟩),jG,ji,iJ,jF,iI,kC,js,kq,oM,.chan (some 3),.tuple #[.agg (dM kd t).toArray,.bool true],.bool true,.agg (dM kd t).toArray,.map (some 10),.pointer (some ⟨A,0,none⟩),.string (str s),.map (some 10),.pointer (some ⟨A,0,none⟩),.string (str s),nH K s,.pointer (some ⟨A,1,none⟩),Fp t,.slice (some ⟨Z,0,none⟩) 1 1,yE,yD],[]⟩ w4:=by
 obtain⟨i0,fy,nB,ku,gK⟩:=info_parts qI;have HI:=η fy;have HP:=η hP;have HK:=η hK;have HR:=η hR;have HZ:=η hZ;have HE:=η hs;have hO:=hK.own;have Lc:(gN (bQ kd) bC s).length<=1000:=Nat.le_trans (List.length_filter_le _ _) (by simp at hn|-;omega);have hcz:∀(j:Nat)(u:Value),(ai t)[j]? =some u->w4.cell? ((⟨Z,0,none⟩:Addr).add j)=some u:=λj u hu=>by rw[Addr.add_lit,Nat.zero_add,hZ.cell];exact hu
 have Uh:10<w4.heap.size:=(Array.getElem?_eq_some_iff.1 hK.at_).1;have hAz:=hR.lt;clear fy hP hK hR hZ hs;show wpAnyH _ _ #[_,_,_,_,_,_,_,_,_,_,_,_] _ _ _ _ _ _;refine ax.one 10 _ (by kernel_rfl) rfl rfl ?_;refine wpList_append_own_at _ (o:=⟨some 33,_,_,_,_,_⟩) rfl _ _ 38 rfl 11 69 i0 (.agg dc.toArray) 33 48 underlying38 HI.o nB ku gK (by rw[Value.cells,List.size_toArray,bq]) (by decide) _ _ _ rfl hO ⟨Z,0,none⟩ 1 1 (ai t) rfl (by rw[aE]) hcz (λu hu=>List.all_eq_true.1 (aY t) u hu) (by unfold maxLen;omega) (by omega) (by omega) ?_;intro v5 w5 jr sN _ ky;go_frame;go_wp2_with fail;have acN:∀g,(nH K s).ownBlock=some g->11<=g:=λg hg=>(hO.lt g hg).1;have k10:w5.heap[10]? =w4.heap[10]?:=sN.block 10 Uh (λe=>by have:=acN _ e.symm;omega);have kA:w5.heap[A]? =w4.heap[A]?:=sN.block A hAz (λe=>by have:=aM _ e.symm;omega);have R5:Row w5 A (dM kd t):=by obtain⟨T,hT⟩:=HR.o;exact⟨T,kA.trans hT⟩
 refine⟨ax.aq R5,?_⟩;have P5:ie w5 (Hs kd):=HP.o.keep λb hb=>sN.block b (Nat.lt_of_lt_of_le hb HP.o.le) (λe=>by have:=acN _ e.symm;have:b<10:=hb;omega);obtain⟨iy,lJ,hu,Ia⟩:=Zo (w:=w5) (m:=10) (K:=K) (k10.trans HK.o.at_) HK.o.key s v5;have OUT:ny {w5 with heap:=w5.heap.setIfInBounds 10 (.map iy lJ)} 11 10 (bQ kd) (t::bC):=by
  have hKt:Slot w4 11 10 (bQ kd) bC (bQ kd t) es clock K:=by rw[HE.o];exact HK.o
  have hee:s=bQ kd t:=HE.o.symm;rw[hee]at sN jr ky Ia;exact hKt.put sN jr (ky.imp id λe=>⟨_,e,ν⟩) Ia
 have aC7:10<w5.heap.size:=Nat.lt_of_lt_of_le Uh sN.size;have P6:ie {w5 with heap:=w5.heap.setIfInBounds 10 (.map iy lJ)} (Hs kd):=P5.keep λb hb=>by have:b<10:=hb;show(w5.heap.setIfInBounds 10 _)[b]? =_;rw[Array.getElem?_setIfInBounds_ne (by omega)]
 have avp:A≠10:=λe=>by subst e;obtain⟨T,hT⟩:=HR.o;rw[HK.o.at_]at hT;cases hT
 have R6:Row {w5 with heap:=w5.heap.setIfInBounds 10 (.map iy lJ)} A (dM kd t):=by obtain⟨T,hT⟩:=R5;exact⟨T,by show(w5.heap.setIfInBounds 10 _)[A]? =_;rw[Array.getElem?_setIfInBounds_ne (Ne.symm avp)];exact hT⟩
 refine ax.one 11 _ (by kernel_rfl) rfl rfl ?_;refine EH (o:=⟨none,.mapUpdate 90 (.tmp 23) (.tmp 25) (.tmp 33),_,_,_,_⟩) rfl (Ur rfl hu) ?_;go_wp2_with fail;refine⟨ax.aq R6,?_⟩;refine wpAnyH_done (by kernel_rfl) ?_ 0;show bS _ _ _ _ _;refine Tp.db (Tp.dA ?_);exact Oq P6 OUT hn _ _ _ _ _ _ _ _ _ _ _ _ _ _ _ _ _ _ _ _ _ _ _ _ _ _ _ _
def adX{t bC g}(hn:(t::bC).length<=1000)(h:SA kd (.aZ bC) g v):Term prog (SA kd (.aZ (t::bC))) (Go.Conc.served g (.tuple #[.agg (dM kd t).toArray,.bool true])) v:=by
 obtain⟨⟨x0,x1,x4,x9,jG,ji,iJ,jF,iI,kC,js,kq,oM,rz,nD,mI,nz,CX,CW,CV,CU,CQ,CO,CN,CL,xM,yE,yD,rfl⟩,h,ho,_⟩:=h;unfold tRR;rw[iC (o:=⟨some 20,_,_,_,_,_⟩) rfl];show Term _ _ (fS (bm.at ⟨#[x0,x1,lp 5,lp 6,x4,lp 7,lp 8,lp 9,.map (some 10),x9,jG,ji,iJ,jF,iI,kC,js,kq,oM,.chan (some 3),.tuple #[.agg (dM kd t).toArray,.bool true],nD,mI,nz,CX,CW,CV,CU,CQ,CO,CN,CL,xM,yE,yD],[]⟩ _) _) v;refine dn bp (λg w τ n (h:SA kd (.aZ (t::bC)) g w)=>h.re τ n) rfl λτ n=>?_;have h:ie (v.re τ n) (Hs kd):=h;have ho:ny (v.re τ n) 11 10 (bQ kd) bC:=ho;generalize v.re τ n=v at h ho;refine Tp.jD (o:=⟨some 21,_,_,_,_,_⟩) (v:=.bool true) rfl rfl rfl ?_;show bS _ _ (bm.at ⟨#[x0,x1,lp 5,lp 6,x4,lp 7,lp 8,lp 9,.map (some 10),x9,jG,ji,iJ,jF,iI,kC,js,kq,oM,.chan (some 3),.tuple #[.agg (dM kd t).toArray,.bool true],.bool true,mI,nz,CX,CW,CV,CU,CQ,CO,CN,CL,xM,yE,yD],[]⟩ _) _ _;refine Tp.bR (ay am4 (bT (t:=true) rfl rfl (da rfl (bX auU (ay auT ?_)))));obtain⟨es,clock,K,hK⟩:=ho.slot (bQ kd t);have aM:∀g,(nH K (bQ kd t)).ownBlock=some g->g<v.heap.size:=λg hg=>(hK.own.lt g hg).2;have Uh:10<v.heap.size:=(Array.getElem?_eq_some_iff.1 hK.at_).1;have r1:Row (v.alloc (.cells PU.toArray 136)) v.heap.size PU:=Row.new v PU 136;have hB:Below v.heap.size v (v.alloc (.cells PU.toArray 136)):=(Below.refl _ _).alloc ν _;have B1:=η (below_setRow hB ν (dM kd t).toArray);have H2:=r1.setRow (dM kd t);rw[adA]at r1 hB B1 H2;have H1:=r1;have HP:=η h;have HK:=η hK;have HLT:=η aM;clear r1 hB h ho hK aM;refine aP (c':=.region _ _ _) rfl ?_;go_wp2_with (with_reducible refine au (o:=⟨none,_,_,_,_,_⟩) rfl _ _ _ rfl v.heap.size PU (dM kd t) rfl rfl H1 (ahK.trans (by rw[xI])) (by rw[xI,abh]) (Kg kd t) ?_);clear H1;have P2:ie _ (Hs kd):=HP.o.below B1.o HP.o.le;have K2:Slot _ 11 10 (bQ kd) bC (bQ kd t) es clock K:=HK.o.below B1.o ν;obtain⟨A,hA⟩:∃A,v.heap.size=A:=⟨_,rfl⟩;rw[hA]at B1 H2 P2 K2 Uh HLT|-;clear B1 HP HK hA;generalize World.setRow _ A (dM kd t).toArray=w2 at H2 P2 K2|-;obtain⟨s,hs⟩:∃s,bQ kd t=s:=⟨_,rfl⟩;rw[hs]at K2 HLT;have Gp:∀u:ax.Of (λu=>Row u A (dM kd t)),u.w.cell? ⟨A,0,none⟩=some (.string (str s)):=λu=>by rw[u.h.cell,<-hs];rfl
 haveI cE:Nonempty (ax.Of (λu=>Row u A (dM kd t))):=⟨⟨w2,H2⟩⟩;have HK2:=η K2;have HP2:=η P2;have HE:=η hs;clear K2 P2 hs;show bS _ _ _ _ _;refine aP (c':=.region _ _ _) rfl ?_;refine ax.bM [0,1,2,3,4,5,7,8] 4 mixed (by kernel_rfl) rfl rfl (λc a d v w h=>h) (by as_aux_lemma=>kernel_rfl) rfl (λu=>Row u A (dM kd t)) H2 ?_;show wpQuiet _ _ _ _ [_,_,_,_,_,_,_,_] _;iterate 7 (go_big_quiet_step (fail))
 refine Mp.Ae (o:=⟨some 31,_,_,_,_,_⟩) rfl _ rfl A 1 t rfl (λw hw=>by obtain⟨u,rfl⟩:=hw;exact λj x hx=>by rw[u.h.cell];show(Value.string (str (bQ kd t))::ai t)[1+j]? =_;rw[Nat.add_comm];exact hx) ?_;go_frame;refine wpQuiet_nil ?_;have K3:Slot w2.drew 11 10 (bQ kd) bC s es clock K:=HK2.o.below (w':=w2.drew) (C:=w2.heap.size) ⟨rfl,rfl,rfl,ν,λ_ _=>rfl⟩ ν;have P3:ie w2.drew (Hs kd):=HP2.o;have R3:Row w2.drew A (dM kd t):=H2;clear H2 HK2 HP2;show wpAnyH _ _ _ _ _ _ _ _ w2.drew;generalize w2.drew=w3 at R3 K3 P3|-;have XB:=R3.lt;have B4:Below w3.heap.size w3 (w3.alloc (.cells (ai t).toArray 69)):=(Below.refl _ _).alloc ν _;have R4:=R3.alloc (.cells (ai t).toArray 69);have Z4:Row (w3.alloc (.cells (ai t).toArray 69)) w3.heap.size (ai t):=Row.new w3 (ai t) _;have z4:(w3.alloc (.cells (ai t).toArray 69)).heap.size=w3.heap.size+1:=by simp
 have K4:=K3.below B4 ν;have P4:=P3.below B4 P3.le;have L3:=η (AY K3.at_ K3.key s);have L4:=η (AY K4.at_ K4.key s);have HK4:=η K4;have HP4:=η P4;have HR3:=η R3;have HR4:=η R4;have HZ4:=η Z4;clear B4 R3 R4 Z4 K3 K4 P3 P4;refine ax.two 6 9 _ _ (by kernel_rfl) rfl rfl rfl rfl ?_ ?_
 ·refine lx (o:=⟨some 29,.lookup 90 (.tmp 26) (.tmp 28) false,_,_,_,_⟩) rfl (v:=nH K s) (w':=w3) (ax.sJ rfl L3.o) ?_;try go_frame
  go_wp2_with fail;refine⟨ax.aq HR3.o,?_⟩;refine ax.one 9 _ (by kernel_rfl) rfl rfl ?_
  try go_frame
  refine gD (o:=⟨some 32,_,_,_,_,_⟩) rfl _ rfl t rfl ?_;go_frame;go_wp2_with fail;refine⟨ax.aq HR4.o,?_⟩;exact U3 hn HE.o HP4.o HR4.o HK4.o HLT.o HZ4.o z4 _ _ _ _ _ _ _ _ _ _ _ _ _ _
 refine gD (o:=⟨some 32,_,_,_,_,_⟩) rfl _ rfl t rfl ?_;try go_frame
 go_wp2_with fail;refine⟨ax.aq HR4.o,?_⟩;refine ax.one 6 _ (by kernel_rfl) rfl rfl ?_
 refine lx (o:=⟨some 29,.lookup 90 (.tmp 26) (.tmp 28) false,_,_,_,_⟩) rfl (v:=nH K s) (w':=w3.alloc _) (ax.sJ rfl L4.o) ?_;try go_frame
 go_wp2_with fail;refine⟨ax.aq HR4.o,?_⟩;exact U3 hn HE.o HP4.o HR4.o HK4.o HLT.o HZ4.o z4 _ _ _ _ _ _ _ _ _ _ _ _ _ _
end
end Ph
namespace Ph
open Go.Conc Rn ba
open Go.RowKit
open Tp (bu bp Term Ld fS)
def fl:List Nat:=[39,74,101,68,102,65,66]
def PE(J R D:Nat):Env:=⟨5,λr=>if r=2 then some J else if r=3 then some R else if r=4 then some D else none,λf=>f∈fl⟩
def PA(kd:List UInt8)(P:List (List UInt8))(es:Array MapEntry)(clock:Nat):j8 (List UInt8)->Goroutine->World->Prop
 |.bg=>WA kd .bg|.b9 t=>WA kd (.b9 t)|.fg=>WA kd .fg|.feed _=>λ_ _=>False|.cU t rem=>FA P es clock (.cU t rem)|.fb=>FA P es clock .fb|.bx k=>FA P es clock (.bx k)|.dk=>FA P es clock .dk|.spawn k=>SA kd (.spawn k)|.aZ bC=>SA kd (.aZ bC)
def PN(kd:List UInt8)(P:List (List UInt8))(es:Array MapEntry)(clock J R D:Nat):Net (List UInt8):=⟨J,R,D,Fp,fvT kd,.agg #[],.agg dc.toArray,.agg PU.toArray,.agg #[],PA kd P es clock,λ_=>True⟩
noncomputable def adl(f:Nat):Bool:=match prog.funcs[f]? with
 |some fn=>(match fn.body with
  |some b=>lI prog fl b
  |none=>false)&& !(fn.name== "runtime.NumGoroutine")
 |none=>false
def anB:fl.all adl=true:=by kernel_rfl
def PO{f}(hf:f∈fl):∃fn b,prog.funcs[f]? =some fn/\fn.body=some b/\lI prog fl b=true/\(fn.name== "runtime.NumGoroutine")=false:=by
 have:=List.all_eq_true.1 anB f hf;unfold adl at this;cases h1:prog.funcs[f]? with
 |none=>rw[h1]at this;cases this
 |some fn=>
 rw[h1]at this;dsimp only at this;cases h2:fn.body with
 |none=>rw[h2]at this;cases this
 |some b=>rw[h2]at this;dsimp only at this;rw[Bool.and_eq_true]at this;exact⟨fn,b,rfl,h2,this.1,by simpa using this.2⟩
noncomputable def ale:Item->Bool
 |.code c=>lI prog fl c|.inBlock _=>true|.inLoop b=>lI prog fl b|.inRegion ops _=>ops.toList.all (ahb prog fl)|_=>false
section
variable{J R D:Nat}
def aak:∀f∈fl,(PE J R D).F f:=λ_ h=>h
def Wh{l}(h:l.all ale=true):fx prog (PE J R D) l:=λx hx=>by rw[List.all_eq_true]at h;have hb:=h x hx;cases x with|code c=>exact gU prog fl aak hb|inBlock _=>trivial|inLoop b=>exact gU prog fl aak hb|inRegion ops l=>exact gU prog fl aak (c:=.region 0 ops false) hb|_=>cases hb
def PY:∀f fn b,(PE J R D).F f->prog.funcs[f]? =some fn->fn.body=some b->gr prog (PE J R D) b:=λf fn b hf h1 h2=>by obtain⟨fn',b',e1,e2,e3,_⟩:=PO hf;rw[h1]at e1;cases e1;rw[h2]at e2;cases e2;exact gU prog fl aak e3
def ai4:Zh prog (PE J R D):=λf fn hf h1=>by obtain⟨fn',b',e1,e2,_,e4⟩:=PO hf;rw[h1]at e1;cases e1;exact⟨by rw[e2];rfl,e4⟩
def Yc:∀r b,(PE J R D).C r=some b->r<5:=λr b h=>by show r<5;have h':(if r=2 then some J else if r=3 then some R else if r=4 then some D else none)=some b:=h;split at h';omega;split at h';omega;split at h';omega;cases h'
def stands{X Rs}{b:Frame}{a k cs ops i l o g'}(h:GR prog (PE J R D) X Rs (fS (b.at a (.inRegion ops (i::l)::k)) cs) g')(ho:ops[i]? =some o)(hg:o.guard=none):yC g'.frame o/\(∀x,QX (PE J R D) x->Rn.V (PE J R D) X (a.eval x) (g'.frame.eval x))/\g'=⟨g'.frame,g'.callers,.running,none,g'.offers⟩/\g'.frame.kind=b.kind:=by obtain⟨hr,hd,hf,_⟩:=h;refine⟨⟨hf.mode,hf.round.2,hg,ops,i,l,k,hf.todo,ho⟩,λx hx=>?_,?_,hf.kind⟩;have:=hf.eval x hx;rwa[Frame.eval_at]at this;obtain⟨fr,fu,st,dy,off⟩:=g';dsimp only at hr hd|-;rw[hr.2,hd.2]
def oV{X r b v}(h:Rn.V (PE J R D) X (.chan (some r)) v)(hr:(PE J R D).C r=some b):v=.chan (some b):=by cases h with|chan _ b' h'=>rw[hr]at h';rw[Option.some.inj h']
def iF:∀l (i:Nat)(v),(w8 l)[i]? =some v->Exact v:=λl i v h=>by unfold w8 at h;rw[List.getElem?_map]at h;obtain⟨x,_,rfl⟩:=Option.map_eq_some_iff.1 h;exact .int _ _
def lH{l:List Value}(h:∀(i:Nat) v,l[i]? =some v->Exact v):Exact (.agg l.toArray):=.agg _ λi v hv=>h i v (by simpa using hv)
def ix{x l}(hx:Exact x)(h:∀(i:Nat) v,l[i]? =some v->Exact v):∀(i:Nat) v,(x::l)[i]? =some v->Exact v:=λi v hv=>by
 cases i with
 |zero=>cases hv;exact hx
 |succ i=>exact h i v (by simpa using hv)
def Ch t:Exact (Fp t):=lH (ix (.string _) (iF _))
def EY:Exact (.agg dc.toArray):=lH (ix (.string _) (iF _))
def Kj kd t:Exact (fvT kd t):=lH (ix (.string _) (ix (.string _) (iF _)))
def SW:Exact (.agg PU.toArray):=lH (ix (.string _) (ix (.string _) (iF _)))
def E0:Exact (.agg #[]):=.agg _ λi v hv=>by simp at hv
def VK{b:Frame}{a ops l k cs}:¬yz (fS (b.at a (.inRegion ops l::k)) cs):=λh=>by rcases h.bad with⟨_,h⟩|⟨_,_,_,h⟩<;>cases h
section
variable{kd:List UInt8}{P:List (List UInt8)}{es:Array MapEntry}{clock:Nat}
def DU{g' o}(h:yC g'.frame o){b xs ts}(ho:o.op=.call ⟨.builtin b,xs,ts⟩):mayWake prog g'=true:=by obtain⟨ops,i,l,k,h1,h2⟩:=h.todo;unfold mayWake;rw[h.mode,h1];dsimp only;rw[h2];simp only[Option.map_some,ho]
def PA.re{c g v}(h:PA kd P es clock c g v) τ n:PA kd P es clock c g (v.re τ n):=by cases c with|feed=>exact h|bg=>exact WA.re (c:=.bg) h τ n|b9 t=>exact WA.re (c:=.b9 t) h τ n|fg=>exact WA.re (c:=.fg) h τ n|cU t r=>exact FA.re (c:=.cU t r) h τ n|fb=>exact FA.re (P:=P) (c:=.fb) h τ n|bx k=>exact FA.re (P:=P) (c:=.bx k) h τ n|dk=>exact FA.re (P:=P) (c:=.dk) h τ n|spawn k=>exact SA.re (c:=.spawn k) h τ n|aZ bC=>exact SA.re (c:=.aZ bC) h τ n
def PA.head{c g v}(h:PA kd P es clock c g v):∃b a ops l k,g=fS (Frame.at b a (.inRegion ops l::k)) [wall]:=by
 cases c with
 |feed=>exact h.elim|bg=>obtain⟨⟨_,_,_,_,_,_,_,_,_,_,_,_,_,rfl⟩,_⟩:=h;exact⟨_,_,_,_,_,rfl⟩
 |b9 t=>obtain⟨⟨_,_,_,_,_,_,_,_,_,_,_,rfl⟩,_⟩:=h;exact⟨_,_,_,_,_,rfl⟩
 |fg=>obtain⟨⟨_,_,_,_,_,_,_,_,_,_,_,rfl⟩,_⟩:=h;exact⟨_,_,_,_,_,rfl⟩
 |cU t r=>obtain⟨⟨_,_,_,_,_,_,_,_,_,_,_,_,_,_,_,_,_,rfl⟩,_⟩:=h;exact⟨_,_,_,_,_,rfl⟩
 |fb=>obtain⟨⟨_,_,_,_,_,_,_,_,_,_,_,_,_,_,_,_,_,_,_,rfl⟩,_⟩:=h;exact⟨_,_,_,_,_,rfl⟩
 |bx k=>obtain⟨⟨_,_,_,_,_,_,_,_,_,_,_,_,_,_,_,_,_,_,rfl⟩,_⟩:=h;exact⟨_,_,_,_,_,rfl⟩
 |dk=>obtain⟨⟨_,_,_,_,_,_,_,_,_,_,_,_,_,_,_,_,_,_,_,rfl⟩,_⟩:=h;exact⟨_,_,_,_,_,rfl⟩
 |spawn k=>obtain⟨⟨_,_,_,_,_,_,_,_,_,_,_,_,_,_,_,_,_,_,_,_,_,_,_,_,_,_,_,_,_,rfl⟩|⟨_,_,_,_,_,_,_,_,_,_,_,_,_,_,_,_,_,_,_,_,_,_,_,_,_,_,_,_,_,_,rfl⟩,_⟩:=h;exact⟨_,_,_,_,_,rfl⟩;exact⟨_,_,_,_,_,rfl⟩
 |aZ bC=>obtain⟨⟨_,_,_,_,_,_,_,_,_,_,_,_,_,_,_,_,_,_,_,_,_,_,_,_,_,_,_,_,rfl⟩,_⟩:=h;exact⟨_,_,_,_,_,rfl⟩
def PA.Qp{c g v}(h:PA kd P es clock c g v):¬yz g:=by obtain⟨b,a,ops,l,k,rfl⟩:=h.head;exact VK
def Gm{t z}(h:(prog.info? t).map (·.zero)=some (some z)):∃i,prog.info? t=some i/\i.zero=some z:=by
 cases hi:prog.info? t with
 |none=>rw[hi]at h;cases h
 |some i=>rw[hi]at h;exact⟨i,rfl,Option.some.inj h⟩
def aje c X Rs g v g'(hc:c.UG=true)(h:PA kd P es clock c g v)(hg:GR prog (PE J R D) X Rs g g') b w:stepG prog b g' w=.comm {g' with status:=.running,offers:=none} ((PN kd P es clock J R D).cases c) true ((PN kd P es clock J R D).shape c) w #[]:=by
 cases c with
 |bg=>obtain⟨⟨_,_,_,_,_,_,_,_,_,_,_,_,_,rfl⟩,_⟩:=h;obtain⟨h1,h2,h3,_⟩:=stands (o:=⟨some 6,.recv 132 (.tmp 5) true,_,_,_,_⟩) hg rfl rfl;obtain⟨i,hi,hz⟩:=Gm (t:=69) (z:=.agg dc.toArray) (by kernel_rfl);have e1:=oV (h2 (.tmp 5) trivial) (b:=J) rfl;rw[h3,h1.recv rfl (by kernel_rfl:prog.underlying 132=some (.chan .both 69)) hi hz,e1];rfl
 |b9 t=>obtain⟨⟨_,_,_,_,_,_,_,_,_,_,_,rfl⟩,_⟩:=h;obtain⟨h1,h2,h3,_⟩:=stands (o:=⟨none,.send (.tmp 9) (.tmp 15),_,_,_,_⟩) hg rfl rfl;have e1:=oV (h2 (.tmp 9) trivial) (b:=R) rfl;have e2:=(Kj kd t).eq (h2 (.tmp 15) trivial);rw[h3,h1.send rfl,e1,e2];rfl
 |fg=>obtain⟨⟨_,_,_,_,_,_,_,_,_,_,_,rfl⟩,_⟩:=h;obtain⟨h1,h2,h3,_⟩:=stands (o:=⟨none,.send (.tmp 16) (.tmp 17),_,_,_,_⟩) hg rfl rfl;have e1:=oV (h2 (.tmp 16) trivial) (b:=D) rfl;have e2:=E0.eq (h2 (.tmp 17) trivial);rw[h3,h1.send rfl,e1,e2];rfl
 |cU t r=>obtain⟨⟨_,_,_,_,_,_,_,_,_,_,_,_,_,_,_,_,_,rfl⟩,_⟩:=h;obtain⟨h1,h2,h3,_⟩:=stands (o:=⟨none,.send (.tmp 15) (.tmp 16),_,_,_,_⟩) hg rfl rfl;have e1:=oV (h2 (.tmp 15) trivial) (b:=J) rfl;have e2:=(Ch t).eq (h2 (.tmp 16) trivial);rw[h3,h1.send rfl,e1,e2];rfl
 |bx k=>obtain⟨⟨_,_,_,_,_,_,_,_,_,_,_,_,_,_,_,_,_,_,rfl⟩,_⟩:=h;obtain⟨h1,h2,h3,_⟩:=stands (o:=⟨some 21,.recv 134 (.tmp 20) false,_,_,_,_⟩) hg rfl rfl;obtain⟨i,hi,hz⟩:=Gm (t:=137) (z:=.agg #[]) (by kernel_rfl);have e1:=oV (h2 (.tmp 20) trivial) (b:=D) rfl;rw[h3,h1.recv rfl (by kernel_rfl:prog.underlying 134=some (.chan .both 137)) hi hz,e1];rfl
 |aZ bC=>obtain⟨⟨_,_,_,_,_,_,_,_,_,_,_,_,_,_,_,_,_,_,_,_,_,_,_,_,_,_,_,_,rfl⟩,_⟩:=h;obtain⟨h1,h2,h3,_⟩:=stands (o:=⟨some 20,.recv 133 (.tmp 19) true,_,_,_,_⟩) hg rfl rfl;obtain⟨i,hi,hz⟩:=Gm (t:=136) (z:=.agg PU.toArray) (by kernel_rfl);have e1:=oV (h2 (.tmp 19) trivial) (b:=R) rfl;rw[h3,h1.recv rfl (by kernel_rfl:prog.underlying 133=some (.chan .both 136)) hi hz,e1];rfl
 |_=>cases hc
def X9 c ch X Rs g v g'(hc:c=.fb/\ch=J∨c=.dk/\ch=R)(h:PA kd P es clock c g v)(hg:GR prog (PE J R D) X Rs g g'):mayWake prog g'=true/\∀b w s r,w.heap[ch]? =some (.chan 0 #[] false s r false)->stepG prog b g' w=.go (dU g' (.tuple #[])) {w with heap:=w.heap.setIfInBounds ch (.chan 0 #[] true s r false)} #[⟨.obj ch,false,true⟩,⟨.obj ch,true,true⟩]:=by rcases hc with⟨rfl,rfl⟩|⟨rfl,rfl⟩;obtain⟨⟨_,_,_,_,_,_,_,_,_,_,_,_,_,_,_,_,_,_,_,rfl⟩,_⟩:=h;obtain⟨h1,h2,h3,h4⟩:=stands (o:=⟨none,.call ⟨.builtin .close,#[.tmp 17],_⟩,_,_,_,_⟩) hg rfl rfl;have e1:=oV (h2 (.tmp 17) trivial) (b:=ch) rfl;refine⟨DU h1 rfl,λb w s r Pz=>?_⟩;rw[h3,h1.close rfl e1 (by rw[h4];exact λe=>by cases e) _ _ _ _ Pz];rfl;obtain⟨⟨_,_,_,_,_,_,_,_,_,_,_,_,_,_,_,_,_,_,_,rfl⟩,_⟩:=h;obtain⟨h1,h2,h3,h4⟩:=stands (o:=⟨none,.call ⟨.builtin .close,#[.tmp 23],_⟩,_,_,_,_⟩) hg rfl rfl;have e1:=oV (h2 (.tmp 23) trivial) (b:=ch) rfl;refine⟨DU h1 rfl,λb w s r Pz=>?_⟩;rw[h3,h1.close rfl e1 (by rw[h4];exact λe=>by cases e) _ _ _ _ Pz];rfl
def Uq{X f}{l:List (Nat×Nat)}{u}(h:Rn.V (PE J R D) X (.func (.func f) #[] (l.map λp=>lp p.1).toArray) u)(hX:∀p∈l,5<=p.1/\X[p.1-5]? =some p.2):u=.func (.func f) #[] (l.map λp=>lp p.2).toArray:=by
 cases h with
 |func _ _ a' _ c' hF h1 h2 h3 h4=>
 have ha:a'=#[]:=Array.eq_empty_of_size_eq_zero (by rw[<-h1];rfl);subst ha;congr 1;apply Array.ext_getElem?;intro i;by_cases hi:i<l.length;have hl:(l.map λp=>lp p.1).toArray[i]? =some (lp l[i].1):=by simp[hi]
 have hc:i<c'.size:=by rw[<-h3];simpa using hi
 have hv:=h4 i _ _ hl (Array.getElem?_eq_getElem hc);have hr:(l.map λp=>lp p.2).toArray[i]? =some (lp l[i].2):=by simp[hi]
 rw[Array.getElem?_eq_getElem hc,hr];obtain⟨_,hx⟩:=hX l[i] (List.getElem_mem hi);generalize c'[i]=y at hv;cases hv with|ptr r b o sp nj=>have:=nj.2;rw[show l[i].1-(PE J R D).G=l[i].1-5 from rfl,hx]at this;rw[Option.some.inj this]
 rw[Array.getElem?_eq_none (by rw[<-h3];simpa using hi),Array.getElem?_eq_none (by simpa using hi)]
def UQ(cp ck cj cr cd n:Nat)(k:Nat)(X:List Nat)(Rs:List Frame)(g:Goroutine)(v:World)(g':Goroutine)(hX:∃Y,X=[cp,ck,cj,cr,cd]++Y)(hk:k<=3)(h:PA kd P es clock (.spawn k) g v)(hg:GR prog (PE J R D) X Rs g g')(b:Bool)(w:World):stepG prog b g' w=.spawn (dU g' undef) (jd prog ⟨.fn (.func (if n+k<n+3 then 65 else 66)) (if n+k<n+3 then #[lp cj,lp cr,lp ck,lp cd]else #[lp cp,lp cj,lp cd,lp cr]),#[]⟩) w #[]:=by obtain⟨Y,rfl⟩:=hX;obtain⟨⟨Dw,_,_,_,_,_,_,_,_,_,_,_,_,_,_,_,_,_,_,_,_,_,_,_,_,_,_,_,_,rfl⟩|⟨rfl,_,_,_,_,_,_,_,_,_,_,_,_,_,_,_,_,_,_,_,_,_,_,_,_,_,_,_,_,_,rfl⟩,_⟩:=h;obtain⟨h1,h2,h3,_⟩:=stands (o:=⟨none,.go ⟨.value (.tmp 15),#[],#[]⟩,_,_,_,_⟩) hg rfl rfl;have e1:=Uq (l:=[(7,cj),(8,cr),(6,ck),(9,cd)]) (h2 (.tmp 15) trivial) (by intro p hp;simp only[List.mem_cons,List.not_mem_nil,or_false]at hp;rcases hp with rfl|rfl|rfl|rfl<;>exact⟨by dsimp only;omega,rfl⟩);rw[h3,h1.go rfl e1,if_pos (by omega),if_pos (by omega)];rfl;obtain⟨h1,h2,h3,_⟩:=stands (o:=⟨none,.go ⟨.value (.tmp 17),#[],#[]⟩,_,_,_,_⟩) hg rfl rfl;have e1:=Uq (l:=[(5,cp),(7,cj),(9,cd),(8,cr)]) (h2 (.tmp 17) trivial) (by intro p hp;simp only[List.mem_cons,List.not_mem_nil,or_false]at hp;rcases hp with rfl|rfl|rfl|rfl<;>exact⟨by dsimp only;omega,rfl⟩);rw[h3,h1.go rfl e1,if_neg (by omega),if_neg (by omega)];rfl
end
end
end Ph
namespace Ph
open Go.Conc Rn ba
open Go.RowKit
open Tp (bu bp Term Ld fS)
structure Bn where
 cp:Nat
 ck:Nat
 cj:Nat
 cr:Nat
 cd:Nat
 rb:Nat
 mb:Nat
 J:Nat
 R:Nat
 D:Nat
def Bn.Sh(N:Bn)(b:Nat):Prop:=b=N.cp∨b=N.ck∨b=N.cj∨b=N.cr∨b=N.cd∨b=N.rb
def Bn.X0(N:Bn):List Nat:=[N.cp,N.ck,N.cj,N.cr,N.cd]
def Bn.Xw(N:Bn):List Nat:=[N.cj,N.cr,N.ck,N.cd]
def Bn.Xf(N:Bn):List Nat:=[N.cp,N.cj,N.cd,N.cr,N.rb,N.mb]
def lw(w:World)(l:List Obj):World:={w with heap:=l.toArray}
noncomputable def PS(kd:List UInt8)(P:List (List UInt8))(es:Array MapEntry)(clock:Nat)(N:Bn)(cs:List Frame)(w:World):Setup (List UInt8) where
 P:=prog;E:=PE N.J N.R N.D;Sh:=N.Sh;N:=PN kd P es clock N.J N.R N.D;cs:=cs;fw:=65;ff:=66;aw:=#[lp N.cj,lp N.cr,lp N.ck,lp N.cd];af:=#[lp N.cp,lp N.cj,lp N.cd,lp N.cr];all:=P;g0:=fS (bm.at ⟨#[vm,.agg (aN kd).toArray,lp 5,lp 6,.map none,lp 7,lp 8,lp 9,undef,undef,.chan (some 2),.chan (some 3),.chan (some 4),.int .i64 0,.bool true,.func (.func 65) #[] #[lp 7,lp 8,lp 6,lp 9],undef,undef,undef,undef,undef,undef,undef,undef,undef,undef,undef,undef,undef,undef,undef,undef,undef,undef,undef],[]⟩ tG) [wall];gw:=fS (Frame.enter prog 65 #[lp 5,lp 6,lp 7,lp 8] .deferred) [wall];gf:=fS (Frame.enter prog 66 #[lp 5,lp 6,lp 7,lp 8] .deferred) [wall];v0:=lw w (Hs kd);vw:=lw w (Hw kd);vf:=lw w (Hf es clock);vn:=lw w [eW,eW,eW,eW,eW];X0:=N.X0;Xw:=N.Xw;Xf:=N.Xf
noncomputable def gR(kd:List UInt8)(N:Bn)(cs:List Frame):Goroutine:=fS (bm.at ⟨#[.pointer (some ⟨N.rb,0,none⟩),.agg (aN kd).toArray,lp N.cp,lp N.ck,.map none,lp N.cj,lp N.cr,lp N.cd,undef,undef,.chan (some N.J),.chan (some N.R),.chan (some N.D),.int .i64 0,.bool true,.func (.func 65) #[] #[lp N.cj,lp N.cr,lp N.ck,lp N.cd],undef,undef,undef,undef,undef,undef,undef,undef,undef,undef,undef,undef,undef,undef,undef,undef,undef,undef,undef],[]⟩ tG) cs
section
variable{kd:List UInt8}{P:List (List UInt8)}{es:Array MapEntry}{clock:Nat}{N:Bn}{cs:List Frame}{w:World}
def uL{E X Rs fr g'}(h:GR prog E X Rs (fS fr [wall]) g'):g'.callers=Rs:=by
 obtain⟨cs,fu,e1,e2,hc⟩:=h.callers;have:cs=[]:=by
  have hl:[wall].length=(cs++[wall]).length:=by rw[<-e1]
  simp at hl;exact hl
 subst this;cases hc;simpa using e2
def Jc{E X}{b:Frame}{a ops i fn g'}(h:GR prog E X [base prog] (fS (b.at a [.inRegion ops [i]]) [wall]) g')(hf:prog.funcs[b.fn]? =some fn)(hr:fn.results=#[])(hk:b.kind=.deferred) u:QuitsD prog 4 0 {g' with frame:=g'.frame.finish u,status:=.running,offers:=none}:=by have hc:=uL h;obtain⟨_,hd,fR,_⟩:=h;obtain⟨fr,fu,st,dy,off⟩:=g';dsimp only at hc hd fR|-;obtain⟨_,rfl⟩:=hd;subst hc;have hkd:fr.kind=.deferred:=fR.kind.trans hk;have Pv:fr.mode=.run:=fR.mode;have JL:fr.todo=[.inRegion ops [i]]:=fR.todo;have hdf:fr.defers=[]:=fR.defers.2;have kK:fr.roundOf=none:=fR.round.2;have hfn:fr.fn=b.fn:=fR.fn;clear fR;obtain⟨f1,f2,f3,f4,f5,f6,f7⟩:=fr;dsimp only at hkd Pv JL hdf kK hfn;subst hkd;subst Pv;subst JL;subst hdf;subst kK;subst hfn;unfold Frame.finish;dsimp only;exact LZ (ops:=ops) hf hr rfl rfl rfl rfl rfl
def law(mg:Pl.Up Mk.ak P)(h20:P.length<=1000)(n:Nat):yA ((PS kd P es clock N cs w).cfg n) where
 code:=PY;bp:=ai4;anz:=by show prog.globals.size<=5;exact of_decide_eq_true (by kernel_rfl)
 Yd:=Yc;re:=λc g v τ n h=>PA.re h τ n;Qp:=λc g v h=>PA.Qp h;started:=λi h1 h2=>by show(if i<n+3 then _ else _)∈fl/\∃fn,prog.funcs[if i<n+3 then _ else _]? =some fn;split;obtain⟨fn,b,h,_⟩:=PO (f:=65) (by decide);exact⟨(by decide:65∈fl),fn,h⟩;obtain⟨fn,b,h,_⟩:=PO (f:=66) (by decide);exact⟨(by decide:66∈fl),fn,h⟩
 act:=λc X R g v g' hc h hg b w=>aje c X R g v g' hc h hg b w;CC:=λc ch X R g v g' hc h hg=>X9 c ch X R g v g' hc h hg;app0:=λX Y ⟨Z,hZ⟩=>⟨Z++Y,by rw[hZ,List.append_assoc]⟩;KR:=λk X R g v g' hk hX h hg b w=>UQ (P:=P) (es:=es) (clock:=clock) N.cp N.ck N.cj N.cr N.cd n k X R g v g' hX hk h hg b w;Li:=⟨λa=>(Ch a).clean,λa=>(Kj kd a).clean,E0.clean,EY.clean,SW.clean⟩;tx:=λ_ _ _ _ _=>trivial;VS:=λa g v h _=>adG h;acs:=λg v h=>akJ h;VN:=λa g v h=>adF h;VQ:=λX g v g' h hg=>by obtain⟨⟨_,_,_,_,_,_,_,_,_,_,_,rfl⟩,_⟩:=h;exact⟨4,Jc hg func65 rfl rfl undef⟩
 VP:=λa rem g v h=>aiW mg h;OT:=λg v h=>XR (P:=P) h;Mh:=λk g v hk h=>abj (P:=P) _ hk h;Ge:=λg v h=>aiX (P:=P) _ h;OS:=λX g v g' h hg=>by obtain⟨⟨_,_,_,_,_,_,_,_,_,_,_,_,_,_,_,_,_,_,_,rfl⟩,_⟩:=h;exact⟨4,Jc hg func66 rfl rfl _⟩
 VM:=λk g v hk h=>adW hk h;OQ:=λg v h=>akW h;VR:=λa bC g v hn h=>adX (Nat.le_trans hn h20) h
end
end Ph
namespace Ph
open Go.Conc Rn ba
open Go.RowKit
open Tp (bu bp Term Ld fS)
section
variable{E:Env}{X:List Nat}
inductive VL(E:Env)(X:List Nat):List Value->List Value->Prop
 |nil:VL E X [] []
 |cons {a b:Value} {l m:List Value} (h:Rn.V E X a b) (t:VL E X l m):VL E X (a::l) (b::m)
def VL.length{l m}(h:VL E X l m):l.length=m.length:=by induction h with|nil=>rfl|cons _ _ ih=>simp[ih]
def VL.get{l m}(h:VL E X l m):∀(i:Nat)(a b),l[i]? =some a->m[i]? =some b->Rn.V E X a b:=by
 induction h with
 |nil=>intro i a b h;simp at h|cons h _ ih=>
 intro i a b h1 h2;cases i with
 |zero=>cases h1;cases h2;exact h
 |succ i=>exact ih i a b (by simpa using h1) (by simpa using h2)
def VL.va{l m}(h:VL E X l m):VA E X l.toArray m.toArray:=⟨by simpa using h.length,λi v v' h1 h2=>h.get i v v' (by simpa using h1) (by simpa using h2)⟩
def dE:Rn.V E X undef undef:=V.eH (VA.empty _)
def akK kd:Rn.V E X (.agg (aN kd).toArray) (.agg (aN kd).toArray):=Clean.self (.agg _ λi v hv=>by
 have JK:(aN kd)[i]? =some v:=by simpa using hv
 unfold aN at JK;match i,JK with
 |0,h=>cases h;exact .int _ _
 |1,h=>cases h;exact .int _ _
 |i+2,h=>simp at h) _
def at_{J R D r b X}(h:5<=r)(h2:X[r-5]? =some b):At (PE J R D) X r b:=⟨h,h2⟩
def dS c t:∃c' e,fz c t=.cells c' e (0,c'.size):=⟨c.toArray,t,by simp[fz]⟩
def iZ{c c' t}(h:VL E X c c'):mH E X (fz c t) (.cells c'.toArray t (0,0)):=.cells _ _ _ _ _ h.va (.inr (by simp))
def NV{Sh:Nat->Prop}{w:World}{l:List Obj}(hG:E.G=5)(hs:l.length=5+X.length)(hj:∀i,i<5->l[i]? =some eW)(hn:X.Nodup)(ym:∀b,Sh b->b<w.heap.size) (h:∀(i b:Nat),X[i]? =some b->∃o o',l[5+i]? =some o/\w.heap[b]? =some o'/\mH E X o o'/\(Sh b->∃c e,o=.cells c e (0,c.size))):WR E Sh X ((lw w l).re w.tape w.drawn) w where
 size:=by show l.toArray.size=_;rw[hG];simpa using hs
 el:=λi b hb=>by obtain⟨o,o',h1,h2,h3,_⟩:=h i b hb;exact⟨o,o',by show l.toArray[E.G+i]? =_;rw[hG];simpa using h1,h2,h3⟩
 eW:=λr hr=>by show l.toArray[r]? =_;rw[hG]at hr;exact(by simpa using hj r hr:l.toArray[r]? =some eW)
 nodup:=hn;shared:=λi b hb hsb=>by obtain⟨o,o',h1,_,_,h4⟩:=h i b hb;obtain⟨c,e,rfl⟩:=h4 hsb;exact⟨c,e,by show l.toArray[E.G+i]? =_;rw[hG];simpa using h1⟩
 low:=ym;tape:=rfl;drawn:=rfl
end
def bn(B rb mb:Nat):Bn:=⟨B,B+1,B+3,B+5,B+7,rb,mb,B+2,B+4,B+6⟩
structure AtGo(kd:List UInt8)(es:Array MapEntry)(clock B rb mb:Nat)(w:World):Prop where
 size:w.heap.size=B+8
 hcp:w.heap[B]? =some (.cells #[.pointer (some ⟨rb,0,none⟩)] 72 (0,0))
 hck:w.heap[B+1]? =some (.cells (aN kd).toArray 93 (0,0))
 hJ:w.heap[B+2]? =some (.chan 0 #[] false 0 0 false)
 Na:w.heap[B+3]? =some (.cells #[.chan (some (B+2))] 132 (0,0))
 hR:w.heap[B+4]? =some (.chan 0 #[] false 0 0 false)
 lO:w.heap[B+5]? =some (.cells #[.chan (some (B+4))] 133 (0,0))
 hD:w.heap[B+6]? =some (.chan 3 #[] false 0 0 false)
 hcd:w.heap[B+7]? =some (.cells #[.chan (some (B+6))] 134 (0,0))
 hrb:∃a b c,w.heap[rb]? =some (.cells #[.map (some mb),a,b,c] 41 (0,0))/\flat a/\flat b/\flat c
 MZ:w.heap[mb]? =some (.map es clock)
 rlt:rb<B
 mlt:mb<B
section
variable{kd:List UInt8}{P:List (List UInt8)}{es:Array MapEntry}{clock B rb mb:Nat}{cs:List Frame}{w:World}
def AtGo.ne(h:AtGo kd es clock B rb mb w):rb≠mb:=λe=>by obtain⟨a,b,c,h1,_⟩:=h.hrb;rw[e,h.MZ]at h1;cases h1
def GL(h:AtGo kd es clock B rb mb w):∀b,(bn B rb mb).Sh b->b<w.heap.size:=λb hb=>by have h1:=h.size;have h2:=h.rlt;unfold Bn.Sh bn at hb;dsimp only at hb;omega
def Ti{p:Nat->Nat->Prop}{a b c d e}(h0:p 0 a)(h1:p 1 b)(h2:p 2 c)(h3:p 3 d)(h4:p 4 e):∀i x,[a,b,c,d,e][i]? =some x->p i x:=λi x hx=>by
 match i,hx with
 |0,h=>cases h;exact h0
 |1,h=>cases h;exact h1
 |2,h=>cases h;exact h2
 |3,h=>cases h;exact h3
 |4,h=>cases h;exact h4
 |i+5,h=>simp at h
def Tj{p:Nat->Nat->Prop}{a b c d}(h0:p 0 a)(h1:p 1 b)(h2:p 2 c)(h3:p 3 d):∀i x,[a,b,c,d][i]? =some x->p i x:=λi x hx=>by
 match i,hx with
 |0,h=>cases h;exact h0
 |1,h=>cases h;exact h1
 |2,h=>cases h;exact h2
 |3,h=>cases h;exact h3
 |i+4,h=>simp at h
def Th{p:Nat->Nat->Prop}{a b c d e f}(h0:p 0 a)(h1:p 1 b)(h2:p 2 c)(h3:p 3 d)(h4:p 4 e)(h5:p 5 f):∀i x,[a,b,c,d,e,f][i]? =some x->p i x:=λi x hx=>by
 match i,hx with
 |0,h=>cases h;exact h0
 |1,h=>cases h;exact h1
 |2,h=>cases h;exact h2
 |3,h=>cases h;exact h3
 |4,h=>cases h;exact h4
 |5,h=>cases h;exact h5
 |i+6,h=>simp at h
def Pa{l}:∀i,i<5->(eW::eW::eW::eW::eW::l)[i]? =some eW:=λi hi=>by
 match i,hi with
 |0,_=>rfl
 |1,_=>rfl
 |2,_=>rfl
 |3,_=>rfl
 |4,_=>rfl
def iU{X J R D r b}(h:(PE J R D).C r=some b):VL (PE J R D) X [.chan (some r)] [.chan (some b)]:=.cons (.chan _ _ h) .nil
def We{E X}:VL E X (aN kd) (aN kd):=.cons (.int _ _) (.cons (.int _ _) .nil)
def wr0(h:AtGo kd es clock B rb mb w):WR (PE (B+2) (B+4) (B+6)) (bn B rb mb).Sh (bn B rb mb).X0 ((lw w (Hs kd)).re w.tape w.drawn) w:=by refine NV rfl rfl Pa ?_ (GL h) (Ti ?_ ?_ ?_ ?_ ?_);show [B,B+1,B+3,B+5,B+7].Nodup;simp only[List.nodup_cons,List.mem_cons,List.not_mem_nil,or_false,List.nodup_nil,and_true,not_false_eq_true];omega;exact⟨_,_,rfl,h.hcp,iZ (.cons (.undef (.pointer (some ⟨rb,0,none⟩)) trivial) .nil),λ_=>dS _ _⟩;exact⟨_,_,rfl,h.hck,iZ We,λ_=>dS _ _⟩;exact⟨_,_,rfl,h.Na,iZ (iU rfl),λ_=>dS _ _⟩;exact⟨_,_,rfl,h.lO,iZ (iU rfl),λ_=>dS _ _⟩;exact⟨_,_,rfl,h.hcd,iZ (iU rfl),λ_=>dS _ _⟩
def wrw(h:AtGo kd es clock B rb mb w):WR (PE (B+2) (B+4) (B+6)) (bn B rb mb).Sh (bn B rb mb).Xw ((lw w (Hw kd)).re w.tape w.drawn) w:=by refine NV rfl rfl Pa ?_ (GL h) (Tj ?_ ?_ ?_ ?_);show [B+3,B+5,B+1,B+7].Nodup;simp only[List.nodup_cons,List.mem_cons,List.not_mem_nil,or_false,List.nodup_nil,and_true,not_false_eq_true];omega;exact⟨_,_,rfl,h.Na,iZ (iU rfl),λ_=>dS _ _⟩;exact⟨_,_,rfl,h.lO,iZ (iU rfl),λ_=>dS _ _⟩;exact⟨_,_,rfl,h.hck,iZ We,λ_=>dS _ _⟩;exact⟨_,_,rfl,h.hcd,iZ (iU rfl),λ_=>dS _ _⟩
def wrf(h:AtGo kd es clock B rb mb w)(pO:∀e∈es.toList,Rn.Clean e.key/\Rn.Clean e.val):WR (PE (B+2) (B+4) (B+6)) (bn B rb mb).Sh (bn B rb mb).Xf ((lw w (Hf es clock)).re w.tape w.drawn) w:=by have cE:=h.ne;have hr:=h.rlt;have hm:=h.mlt;refine NV rfl rfl Pa ?_ (GL h) (Th ?_ ?_ ?_ ?_ ?_ ?_);show [B,B+3,B+7,B+5,rb,mb].Nodup;simp only[List.nodup_cons,List.mem_cons,List.not_mem_nil,or_false,List.nodup_nil,and_true,not_false_eq_true];omega;exact⟨_,_,rfl,h.hcp,iZ (.cons (.ptr _ _ _ _ (at_ (by decide) rfl)) .nil),λ_=>dS _ _⟩;exact⟨_,_,rfl,h.Na,iZ (iU rfl),λ_=>dS _ _⟩;exact⟨_,_,rfl,h.hcd,iZ (iU rfl),λ_=>dS _ _⟩;exact⟨_,_,rfl,h.lO,iZ (iU rfl),λ_=>dS _ _⟩;obtain⟨a,b,c,h1,ha,hb,hc⟩:=h.hrb;exact⟨_,_,rfl,h1,iZ (.cons (.map _ _ (at_ (by decide) rfl)) (.cons (.undef _ ha) (.cons (.undef _ hb) (.cons (.undef _ hc) .nil)))),λ_=>dS _ _⟩;refine⟨_,_,rfl,h.MZ,.map _ _ _ ⟨rfl,λi e e' h1 h2=>?_⟩,λnh=>?_⟩;rw[h1]at h2;cases h2;obtain⟨k1,k2⟩:=pO e (by simpa using Array.mem_of_getElem? h1);exact⟨k1.self _,k2.self _,rfl⟩;have alH:(bn B rb mb).Sh mb:=nh;unfold Bn.Sh bn at alH;dsimp only at alH;omega
def wrn(h:AtGo kd es clock B rb mb w):WR (PE (B+2) (B+4) (B+6)) (bn B rb mb).Sh [] ((lw w [eW,eW,eW,eW,eW]).re w.tape w.drawn) w:=NV rfl rfl Pa List.nodup_nil (GL h) (λi b hb=>by simp at hb)
def aqX(N:Bn):Rn.V (PE N.J N.R N.D) N.X0 (.func (.func 65) #[] #[lp 7,lp 8,lp 6,lp 9]) (.func (.func 65) #[] #[lp N.cj,lp N.cr,lp N.ck,lp N.cd]):=by have hc:VA (PE N.J N.R N.D) N.X0 #[lp 7,lp 8,lp 6,lp 9] #[lp N.cj,lp N.cr,lp N.ck,lp N.cd]:=VL.va (.cons (.ptr _ _ _ _ (at_ (by decide) rfl)) (.cons (.ptr _ _ _ _ (at_ (by decide) rfl)) (.cons (.ptr _ _ _ _ (at_ (by decide) rfl)) (.cons (.ptr _ _ _ _ (at_ (by decide) rfl)) .nil))));exact .func _ _ _ _ _ (by show _∈fl;decide) rfl (VA.empty _).el hc.size hc.el
def XE(N:Bn):GR prog (PE N.J N.R N.D) N.X0 cs (fS (bm.at ⟨#[vm,.agg (aN kd).toArray,lp 5,lp 6,.map none,lp 7,lp 8,lp 9,undef,undef,.chan (some 2),.chan (some 3),.chan (some 4),.int .i64 0,.bool true,.func (.func 65) #[] #[lp 7,lp 8,lp 6,lp 9],undef,undef,undef,undef,undef,undef,undef,undef,undef,undef,undef,undef,undef,undef,undef,undef,undef,undef,undef],[]⟩ tG) [wall]) (gR kd N cs):=by refine⟨⟨rfl,rfl⟩,⟨rfl,rfl⟩,⟨rfl,rfl,Wh (by kernel_rfl),VL.va (.cons (.undef (.pointer (some ⟨N.rb,0,none⟩)) trivial) (.cons (akK kd) (.cons (.ptr _ _ _ _ (at_ (by decide) rfl)) (.cons (.ptr _ _ _ _ (at_ (by decide) rfl)) (.cons (.AU) (.cons (.ptr _ _ _ _ (at_ (by decide) rfl)) (.cons (.ptr _ _ _ _ (at_ (by decide) rfl)) (.cons (.ptr _ _ _ _ (at_ (by decide) rfl)) (.cons (dE) (.cons (dE) (.cons (.chan _ _ rfl) (.cons (.chan _ _ rfl) (.cons (.chan _ _ rfl) (.cons (.int _ _) (.cons (.bool _) (.cons (aqX N) (.cons (dE) (.cons (dE) (.cons (dE) (.cons (dE) (.cons (dE) (.cons (dE) (.cons (dE) (.cons (dE) (.cons (dE) (.cons (dE) (.cons (dE) (.cons (dE) (.cons (dE) (.cons (dE) (.cons (dE) (.cons (dE) (.cons (dE) (.cons (dE) (.cons (dE) (.nil)))))))))))))))))))))))))))))))))))),⟨rfl,rfl⟩,rfl,.inl rfl,rfl,⟨rfl,rfl⟩⟩,[],[],rfl,rfl,.nil⟩
def J9(N:Bn)(X:List Nat)(f:FuncId)(hf:f∈fl){a a':List Value}(h:VL (PE N.J N.R N.D) X a a'):GR prog (PE N.J N.R N.D) X [base prog] (fS (Frame.enter prog f a.toArray .deferred) [wall]) (started prog f a'.toArray):=⟨⟨rfl,rfl⟩,⟨rfl,rfl⟩,y6.enter PY f hf h.va _ _ rfl,[],[],rfl,rfl,.nil⟩
def VB{m m' n:Nat}{Dt:DataW Unit}{w v:World}(h:w.ownsMap prog 67 Mp.wK m n Dt)(hb:v.heap[m']? =w.heap[m]?):v.ownsMap prog 67 Mp.wK m' n Dt:=by obtain⟨es,clock,h1,h2⟩:=h;exact⟨es,clock,hb.trans h1,h2⟩
def ready(h:AtGo kd es clock B rb mb w)(hM:Mp.Map w mb P)(pO:∀e∈es.toList,Rn.Clean e.key/\Rn.Clean e.val):YN (PS kd P es clock (bn B rb mb) cs w) (gR kd (bn B rb mb) cs) w where
 law:=law hM.up (Nat.le_trans hM.le (by omega));gr0:=XE _;ace:=.stop ⟨.inl ⟨by omega,_,_,_,_,_,_,_,_,_,_,_,_,_,_,_,_,_,_,_,_,_,_,_,_,_,_,_,_,rfl⟩,ie.mk _ _ rfl,rfl⟩;grw:=J9 (bn B rb mb) _ _ (by decide) (.cons (.ptr _ _ _ _ (at_ (by decide) rfl)) (.cons (.ptr _ _ _ _ (at_ (by decide) rfl)) (.cons (.ptr _ _ _ _ (at_ (by decide) rfl)) (.cons (.ptr _ _ _ _ (at_ (by decide) rfl)) .nil))));acb:=Zk (ie.mk _ _ rfl);grf:=J9 (bn B rb mb) _ _ (by decide) (.cons (.ptr _ _ _ _ (at_ (by decide) rfl)) (.cons (.ptr _ _ _ _ (at_ (by decide) rfl)) (.cons (.ptr _ _ _ _ (at_ (by decide) rfl)) (.cons (.ptr _ _ _ _ (at_ (by decide) rfl)) .nil))));acd:=abi hM.up (ie.mk _ _ rfl) rfl (VB hM.own h.MZ.symm);wr0:=wr0 h;wrw:=wrw h;wrf:=wrf h pO;wrn:=wrn h;d0w:=λb hb _=>by have nC:b∈[B,B+1,B+3,B+5,B+7]:=hb;simp only[List.mem_cons,List.not_mem_nil,or_false]at nC;show(bn B rb mb).Sh b;unfold Bn.Sh bn;dsimp only;omega
 d0f:=λb hb _=>by have nC:b∈[B,B+1,B+3,B+5,B+7]:=hb;simp only[List.mem_cons,List.not_mem_nil,or_false]at nC;show(bn B rb mb).Sh b;unfold Bn.Sh bn;dsimp only;omega
 dww:=λb hb=>by have nC:b∈[B+3,B+5,B+1,B+7]:=hb;simp only[List.mem_cons,List.not_mem_nil,or_false]at nC;show(bn B rb mb).Sh b;unfold Bn.Sh bn;dsimp only;omega
 CZ:=⟨_,_,h.hJ⟩;DF:=⟨_,_,h.hR⟩;GJ:=h.hD;ne:=by show B+2≠B+4/\B+2≠B+6/\B+4≠B+6;omega
end
end Ph
namespace Ph
open Go.Conc Rn ba
open Go.RowKit
open Tp (bu bp Term Ld fS)
structure kg(B:Nat)(w w':World):Prop where
 os:w'.os=w.os
 output:w'.output=w.output
 size:w.heap.size<=w'.heap.size
 block:∀k,k<B->w'.heap[k]? =w.heap[k]?
theorem kg.trans{B w w' uR}(h:kg B w w')(h':kg B w' uR):kg B w uR:=⟨h'.os.trans h.os,h'.output.trans h.output,Nat.le_trans h.size h'.size,λk hk=>(h'.block k hk).trans (h.block k hk)⟩
def kg.mono{B C w w'}(h:kg B w w')(hc:C<=B):kg C w w':=⟨h.os,h.output,h.size,λk hk=>h.block k (by omega)⟩
def kg.of{B w w'}(h:Below B w w'):kg B w w':=⟨h.os,h.output,h.size,h.block⟩
section
variable{E:Env}{Sh:Nat->Prop}{X:List Nat}{v w:World}
def ai8(hn:X.Nodup){g g' b}(h:At E X g b)(h':At E X g' b):g=g':=by have h1:=h.1;have h2:=h'.1;have aM:=(List.getElem?_eq_some_iff.1 h.2).1;have:=(List.getElem?_inj aM hn).1 (h.2.trans h'.2.symm);omega
def ZU(hw:WR E Sh X v w){B B'}(lG:∀g b,At E X g b->B'<=g->B<=b){e z n x x' xs}(hx:∀u∈xs,Exact u)(h0:0<n)(hz:0<z)(h:v.ownsRow B' e z x n xs)(hv:Rn.V E X x x'):w.ownsRow B e z x' n xs/\∃g b,x.ownBlock=some g/\x'.ownBlock=some b/\At E X g b:=by
 rcases h.2 with⟨_,hn⟩|⟨g,cap,cur,rfl,hb,hc,h1,h2,h3,h4⟩;omega;cases hv with
 |slice _ b off sp _ _ nj=>
 obtain⟨o,o',e1,e2,hr⟩:=hw.obj nj;rw[hc]at e1;cases e1;cases hr with
 |cells _ c' _ _ Gx hva hf=>
 have hcz:0<cur.size:=by rw[h3];exact Nat.mul_pos (by omega) hz
 have hfz:Gx=(0,0):=by rcases hf with hf|hf;exact hf;have:=(Prod.mk.inj hf).2;omega
 subst hfz;refine⟨⟨h.1,.inr ⟨b,cap,c',rfl,lG g b nj hb,e2,h1,h2,by rw[<-hva.size];exact h3,?_⟩⟩,g,b,rfl,rfl,nj⟩;rw[<-h4];apply List.ext_getElem?;intro i;rw[List.getElem?_take,List.getElem?_take];split;rename_i hi;rcases hva.get i with⟨y,y',e1,e2,hy⟩|⟨e1,e2⟩;have hm:y∈xs:=by rw[<-h4];refine List.mem_of_getElem? (i:=i) ?_;rw[List.getElem?_take,if_pos hi];simpa using e1
 have:=(hx y hm).eq hy;rw[Array.getElem?_toList,Array.getElem?_toList,e1,e2,this];rw[Array.getElem?_toList,Array.getElem?_toList,e1,e2];rfl
def SU ts:∀u∈aK ts,Exact u:=λu hu=>by unfold aK at hu;obtain⟨l,hl,hm⟩:=List.mem_flatten.1 hu;obtain⟨t,_,rfl⟩:=List.mem_map.1 hl;obtain⟨i,hi⟩:=List.getElem?_of_mem hm;exact ix (.string _) (iF _) i u hi
def Uo{x v'}(h:Rn.V E X (.string x) v'):v'=.string x:=by cases h;rfl
def VC(hw:WR E Sh X v w){B B' m M}(lG:∀g b,At E X g b->B'<=g->B<=b){f bC}(h:ny v B' m f bC)(hm:At E X m M):ny w B M f bC:=by
 obtain⟨es,clock,K,h1,h2,h3,h4,h5,h6⟩:=h;obtain⟨o,o',e1,e2,hr⟩:=hw.obj hm;rw[h1]at e1;cases e1;cases hr with
 |map _ iy _ hma=>
 have hlen:es.toList.length=K.length:=by have:=congrArg List.length h2;simpa using this
 have acU:iy.toList.length=K.length:=by rw[<-hlen];simpa using hma.size.symm
 have kM:∀(i:Nat)(p':By×Value),((K.zip iy.toList).map λp=>(p.1.1,p.2.val))[i]? =some p'->∃p e',K[i]? =some p/\iy[i]? =some e'/\p'=(p.1,e'.val)/\Rn.V E X p.2 e'.val/\e'.key=.string (str p.1):=λi p' hp=>by
  rw[List.getElem?_map]at hp;obtain⟨q,hq,rfl⟩:=Option.map_eq_some_iff.1 hp;obtain⟨Du,Hx⟩:=List.getElem?_zip_eq_some.1 hq;have Py:iy[i]? =some q.2:=by simpa using Hx
  have hi:i<es.size:=by have:=(Array.getElem?_eq_some_iff.1 Py).1;rw[hma.size];exact this
  have hkv:(es.toList.map λe=>(e.key,e.val))[i]? =(K.map rN)[i]?:=by rw[h2]
  rw[List.getElem?_map,List.getElem?_map,Du,Array.getElem?_toList,Array.getElem?_eq_getElem hi]at hkv;have hp:=Option.some.inj hkv;have hme:=hma.el i es[i] q.2 (Array.getElem?_eq_getElem hi) Py;have vT:es[i].key=.string (str q.1.1):=(Prod.mk.inj hp).1;have mA:es[i].val=q.1.2:=(Prod.mk.inj hp).2;refine⟨q.1,q.2,Du,Py,rfl,by rw[<-mA];exact hme.val,?_⟩;have:=hme.key;rw[vT]at this;exact Uo this
 have b8:∀p'∈(K.zip iy.toList).map λp=>(p.1.1,p.2.val),∀(i:Nat),((K.zip iy.toList).map λp=>(p.1.1,p.2.val))[i]? =some p'->w.ownsRow B 69 33 p'.2 (gN f bC p'.1).length (aK (gN f bC p'.1))/\∃p g b,K[i]? =some p/\p.2.ownBlock=some g/\p'.2.ownBlock=some b/\At E X g b:=λp' _ i hi=>by obtain⟨p,e',k1,k2,rfl,k4,_⟩:=kM i p' hi;have hpm:=List.mem_of_getElem? k1;obtain⟨t,ht,hf⟩:=(h4 p.1).1 (List.mem_map_of_mem hpm);have hn:0< (gN f bC p.1).length:=List.length_pos_of_mem (a:=t) (by unfold gN;simp[ht,hf]);obtain⟨r1,g,b,r2,r3,r4⟩:=ZU hw lG (SU _) hn (by omega) (h5 p hpm) k4;exact⟨r1,p,g,b,k1,r2,r3,r4⟩
 have amm:((K.zip iy.toList).map λp=>(p.1.1,p.2.val)).map (·.1)=K.map (·.1):=by rw[List.map_map];apply List.ext_getElem?;intro i;rw[List.getElem?_map,List.getElem?_map];by_cases hi:i<K.length;rw[List.getElem?_eq_getElem (by simpa[acU]using hi),List.getElem?_eq_getElem hi];simp;rw[List.getElem?_eq_none (by simp;omega),List.getElem?_eq_none (by omega)];rfl
 refine⟨iy,clock,_,e2,?_,by rw[amm];exact h3,λs=>by rw[amm];exact h4 s,λp' hp=>?_,λi j p q hp hq kx=>?_⟩;apply List.ext_getElem?;intro i;rw[List.getElem?_map,List.getElem?_map];by_cases hi:i<K.length;have hi2:i< ((K.zip iy.toList).map λp=>(p.1.1,p.2.val)).length:=by simp at acU|-;omega
 obtain⟨p,e',k1,k2,k3,_,k5⟩:=kM i _ (List.getElem?_eq_getElem hi2);rw[List.getElem?_eq_getElem hi2,Array.getElem?_toList,k2,k3];simp only[Option.map_some];unfold rN;rw[k5];rw[List.getElem?_eq_none (by omega),List.getElem?_eq_none (by simp;omega)];rfl;obtain⟨i,hi⟩:=List.getElem?_of_mem hp;exact(b8 p' hp i hi).1;obtain⟨_,p0,g,b,k1,k2,k3,k4⟩:=b8 p (List.mem_of_getElem? hp) i hp;obtain⟨_,q0,g',b',l1,l2,l3,l4⟩:=b8 q (List.mem_of_getElem? hq) j hq;rw[k3,l3];intro e;rw[Option.some.inj e]at k4;have:=ai8 hw.nodup k4 l4;have hd:=h6 i j p0 q0 k1 l1 kx;rw[k2,l2,this]at hd;exact hd rfl
end
end Ph
namespace Tp
open Go.Conc
open Go.ConcN (sumTo upd sumTo_upd upd_ne upd_same)
def AtRet(P:Program)(R:Value->World->Prop)(g:Goroutine)(w:World):Prop:=g.callers=[]/\P.inits.idxOf? g.frame.fn=none/\∃v,g.frame.leaving P w (.returned v)/\R v w
def FD{P fn tmps v w}(h:(results fn tmps).run P w=.ok v w):(∀τ n,(results fn tmps).run P (w.re τ n)=.ok v (w.re τ n))/\∃es,Ho es/\(∀x,deafBehind x es=x)/\∀τ n,(results fn tmps).runT P (w.re τ n) #[]=(.ok v (w.re τ n),es):=by
 have h0:=h;rcases(Ak (P:=P) fn tmps).run w #[]with⟨k,i⟩|⟨u,w',iy,hh⟩;have hr:(results fn tmps).runT P w #[]=(.ok v w,((results fn tmps).runT P w #[]).2):=by rw[Sem.runT_eq,h]
 have hk:k=0:=by have:=i.drawn;rw[hr]at this;have e:w.drawn=w.drawn+k:=this;omega
 subst hk;have hs:=λτ n=>i.same τ n (λ_ hh=>absurd hh (Nat.not_lt_zero _));rw[hr]at hs;refine⟨λτ n=>?_,_,λe he m hm=>?_,λx=>?_,λτ n=>hs τ n⟩;have:=hs τ n;rw[Sem.runT_eq]at this;exact(Prod.mk.inj this).1;rcases i.low e (by rw[hr];exact he)with h1|h1;simp at h1;unfold ou at h1;rw[hm]at h1;exact h1;have:=i.Yu (by rw[hr];trivial) x rfl;rw[hr]at this;exact this;exfalso;have hr:((results fn tmps).runT P w #[]).1=.ok v w:=by rw[Sem.runT_eq,h]
 rw[hh]at hr;cases hr
def MC{P}{fr:Frame}{w v}(h:fr.leaving P w (.returned v)) τ n:fr.leaving P (w.re τ n) (.returned v):=by obtain⟨h1,h2,h3,fn,h4,h5⟩:=h;exact⟨h1,h2,h3,fn,h4,(FD h5).1 τ n⟩
def RJ{P g w v}(hr:g.status=.running)(hd:g.dying=none)(hc:g.callers=[])(hi:P.inits.idxOf? g.frame.fn=none)(h:g.frame.leaving P w (.returned v)):∃es,(∀x,deafBehind x es=x)/\stepG P true g w=.ended (.done v) w es:=by
 obtain⟨fr,cs,st,dy,off⟩:=g;dsimp only at hr hd hc hi h;subst hr;subst hd;subst hc;obtain⟨hm,hdf,hk,fn,hf,n6⟩:=h;obtain⟨_,es,h1,h2,h3⟩:=FD n6;have h3:=h3 w.tape w.drawn;refine⟨seen P fr.fn es,λx=>(eY P fr.fn h1 x).trans (h2 x),?_⟩;have e1:stepG P true ⟨fr,[],.running,none,off⟩ w=unwind P true fr [] none w:=by unfold stepG;simp only[hm]
 rw[e1];unfold unwind;have h3':(results fn fr.tmps).runT P w #[]=(.ok v w,es):=h3;simp only[hm,hdf,hf,h3'];unfold doReturn;simp only[hk,hi];simp[GStep.after]
def XO{P R}(hR:∀v w d,R v w->R v (w.at d)){a w}(h:C7 P (λg u=>Fit g/\AtRet P R g u) a w):∃N last o w' t',runNT P (N+1) (solo a w) #[]=(.ended o w',t')/\runN P N (solo a w)=.next last/\step P last=.ended o w'/\Go.Conc.Good P R last o w' t':=by
 obtain⟨N,gs,a',w',sl,t,q,cF,h0,hL,hP,M0,hS⟩:=h #[a] none #[] (λ_=>0) rfl (leavers_one P a) Rj;have hr:a'.status=.running:=M0.1.run;have key:∀(M:Nat)(gs:Array Goroutine)(sl:Option (Nat×Nat))(t:Trace)(q:Nat->Nat)(e:Nat),sumTo gs.size q<=M->gs[0]? =some a'->Leavers P t gs q->gX t->
   ∃N last o w2 t',runNT P (N+1) (crowd gs (w'.at e) sl) t=(.ended o w2,t')/\runN P N (crowd gs (w'.at e) sl)=.next last/\step P last=.ended o w2/\Go.Conc.Good P R last o w2 t':=by
  have main:∀(gs:Array Goroutine)(sl oY:Option (Nat×Nat))(t:Trace)(q:Nat->Nat)(e d:Nat),gs[0]? =some a'->Leavers P t gs q->gX t->stepT P (crowd gs (w'.at e) sl)=runT P (crowd gs ((w'.at e).at d) oY) 0->
    ∃N last o w2 t',runNT P (N+1) (crowd gs (w'.at e) sl) t=(.ended o w2,t')/\runN P N (crowd gs (w'.at e) sl)=.next last/\step P last=.ended o w2/\Go.Conc.Good P R last o w2 t':=by
   intro gs sl oY t q e d h0 hL hP aT;obtain⟨hc,hi,v,hl,hv⟩:=hS;have hl2:a'.frame.leaving P ((w'.at e).at d) (.returned v):=MC hl w'.tape d;obtain⟨es,Ia,aaZ⟩:=RJ hr M0.2 hc hi hl2;have WI:=runT_many_ended (P:=P) (sl:=oY) (i:=0) h0 (show stepG P (0==0) a' ((w'.at e).at d)=_ from aaZ);have bL:∀op∈MemOp.ofEvents 0 a'.frame.fn a'.frame.place es,op.g=0:=λop cI=>by obtain⟨e,_,rfl⟩:=Go.Conc.mem_ofEvents cI;rfl
   have hP':=hP.app0 bL (jP Ia t);have hs:stepT P (crowd gs (w'.at e) sl)=(.ended (.done v) ((w'.at e).at d),MemOp.ofEvents 0 a'.frame.fn a'.frame.place es):=aT.trans WI;refine⟨0,crowd gs (w'.at e) sl,.done v,(w'.at e).at d,t++MemOp.ofEvents 0 a'.frame.fn a'.frame.place es,?_,rfl,?_,v,rfl,hR _ _ _ (hR _ _ _ hv),hP'.clean,hP'.over,⟨λx hx=>?_,rfl⟩,λj x hx hj=>?_⟩
   ·simp only[runNT,hs]
   ·show(stepT P _).1=_;rw[hs]
   ·obtain⟨j,hj⟩:=List.mem_iff_getElem?.1 hx;rw[List.getElem?_drop]at hj;exact⟨_,(hL.old (1+j) x (by omega) (by simpa[crowd]using hj)).leaves⟩
   ·have hq:=hL.old j x (by omega) hx
    refine⟨q j,?_⟩;have e:(t++MemOp.ofEvents 0 a'.frame.fn a'.frame.place es).deaf j (t++MemOp.ofEvents 0 a'.frame.fn a'.frame.place es).size=Deaf t j:=
     Deaf_other t (g:=j) (g':=0) (by omega) _ bL
    rw[e];exact hq.hears _
  intro M;induction M with
  |zero=>
   intro gs sl t q e hM h0 hL hP;obtain⟨i,g,d,oY,hi,hg,aT⟩:=crowd_pick (P:=P) (w:=w'.at e) (sl:=sl) (qS hL h0 hr) ⟨0,a',h0,hr⟩;rcases Nat.eq_zero_or_pos i with rfl|hpos
   ·exact main gs sl oY t q e d h0 hL hP aT
   ·obtain⟨gs',ops,q',c1,c2,c3,c4,c5,c6⟩:=slip (w:=(w'.at e).at d) (sl:=oY) hL hP h0 hr hi hpos hg;omega
  |succ M ih=>
   intro gs sl t q e hM h0 hL hP;obtain⟨i,g,d,oY,hi,hg,aT⟩:=crowd_pick (P:=P) (w:=w'.at e) (sl:=sl) (qS hL h0 hr) ⟨0,a',h0,hr⟩;rcases Nat.eq_zero_or_pos i with rfl|hpos
   ·exact main gs sl oY t q e d h0 hL hP aT
   ·obtain⟨gs',ops,q',c1,c2,c3,c4,c5,c6⟩:=slip (w:=(w'.at e).at d) (sl:=oY) hL hP h0 hr hi hpos hg;obtain⟨N,last,o,w2,t2,r1,r2,r3,r4⟩:=ih gs' oY (t++ops) q' d (by omega) c2 c4 c5
    have yM:stepT P (crowd gs (w'.at e) sl)=(.next (crowd gs' (w'.at d) oY),ops):=aT.trans c1
    refine⟨N+1,last,o,w2,t2,?_,?_,r3,r4⟩
    ·rw[runNT];simp only[yM];exact r1
    ·rw[runN];have:step P (crowd gs (w'.at e) sl)=.next (crowd gs' (w'.at d) oY):=by show(stepT P _).1=_;rw[yM]
     simp only[this];exact r2
 obtain⟨N2,last,o,w2,t2,r1,r2,r3,r4⟩:=key _ gs sl t q w'.drawn ν h0 hL hP;have acE:runNT P N (solo a w) #[]=(.next (crowd gs (w'.at w'.drawn) sl),t):=cF;have alJ:runN P N (solo a w)=.next (crowd gs (w'.at w'.drawn) sl):=by rw[<-runNT_fst P N _ #[],acE]
 refine⟨N+N2,last,o,w2,t2,?_,?_,r3,r4⟩;rw[Nat.add_assoc,runNT_add,acE];exact r1;rw[runN_add,alJ];exact r2
end Tp
namespace Ph
open Go.Conc Rn ba
open Go.RowKit
open Tp (bu bp Term Ld fS bS bc bD C7 ef eu Fit)
noncomputable def UJ:List Item:=[.inRegion (co (cl MY)) [1],.code (cr MY),.inLoop MY,.inBlock 2,.code M14]
def Aft(kd:List UInt8)(P:List (List UInt8))(B:Nat)(w:World)(cs:List Frame)(a':Goroutine)(w':World):Prop:=∃(bC:List (List UInt8))(M:Nat)(arr:Array Value)(z:Value),a'=fS (bm.at ⟨arr,[]⟩ UJ) cs/\arr.size=35/\arr[8]? =some (.map (some M))/\arr[20]? =some (.tuple #[z,.bool false])/\(∀p,bC.countP p=P.countP p)/\ny w' B M (bQ kd) bC/\B<=M/\kg B w w'
def SG{fr}{b:Frame}{a t}(h1:fr.fn=b.fn)(h2:fr.tmps=a)(h3:fr.todo=t)(h4:fr.defers=[])(h5:fr.mode=.run)(h6:fr.kind=b.kind)(h7:fr.roundOf=none):fr=b.at ⟨a,[]⟩ t:=by obtain⟨f1,f2,f3,f4,f5,f6,f7⟩:=fr;dsimp only at h1 h2 h3 h4 h5 h6 h7;subst h1;subst h2;subst h3;subst h4;subst h5;subst h6;subst h7;rfl
section
variable{kd:List UInt8}{P:List (List UInt8)}{es:Array MapEntry}{clock B rb mb:Nat}{cs:List Frame}{w wg:World}
def ajc(h:AtGo kd es clock B rb mb wg)(pO:∀e∈es.toList,Exact e.key/\Exact e.val){a' w'}(ha:adz (PS kd P es clock (bn B rb mb) cs wg) wg a' w'):Aft kd P B wg cs a' w':=by
 obtain⟨bC,X,g,v,Xf,gf,vf,h1,kp,h2,h3,h4,⟨Y,rfl,hY⟩,h6,h7,⟨Z,rfl⟩,h9,Uh,h11,h12,h13⟩:=ha;obtain⟨⟨x0,x1,x4,x9,jG,ji,iJ,jF,iI,kC,js,kq,oM,rz,nD,mI,nz,CX,CW,CV,CU,CQ,CO,CN,CL,xM,yE,yD,rfl⟩,Si,n7,_⟩:=(show SA kd (.aZ bC) g v from h2);have h1:GR prog (PE (B+2) (B+4) (B+6)) ((bn B rb mb).X0++Y) cs (Go.Conc.served (fS (bm.at ⟨#[x0,x1,lp 5,lp 6,x4,lp 7,lp 8,lp 9,.map (some 10),x9,jG,ji,iJ,jF,iI,kC,js,kq,oM,.chan (some 3),rz,nD,mI,nz,CX,CW,CV,CU,CQ,CO,CN,CL,xM,yE,yD],[]⟩ tRR) [wall]) (.tuple #[.agg PU.toArray,.bool false])) a':=h1;unfold tRR at h1;rw[iC (o:=⟨some 20,_,_,_,_,_⟩) rfl]at h1;have h1:GR prog (PE (B+2) (B+4) (B+6)) ((bn B rb mb).X0++Y) cs (fS (bm.at ⟨#[x0,x1,lp 5,lp 6,x4,lp 7,lp 8,lp 9,.map (some 10),x9,jG,ji,iJ,jF,iI,kC,js,kq,oM,.chan (some 3),.tuple #[.agg PU.toArray,.bool false],nD,mI,nz,CX,CW,CV,CU,CQ,CO,CN,CL,xM,yE,yD],[]⟩ UJ) [wall]) a':=h1;have hc:=uL h1;obtain⟨hr,hd,hf,_⟩:=h1;have hX5:∃M,((bn B rb mb).X0++Y)[5]? =some M:=by have hs:=h4.size;obtain⟨yX,avz,K,he,_⟩:=n7;have aM:=(Array.getElem?_eq_some_iff.1 he).1;have hs':v.heap.size=5+((bn B rb mb).X0++Y).length:=hs;exact⟨_,List.getElem?_eq_getElem (show 5< ((bn B rb mb).X0++Y).length by omega)⟩
 obtain⟨M,hM⟩:=hX5;have aiF:At (PE (B+2) (B+4) (B+6)) ((bn B rb mb).X0++Y) 10 M:=⟨by show 5<=10;omega,hM⟩;have lC:=h.size;have lG:∀g b,At (PE (B+2) (B+4) (B+6)) ((bn B rb mb).X0++Y) g b->10<=g->B<=b:=λg b hg Uh=>by have h1:((bn B rb mb).X0++Y)[g-5]? =some b:=hg.2;rw[List.getElem?_append_right (by show 5<=g-5;omega)]at h1;have:=hY b (List.mem_of_getElem? h1);omega
 have Hu:∀t x,(hx:(⟨#[x0,x1,lp 5,lp 6,x4,lp 7,lp 8,lp 9,.map (some 10),x9,jG,ji,iJ,jF,iI,kC,js,kq,oM,.chan (some 3),.tuple #[.agg PU.toArray,.bool false],nD,mI,nz,CX,CW,CV,CU,CQ,CO,CN,CL,xM,yE,yD],[]⟩:Act).tmps[t]? =some x)->∃x',a'.frame.tmps[t]? =some x'/\Rn.V (PE (B+2) (B+4) (B+6)) ((bn B rb mb).X0++Y) x x':=λt x hx=>by rcases hf.tmps.get t with⟨y,y',e1,e2,hy⟩|⟨e1,_⟩;have:some y=some x:=e1.symm.trans hx;cases this;exact⟨y',e2,hy⟩;have:none=some x:=e1.symm.trans hx;cases this
 obtain⟨y8,e8,v8⟩:=Hu 8 _ rfl;obtain⟨y20,e20,v20⟩:=Hu 20 _ rfl;have e8':y8=.map (some M):=by cases v8 with|map _ b hb=>have:=hb.2.symm.trans aiF.2;rw[Option.some.inj this]
 obtain⟨z,rfl⟩:∃z,y20=.tuple #[z,.bool false]:=by
  cases v20 with
  |tuple _ a2 oO hel=>
  have hs3:a2.size=2:=oO.symm;have hb:=hel 1 (.bool false) a2[1] rfl (Array.getElem?_eq_getElem (by omega));have fT:a2[1]=.bool false:=by generalize a2[1]=q at hb;cases hb;rfl
  refine⟨a2[0],?_⟩;congr 1;apply Array.ext;simpa using hs3;intro i Za hi2;have:i=0∨i=1:=by simp at hi2;omega
  rcases this with rfl|rfl;rfl;exact fT
 refine⟨bC,M,a'.frame.tmps,z,?_,?_,by rw[e8,e8'],e20,h3,VC h4 (λg b hg h11=>lG g b hg (by omega)) n7 aiF,lG 10 M aiF ν,?_⟩;have fR:a'.frame=bm.at ⟨a'.frame.tmps,[]⟩ UJ:=SG (b:=bm) hf.fn rfl hf.todo hf.defers.2 hf.mode hf.kind hf.round.2;obtain⟨fr,fu,st,dy,off⟩:=a';dsimp only at fR hc hr hd kp|-;obtain⟨_,rfl⟩:=hr;obtain⟨_,rfl⟩:=hd;subst hc;subst kp;exact congrArg (λf=>fS f fu) fR;exact hf.tmps.size.symm;refine⟨h11,h12,h9,λk hk=>?_⟩;by_cases MZ:k=mb;subst MZ;obtain⟨_,hpf⟩:=(show FA P es clock .dk gf vf from h6);obtain⟨o,o',f1,f2,f3⟩:=h7.el 5 k rfl;have f1':vf.heap[10]? =some o:=f1;rw[hpf 10 _ rfl]at f1';cases f1';rw[f2,h.MZ];cases f3 with
 |map _ iy _ hma=>
  congr 2;apply Array.ext_getElem?;intro i;by_cases hi:i<es.size;have JS:i<iy.size:=by rw[<-hma.size];exact hi
  have hme:=hma.el i es[i] iy[i] (Array.getElem?_eq_getElem hi) (Array.getElem?_eq_getElem JS);obtain⟨x1,x2⟩:=pO es[i] (by simp);rw[Array.getElem?_eq_getElem hi,Array.getElem?_eq_getElem JS];congr 1;have k1:=x1.eq hme.key;have k2:=x2.eq hme.val;have k3:=hme.born;generalize iy[i]=e' at k1 k2 k3;generalize es[i]=e at k1 k2 k3;obtain⟨a1,a2,a3⟩:=e';obtain⟨b1,b2,b3⟩:=e;dsimp only at k1 k2 k3;subst k1;subst k2;subst k3;rfl;rw[Array.getElem?_eq_none (by rw[<-hma.size];omega),Array.getElem?_eq_none (by omega)]
 refine Uh k (by omega) (by show k≠B+2;omega) (by show k≠B+4;omega) (by show k≠B+6;omega) ?_;by_cases hrb:k=rb;right;show(bn B rb mb).Sh k;unfold Bn.Sh bn;dsimp only;omega;left;refine⟨?_,?_,?_⟩;show k∉ [B,B+1,B+3,B+5,B+7];simp only[List.mem_cons,List.not_mem_nil,or_false];omega;show k∉ [B+3,B+5,B+1,B+7];simp only[List.mem_cons,List.not_mem_nil,or_false];omega;show k∉ [B,B+3,B+7,B+5,rb,mb];simp only[List.mem_cons,List.not_mem_nil,or_false];omega
def SL:Tp.bH UJ:=Cc (by kernel_rfl)
def NF(h:AtGo kd es clock B rb mb w)(hM:Mp.Map w mb P)(pO:∀e∈es.toList,Exact e.key/\Exact e.val):ef prog (Aft kd P B w cs) (gR kd (bn B rb mb) cs) w:=by
 intro hf τ n;have h1:AtGo kd es clock B rb mb (w.re τ n):=⟨h.size,h.hcp,h.hck,h.hJ,h.Na,h.hR,h.lO,h.hD,h.hcd,h.hrb,h.MZ,h.rlt,h.mlt⟩;have hM1:Mp.Map (w.re τ n) mb P:=hM.block rfl;have hb:=Tl (ready (cs:=cs) h1 hM1 (λe he=>⟨(pO e he).1.clean,(pO e he).2.clean⟩));refine hb.mono λa' w' ha=>?_;have hA:=ajc h1 pO ha;have hA':Aft kd P B w cs a' w':=by obtain⟨bC,M,arr,z,h1,h2,h3,h4,h5,h6,h7,h8⟩:=hA;exact⟨bC,M,arr,z,h1,h2,h3,h4,h5,h6,h7,⟨h8.os,h8.output,h8.size,h8.block⟩⟩
 refine⟨?_,hA'⟩;obtain⟨bC,M,arr,z,rfl,_⟩:=hA';exact⟨⟨rfl,(λd hd=>by cases hd),⟨SL,hf.1.SR.rest,(λhd=>by cases hd)⟩⟩,rfl⟩
def aiM:M14=.seq (cl M14) (cr M14):=rfl
def DC(hM:Mp.Map w mb P)(MZ:w.heap[mb]? =some (.map es clock)):∀e∈es.toList,Exact e.key/\Exact e.val:=λe he=>by obtain⟨iy,lJ,h1,hF,_⟩:=hM.own;rw[MZ]at h1;cases h1;obtain⟨yy,hyy⟩:=hF.reads e he;unfold WideElems.rd at hyy;simp only[Option.bind_eq_some_iff,Option.map_eq_some_iff]at hyy;obtain⟨kl,hk,y,hy,_⟩:=hyy;obtain⟨d,_,hd,_⟩:=Gk hk;refine⟨by rw[hd];exact lH (iF d),?_⟩;rcases Mp.Fq hy with⟨t,ht,_⟩|⟨ht,_⟩;rw[ht];exact Ch t;rw[ht];exact EY
def avt:prog.funcs[33]? =some Tryz.f33:=func33
def XT{B0 c Stop}(K:∀v w',(∃M bC,v=.map (some M)/\(∀p,bC.countP p=P.countP p)/\ny w' B M (bQ kd) bC/\B<=M/\kg B B0 w')->ef prog Stop (fS (c.finish v) cs) w') (hw:kg B B0 w) {a' w'} (ha:Aft kd P B w (c::cs) a' w'):ef prog Stop a' w':=by
 obtain⟨bC,M,arr,z,rfl,hs,h8,h20,h5,h6,h7,h9⟩:=ha;have K1:=K (.map (some M)) w' ⟨M,bC,rfl,h5,h6,h7,hw.trans h9⟩;refine Tp.br bp (Tp.bI λτ n=>?_);have K1:ef prog Stop (fS (c.finish (.map (some M))) cs) (w'.re τ n):=K1.re τ n;generalize w'.re τ n=w2 at K1;have e20:∀(ar:Array Value)(d:Nat)(v:Value),d≠20->ar[20]? =some (.tuple #[z,.bool false])->(ar.setIfInBounds d v)[20]? =some (.tuple #[z,.bool false]):=λar d v hd h=>by rw[Array.getElem?_setIfInBounds_ne hd];exact h
 unfold UJ;refine Tp.jD (o:=⟨some 21,.extract (.tmp 20) 1,_,_,_,_⟩) (v:=.bool false) (w':=w2) rfl rfl ?_ ?_;unfold execOp;have:(Act.mk arr []).eval (.tmp 20)=.tuple #[z,.bool false]:=by show arr.getD 20 undef=_;rw[Array.getD_eq_getD_getElem?,h20];rfl
 simp only[this];rfl;show bS _ _ (bm.at ⟨arr.setIfInBounds 21 (.bool false),[]⟩ _) _ _;refine Tp.bR (ay am4 (bT (t:=false) rfl ?_ (eD rfl rfl ?_)));show(arr.setIfInBounds 21 (.bool false)).getD 21 undef=_;rw[Array.getD_eq_getD_getElem?,Array.getElem?_setIfInBounds_self_of_lt (by omega)];rfl;refine ay aiM ?_;refine wG (s:=0) (r:=[0,1]) rfl rfl ?_;show bS _ _ _ _ _;refine Tp.jD (o:=⟨some 34,.move (.tmp 8),_,_,_,_⟩) (v:=.map (some M)) (w':=w2) rfl rfl ?_ ?_;unfold execOp;have:(Act.mk (arr.setIfInBounds 21 (.bool false)) []).eval (.tmp 8)=.map (some M):=by show(arr.setIfInBounds 21 (.bool false)).getD 8 undef=_;rw[Array.getD_eq_getD_getElem?,Array.getElem?_setIfInBounds_ne (by omega),h8];rfl
 simp only[this];rfl;show bS _ _ (bm.at ⟨(arr.setIfInBounds 21 (.bool false)).setIfInBounds 34 (.map (some M)),[]⟩ _) _ _;refine Tp.jD (o:=⟨some 4,.assign (.tmp 34),_,_,_,_⟩) (v:=.map (some M)) (w':=w2) rfl rfl ?_ ?_;unfold execOp;have:(Act.mk ((arr.setIfInBounds 21 (.bool false)).setIfInBounds 34 (.map (some M))) []).eval (.tmp 34)=.map (some M):=by show((arr.setIfInBounds 21 (.bool false)).setIfInBounds 34 (.map (some M))).getD 34 undef=_;rw[Array.getD_eq_getD_getElem?,Array.getElem?_setIfInBounds_self_of_lt (by simp;omega)];rfl
 simp only[this];rfl;show bS _ _ (bm.at ⟨((arr.setIfInBounds 21 (.bool false)).setIfInBounds 34 (.map (some M))).setIfInBounds 4 (.map (some M)),[]⟩ _) _ _;have h4:(((arr.setIfInBounds 21 (.bool false)).setIfInBounds 34 (.map (some M))).setIfInBounds 4 (.map (some M)))[4]? =some (.map (some M)):=by rw[Array.getElem?_setIfInBounds_self_of_lt (by simp;omega)]
 generalize((arr.setIfInBounds 21 (.bool false)).setIfInBounds 34 (.map (some M))).setIfInBounds 4 (.map (some M))=ar at h4;refine Tp.bR (bD step_ret ?_);refine bD (step_leave_returned (v:=.map (some M)) ⟨rfl,rfl,rfl,_,avt,?_⟩) (bc K1);refine(results_tmp (t:=4) (fn:=Tryz.f33) rfl _ _ _).trans ?_;show Result.ok (ar.getD 4 undef) w2=_;rw[Array.getD_eq_getD_getElem?,h4];rfl
def hMa:Ph.M=.seq (cl Ph.M) (cr Ph.M):=rfl
def hMb:cr Ph.M=.seq (cl (cr Ph.M)) (cr (cr Ph.M)):=rfl
def hMc:cr (cr Ph.M)=.seq (cl (cr (cr Ph.M))) (cr (cr (cr Ph.M))):=rfl
def hMd:cr (cr (cr Ph.M))=.seq (cl (cr (cr (cr Ph.M)))) M4:=rfl
def abn(p q:Value):Frame.enter prog 33 #[p,q] .normal=bm.at ⟨#[p,q,undef,undef,undef,undef,undef,undef,undef,undef,undef,undef,undef,undef,undef,undef,undef,undef,undef,undef,undef,undef,undef,undef,undef,undef,undef,undef,undef,undef,undef,undef,undef,undef,undef],[]⟩ [.code Ph.M]:=by unfold Frame.enter;rw[func33];kernel_rfl
def anP{u:World}{B:Nat}(hs:u.heap.size=B)(hr:∃a b c,u.heap[rb]? =some (.cells #[.map (some mb),a,b,c] 41 (0,0))/\flat a/\flat b/\flat c)(MZ:u.heap[mb]? =some (.map es clock))(WL:rb<B)(Xb:mb<B):AtGo kd es clock B rb mb ((((((((u.alloc (.cells #[.pointer (some ⟨rb,0,none⟩)] 72)).alloc (.cells (aN kd).toArray 93)).alloc (.chan 0 #[] false 0 0 false)).alloc (.cells #[.chan (some (B+2))] 132)).alloc (.chan 0 #[] false 0 0 false)).alloc (.cells #[.chan (some (B+4))] 133)).alloc (.chan 3 #[] false 0 0 false)).alloc (.cells #[.chan (some (B+6))] 134))/\kg B u ((((((((u.alloc (.cells #[.pointer (some ⟨rb,0,none⟩)] 72)).alloc (.cells (aN kd).toArray 93)).alloc (.chan 0 #[] false 0 0 false)).alloc (.cells #[.chan (some (B+2))] 132)).alloc (.chan 0 #[] false 0 0 false)).alloc (.cells #[.chan (some (B+4))] 133)).alloc (.chan 3 #[] false 0 0 false)).alloc (.cells #[.chan (some (B+6))] 134)):=by
 have hg:∀(x:World)(o:Obj)(k:Nat),(x.alloc o).heap[k]? =if k=x.heap.size then some o else x.heap[k]?:=λx o k=>by show(x.heap.push o)[k]? =_;rw[Array.getElem?_push]
 obtain⟨a,b,c,h1,h2⟩:=hr;refine⟨⟨by simp only[World.size_alloc,hs],?_,?_,?_,?_,?_,?_,?_,?_,⟨a,b,c,?_,h2⟩,?_,WL,Xb⟩,rfl,rfl,by simp only[World.size_alloc];omega,λk hk=>?_⟩;all_goals simp only[hg,World.size_alloc,hs]
 all_goals repeat(first|rw[if_neg (by omega)])
 all_goals first|done|exact h1|exact MZ|exact if_pos trivial
def Dd(kd:List UInt8)(P:List (List UInt8))(rb mb:Nat)(w:World)(hr:∃a b c,w.heap[rb]? =some (.cells #[.map (some mb),a,b,c] 41 (0,0))/\flat a/\flat b/\flat c)(hM:Mp.Map w mb P):eu prog 33 #[.pointer (some ⟨rb,0,none⟩),.agg (aN kd).toArray] w λv w'=>∃M bC,v=.map (some M)/\(∀p,bC.countP p=P.countP p)/\ny w' w.heap.size M (bQ kd) bC/\w.heap.size<=M/\kg w.heap.size w w':=λc cs Stop K=>by
 have Sm:=hM.lt;have WL:rb<w.heap.size:=by obtain⟨a,b,c,h1,_⟩:=hr;exact(Array.getElem?_eq_some_iff.1 h1).1
 obtain⟨es,clock,MZ,_⟩:=hM.own;refine Tp.br bp (Tp.bI λτ n=>?_);rw[abn];have hJ:∀u:World,(Instr.makeChan 132 (.int .i64 0)).run prog u=.ok (.chan (some u.heap.size)) (u.alloc (.chan 0 #[] false 0 0 false)):=λu=>by kernel_rfl
 have hR:∀u:World,(Instr.makeChan 133 (.int .i64 0)).run prog u=.ok (.chan (some u.heap.size)) (u.alloc (.chan 0 #[] false 0 0 false)):=λu=>by kernel_rfl
 have hD:∀u:World,(Instr.makeChan 134 (.int .i64 3)).run prog u=.ok (.chan (some u.heap.size)) (u.alloc (.chan 3 #[] false 0 0 false)):=λu=>by kernel_rfl
 refine ay hMa (aP (c':=.region _ _ _) rfl ?_);go_wp2_with fail;show bS _ _ _ _ _;refine ay hMb (aP (c':=.region _ _ _) rfl ?_);go_wp2_with fail;show bS _ _ _ _ _;refine ay hMc (aP (c':=.region _ _ _) rfl ?_);go_wp2_with fail;show bS _ _ _ _ _;refine ay hMd (aP (c':=.region _ _ _) rfl ?_);go_wp2_with fail;show bS _ _ _ _ _;have hs:(w.re τ n).heap.size=w.heap.size:=rfl;rw[hs];obtain⟨hA,hB⟩:=anP (kd:=kd) (u:=w.re τ n) (es:=es) (clock:=clock) hs hr MZ WL Sm;have hM:Mp.Map _ mb P:=hM.block ((hB.block mb Sm).trans rfl);have hB:kg w.heap.size w _:=⟨hB.os,hB.output,hB.size,hB.block⟩;simp only[Nat.add_assoc,Nat.reduceAdd]at hA hB hM|-;generalize(World.alloc _ _)=w8 at hA hB hM|-;have pO:=DC hM hA.MZ;have HA:=η hA;have HB:=η hB;have HM:=η hM;have HC:=η pO;have HK:=η K;clear hA hB hM pO hJ hR hD hr MZ K hs;refine ay hM4 (ay auX (aP (c':=.region _ _ _) rfl ?_));go_wp2_with fail;show bS _ _ _ _ _;refine bX auY (eC auW ?_);refine ay hMX (aP (c':=.region _ _ _) rfl ?_);go_wp2_with fail;show bS _ _ _ _ _;refine ay aiL (bT (t:=true) rfl rfl (da rfl (ay am6 (bX am5 ?_))));refine ep 1 [1] rfl rfl (by decide +kernel) ?_;show wpList _ _ _ [_] _ _;go_wp2_with fail;show bS _ _ (bm.at _ tG) _ _;exact bc ((NF (P:=P) (cs:=c::cs) HA.o HM.o HC.o).trans λa' w' ha=>XT (c:=c) (B0:=w) HK.o HB.o ha)
end
end Ph
section
open Go.RowKit ba
open Ph (cb cl cr ci co ny gN nH bQ)
noncomputable def CM:Code:=cb Tryz.f15
noncomputable def ajD:Code:=cr (cr (cr (cr (cr (cr (cr (cr (cr (cr CM)))))))))
def AF{w B e v l}(h:w.ownsRow B e 1 v l.length (oN l)):dC w v (Cp.ints l):=by by_cases h0:l.length=0;obtain⟨a,c,rfl⟩:=aO h;have:l=[]:=List.eq_nil_of_length_eq_zero h0;subst this;exact .inl ⟨a,c,rfl,rfl⟩;obtain⟨g,cap,rfl,_,hg,nj⟩:=fK h (by omega);refine .inr ⟨g,0,cap,by rw[Cp.gP],hg,λj hj=>?_⟩;rw[Cp.gP]at hj;rw[Nat.zero_add,nj j (by omega)];unfold oN Cp.ints;rw[List.getElem?_map,List.getD_eq_getElem?_getD,List.getElem?_map,List.getElem?_eq_getElem hj];rfl
def Lw{w:World}{g off:Nat}{t:List UInt8}(hr:w.rangeAt g off (ai t)):(Instr.loadAt 69 (.pointer (some ⟨g,off,none⟩))).run prog w=.ok (.agg (ai t).toArray) w:=run_loadAt_mid w g off _ (ai t) _ hr underlying69 rfl (by rw[cW,aE])
def sd{ops:Array Oper}{rest:List Oper}{o:Oper}{a:Act}{C:World->Prop}{Q:Act->Prop}(hw:Region.wanted o (yielded ops a.tmps)=true)(x:Operand)(ho:o.op=.load 69 x) (g off:Nat) (t:List UInt8) (hx:a.eval x=.pointer (some ⟨g,off,none⟩)) (hr:∀w,C w->w.rangeAt g off (ai t)) (h:wpQuiet prog ops C Q rest (a.put o.dst (.agg (ai t).toArray))):wpQuiet prog ops C Q (o::rest) a:=by refine vzq hw (λw hC=>?_) h;unfold execOp;simp only[ho,hx,Sem.run_bind,Lw (hr w hC),Result.andThen_ok,Sem.run_pure]
def aV.qo{O w w1 w2}(h:aV O w w1)(k:Below w.heap.size w1 w2):aV O w w2:=⟨k.os.trans h.os,k.tape.trans h.tape,k.output.trans h.output,Nat.le_trans h.size k.size,λj hj ho=>(k.block j hj).trans (h.block j hj ho)⟩
def Tw(rb T A:Nat)(k:Nat):Prop:=k=rb∨k=T∨k=A
def mF(w:World)(rb mb C:Nat)(s:Cp.RS):Prop:=(s=Cp.idle/\dw w rb (oB mb))∨(Cp.DN s/\∃T mv,dw w rb (ec mb s.header (.slice (some ⟨T,0,none⟩) s.bE.length s.bE.length) mv)/\Tz.At w T s.bE/\C<=T/\w.ownsRow C 3 1 mv s.missing.length (oN s.missing))
def GC(c:Wr.Cb)(P bC:List (List UInt8))(f:List UInt8->List UInt8)(L0:List (List UInt8))(rb mb A D T M C0 CS B:Nat)(sa:Option Addr)(sc:Nat)(av tv:Value)(w:World) (hT:cG w) (lQ:1<rb) (dR:Wr.aog c) (hP:∀t∈P,t≠ []/\t.length<=610) (BG:∀p:List UInt8->Bool,bC.countP p=P.countP p) (hR:dw w rb (ec mb c.header (.slice (some ⟨T,0,none⟩) (c.ae.length+c.ah.length) (c.ae.length+c.ah.length)) (.slice none 0 0))) (hA:Row w A (an 0 [])) (hD:Row w D (cc c.header c.aI (.slice sa c.ae.length sc) av tv)) (hS:w.ownsRow CS 9 1 (.slice sa c.ae.length sc) c.ae.length (wt c.ae)) (hTz:Tz.At w T L0) (hM:ny w B M f bC) (hF:Cp.FI f P c.ah c.ae (c.ae.length+c.ah.length) 0 L0 [] 0) (Pq:rb<C0) (hCA:C0<=A) (aC2:A<CS) (hAT:A<T) (hDT:D<T) (hAD:A<D) (hTB:T<B) (hBM:B<=M) (hMw:B<=w.heap.size) (hsT:∀k,Value.ownBlock (.slice sa c.ae.length sc)=some k->k<T) (x1 x2 x3 x5 x7 x8 x9 jG iJ jF iI kC js kq oM rX rz nD mI nz CX CW CV CU CQ CO CN CL xM yE yD x35 x36 x37 x38 x39 x40 x41 x42 x43 x44 x45 x46 x47 x48 x49 x50 x51 x52 x53 x54 x55 x56 x57 x58 x59 x60 x61 x62 x63 x64 x65 x66 x67 x68 x69 x70 x71 x72 x73 x74 x75 x76 x77 x78 x79 x80 x81 x82 x83 x84 x85 x86 x87 x88 x89 x90 x91 x92 x93 x94 x95 x96 x97 x98 x99 aqU aqT aqS aqR aqQ aqP aqO aqN aqM aqL aqK aqJ aqI aqH aqG aqF aqE aqD aqC aqB aqA aqz aqy aqx aqw aqv aqu aqt aqs aqr aqq aqp aqo aqn aqm aql aqk aqj aqi aqh aqg aqf aqe aqd aqc aqb aqa ap9 ap8 ap7 ap6 ap5 ap4 ap3 ap2 ap1 ap0 apZ apY:Value):ajD.wp prog (bodyPost prog Tryz.f15 λ|.returned v,w'=>(v=.tuple #[.agg (an (Cp.gZ f P c).1.1 (Cp.gZ f P c).1.2).toArray,.int .i64 0]/\mF w' rb mb C0 (Cp.gZ f P c).2/\aV (Tw rb T A) w w')|_,_=>False) ⟨List.toArray (.pointer (some ⟨rb,0,none⟩)::x1::x2::x3::.pointer (some ⟨A,0,none⟩)::x5::.pointer (some ⟨D,0,none⟩)::x7::x8::x9::jG::.map (some M)::iJ::jF::iI::kC::js::kq::oM::rX::rz::nD::mI::nz::CX::CW::CV::CU::CQ::CO::CN::CL::xM::yE::yD::x35::x36::x37::x38::x39::x40::x41::x42::x43::x44::x45::x46::x47::x48::x49::x50::x51::x52::x53::x54::x55::x56::x57::x58::x59::x60::x61::x62::x63::x64::x65::x66::x67::x68::x69::x70::x71::x72::x73::x74::x75::x76::x77::x78::x79::x80::x81::x82::x83::x84::x85::x86::x87::x88::x89::x90::x91::x92::x93::x94::x95::x96::x97::x98::x99::aqU::aqT::aqS::aqR::aqQ::aqP::aqO::aqN::aqM::aqL::aqK::aqJ::aqI::aqH::aqG::aqF::aqE::aqD::aqC::aqB::aqA::aqz::aqy::aqx::aqw::aqv::aqu::aqt::aqs::aqr::aqq::aqp::aqo::aqn::aqm::aql::aqk::aqj::aqi::aqh::aqg::aqf::aqe::aqd::aqc::aqb::aqa::ap9::ap8::ap7::ap6::ap5::ap4::ap3::ap2::ap1::ap0::apZ::apY::[]),[]⟩ w:=by
 have W9:=dR.le;have hn0:=dR.pos;have HR:=η hR;have HA:=η hA;have HD:=η hD;have HS:=η hS;have HTz:=η hTz;have HM:=η hM;have HF:=η hF;have HP:=η hP;have HG:=η BG;have HST:=η hsT;have HT:=η hT;have ES:=η (show Cp.gZ f P c=if(Cp.fill f P c.ah (c.ae.length+c.ah.length) 0 c.ae).2=[]then(Cp.finish c.header (Cp.fill f P c.ah (c.ae.length+c.ah.length) 0 c.ae).1,Cp.idle)else((1,Cp.request c.header (Cp.fill f P c.ah (c.ae.length+c.ah.length) 0 c.ae).2),⟨c.header,(Cp.fill f P c.ah (c.ae.length+c.ah.length) 0 c.ae).1,(Cp.fill f P c.ah (c.ae.length+c.ah.length) 0 c.ae).2⟩)from rfl);obtain⟨KQ,pS⟩:∃p,Cp.gZ f P c=p:=⟨_,rfl⟩;rw[pS]at ES|-;clear hR hA hD hS hTz hM hF hP BG hsT pS hT;have ur:=HR.o.cell 2;rw[show(ec mb c.header (.slice (some ⟨T,0,none⟩) (c.ae.length+c.ah.length) (c.ae.length+c.ah.length)) (.slice none 0 0))[2]? =some (.slice (some ⟨T,0,none⟩) (c.ae.length+c.ah.length) (c.ae.length+c.ah.length))from rfl]at ur;obtain⟨n,hn⟩:∃n,c.ae.length+c.ah.length=n:=⟨_,rfl⟩;rw[hn]at HR HF ES ur W9 hn0;have awN:c.ae.length<=16:=by omega
 have HN:=η hn;have KW:=η (show Cp.mG n c.ah by rw[<-hn];exact dR.ah);clear hn;generalize hQ:bodyPost prog Tryz.f15 _=Q;simp only[ajD,CM,Ph.cb,Tryz.f15,Option.getD_some,Ph.cr];subst hQ;go_wp2_with fail;clear ur;obtain⟨i1,Za,hq0,Du,Hx⟩:=info_parts ly;have HI:=η Za;clear Za;go_loopw [12,13,14,95] (λnv jv lv iv wr=>∃(i nx:Nat)(L:List (List UInt8))(ms:List Nat)(mv:Value),i<=n/\iv=.int .i64 i/\nv=.int .i64 nx/\Cp.FI f P c.ah c.ae n i L ms nx/\ms.length<=i/\dw wr rb (ec mb c.header (.slice (some ⟨T,0,none⟩) n n) mv)/\wr.ownsRow w.heap.size 3 1 mv ms.length (oN ms)/\Tz.At wr T L/\aV (Tw rb T A) w wr/\Row wr A (an 0 [])) (λ_ _ _ iv _=>n-(intOf iv).toNat);exact⟨0,0,L0,[],_,by omega,rfl,rfl,HF.o,by simp,HR.o,World.ownsRow_nil _ _ _ _,HTz.o,aV.refl _ _,HA.o⟩;obtain⟨i,nx,L,ms,mv,hi,rfl,rfl,hF,Xb,hR,hmo,hTz,hK,hA⟩:=hrel;have F1:=η hF;have R1:=η hR;have M1:=η hmo;have Z1:=η hTz;have K1:=η hK;have A1:=η hA;have j0:=hK.size;have hLl:=hF.len;have Ie:=η hLl;clear hF hR hmo hTz hK hA;by_cases aM:i<n
 ·have p1:(i:Int)< (n:Int):=by omega
  have ur:=R1.o.cell 2;rw[show(ec mb c.header (.slice (some ⟨T,0,none⟩) n n) mv)[2]? =some (.slice (some ⟨T,0,none⟩) n n)from rfl]at ur;have yo:=Z1.o.bytes i (by omega);rw[Nat.mul_comm]at yo;have HY:=η yo;clear hLl;by_cases hz:L.getD i []=[]
  ·have Pu:=F1.o.next KW.o HN.o.symm aM hz;have p2:(nx:Int)< (c.ae.length:Int):=by omega
   obtain⟨g,Ct,JK,yP,hg,nj⟩:=fK HS.o (by omega:0<c.ae.length);cases JK;have hgT:=HST.o g rfl;have dL:wr.cell? ⟨g,nx,none⟩=some (.string (str (c.ae.getD nx []))):=by rw[<-wtq c.ae nx Pu,<-nj nx (by omega)];exact World.cell?_of_block (w:=w) (K1.o.block g hg (by unfold Tw;omega))
   have hD2:=(K1.o.row HD.o (by unfold Tw;omega)).cell 2;rw[show(cc c.header c.aI (.slice (some ⟨g,0,none⟩) c.ae.length sc) av tv)[2]? =some (.slice (some ⟨g,0,none⟩) c.ae.length sc)from rfl]at hD2;obtain⟨es,clock,KK,EM⟩:=HM.o.slot (c.ae.getD nx []);have auS:M<w.heap.size:=(Array.getElem?_eq_some_iff.1 EM.at_).1;have hlk:=Ph.AY (w:=wr) ((K1.o.block M auS (by unfold Tw;omega)).trans EM.at_) EM.key (c.ae.getD nx []);have hlo:=K1.o.own EM.own (λk hk=>by have:=(EM.own.lt k hk).1;unfold Tw;omega);have hho:=Cp.Gs (f:=f) HG.o (c.ae.getD nx []);have HMI:=η (λh=>F1.o.asE KW.o HN.o.symm aM hz h);have HHI:=η (λt h=>F1.o.hit (t:=t) KW.o HN.o.symm aM hz h);obtain⟨s,uk⟩:∃s,c.ae.getD nx []=s:=⟨_,rfl⟩;rw[uk]at dL hlk hlo hho HMI HHI;obtain⟨la,lc,hvl⟩:=aO hlo;rw[hvl]at hlk hlo;rw[hz]at yo;have HO:=η hlo;have HH:=η hho;have Dx:([]:List UInt8).isEmpty=true:=rfl;have q1:IntKind.i64.wrap ((nx:Int)+1)=((nx+1:Nat):Int):=IntWalk.i64_in _ (by omega);clear EM uk hlo hho hz nj hvl;obtain⟨gl,Lc⟩:∃gl,(gN f bC s).length=gl:=⟨_,rfl⟩;rw[Lc]at hlk HO HH;have HGL:=η Lc;clear Lc;by_cases h1:gl=1
   ·subst h1;obtain⟨t,ht⟩:=List.length_eq_one_iff.1 HGL.o;have HF2:=η (HHI.o t (HH.o.2 t ht));have HF3:=η (HH.o.2 t ht);rw[ht]at HO;clear HHI HMI HH HGL ht;obtain⟨g2,c2',hv2,aBQ,T8,Y5⟩:=lY (ts:=[t]) HO.o (by simp);cases hv2;have mJ:wr.rangeAt g2 0 (ai t):=Y5 0 (by simp);clear HO Y5;go_upto_region 24 with fail;have rn:∀u:ax.Of (λu=>Row u rb (ec mb c.header (.slice (some ⟨T,0,none⟩) n n) mv)/\u.rangeAt g2 0 (ai t)),u.w.cell? ⟨rb,2,none⟩=some (.slice (some ⟨T,0,none⟩) n n):=λu=>u.h.1.cell 2;haveI cE:Nonempty (ax.Of (λu=>Row u rb (ec mb c.header (.slice (some ⟨T,0,none⟩) n n) mv)/\u.rangeAt g2 0 (ai t))):=⟨⟨wr,R1.o.row,mJ⟩⟩;refine ax.bM [0,1,2,3,4,5,6,7,8] 1 mixed (by kernel_rfl) rfl rfl (λc a d v w h=>by cases d<;>exact h) (by as_aux_lemma=>kernel_rfl) rfl (λu=>Row u rb (ec mb c.header (.slice (some ⟨T,0,none⟩) n n) mv)/\u.rangeAt g2 0 (ai t)) ⟨R1.o.row.drew,mJ⟩ ?_;show wpQuiet _ _ _ _ [_,_,_,_,_,_,_,_,_] _;go_big_quiet_step (fail);go_big_quiet_step (fail);go_big_quiet_step (fail);go_big_quiet_step (fail);go_big_quiet_step (fail);go_big_quiet_step (fail);go_big_quiet_step (fail);refine sd (o:=⟨some 126,_,_,_,_,_⟩) rfl _ rfl g2 0 t rfl (λw hw=>by obtain⟨u,rfl⟩:=hw;exact u.h.2) ?_;go_frame;go_big_quiet_step (fail);refine wpQuiet_nil ?_;clear rn;have hTn:t≠ []:=(HP.o t (Cp.JR (HF3.o))).1;have Z2:=η (show Tz.At wr.drew T L from Z1.o);have R2:=η R1.o.drew;have M2:=η (show wr.drew.ownsRow w.heap.size 3 1 mv ms.length (oN ms)from M1.o);have K2:=η K1.o.drew;have A2:=η A1.o.drew;have EO:wr.drew.rangeAt g2 0 (ai t):=mJ;have Sg:=Z2.o.there i (by rw[Ie.o];exact aM);have hlT:=Z2.o.lt;clear Z1 R1 M1 K1 A1 mJ;generalize wr.drew=w2 at Z2 R2 M2 K2 A2 EO Sg hlT|-;have Z3:=η (show Tz.At (w2.setCells T (i*33) (ai t)) T (L.set i t)by have:=Z2.o.put i t (by rw[Ie.o];exact aM);rwa[Tz.Fl hTn,Nat.mul_comm]at this);have n8:=Tz.zy w2 T (i*33) (ai t) w2.heap.size;have R3:=η (R2.o.same (n8.block rb R2.o.lt (by omega)));have M3:=η (gh M2.o n8 (by omega));have A3:=η (n8.row A2.o A2.o.lt (by omega));have K3:=η (K2.o.trans (aV.iV n8 (.inr (.inl rfl))));have Hv:=rangeAt_of_block EO (n8.block g2 (by have:=World.block_lt_of_cell? w2 _ (EO 0 _ (show(ai t)[0]? =some (.string (str t))from rfl));exact this) (by omega));refine ax.one 9 _ (by kernel_rfl) rfl rfl ?_;refine wpList_store_mid rfl _ _ _ rfl T (i*33) (ai t).toArray rfl rfl (by rw[List.size_toArray,aE,Nat.mul_comm];exact Sg) (cW.trans (by rw[List.size_toArray,aE])) (by rw[List.all_toArray];exact aY t) ?_;refine⟨ax.aq ⟨R3.o.row,Hv⟩,?_⟩;refine wpAnyH_done (by kernel_rfl) ?_ 0;try go_frame
    go_wp2_with fail;go_roundw
    ·exact⟨i+1,nx+1,L.set i t,ms,mv,by omega,by go_num,by go_num,HF2.o,by omega,R3.o,M3.o,Z3.o,K3.o,A3.o⟩
    simp[intOf];omega
   have p3:¬(gl:Int)=1:=by omega
   have HF2:=η (HMI.o (by rw[<-HH.o.1];exact h1));clear HHI HMI HH HGL HO;have JY:=R1.o.cell 3;obtain⟨ma,mc,rfl⟩:=aO M1.o;rw[show(ec mb c.header (.slice (some ⟨T,0,none⟩) n n) (.slice ma ms.length mc))[3]? =some (.slice ma ms.length mc)from rfl]at JY;have hTw:T<w.heap.size:=by omega
   have hAw:A<w.heap.size:=by omega
   have hmx:ms.length<1000:=by omega
   go_wp2_with (at_builtin;refine wpList_append_own _ rfl _ _ 39 rfl w.heap.size 3 i1 (.int .i64 0) 1 8 underlying39 HI.o hq0 Du Hx rfl (by decide) _ _ _ rfl (M1.o.alloc _) ⟨wr.heap.size,0,none⟩ 1 1 [.int .i64 (i:Int)] rfl rfl (cell_one_new _ _ _) (λu hu=>by simp at hu;subst hu;rfl) (by unfold maxLen;omega) (by omega) (by rw[World.size_alloc];omega) ?_;intro TI w3 cB df _;have hbl:Below w.heap.size wr w3:=((Below.refl w.heap.size wr).alloc j0 _).grown df (by rw[World.size_alloc];omega) (λk hk=>(M1.o.lt k hk).1);obtain⟨pa,pc,rfl⟩:=aO cB;have R3:=R1.o.below hbl (by omega);have lL:=R3.free 3;have aBZ:=R3.cell 3;have N3:=η cB;have G3:=η hbl;have R3':=η R3;clear cB df hbl R3)
   go_roundw
   ·exact⟨i+1,nx+1,L,ms++[i],_,by omega,by go_num,by go_num,HF2.o,by rw[List.length_append];simp;omega,R3'.o.set 3 _,by rw[List.length_append,<-oS];exact bt (a:=⟨rb,3,none⟩) N3.o _ (by show rb<_;omega),(Z1.o.below G3.o hTw).of_block (Below.heap_setCell _ _ _ _ (by show T≠rb;omega)),((K1.o.qo G3.o).set ⟨rb,3,none⟩ _ (.inl rfl)),(A1.o.below G3.o hAw).other (a:=⟨rb,3,none⟩) (show rb≠A by omega) _⟩
   simp[intOf];omega
  have HF2:=η (F1.o.skip KW.o aM hz);obtain⟨x,Ws⟩:∃x,L.getD i []=x:=⟨_,rfl⟩;rw[Ws]at yo hz;have cE:x.isEmpty=false:=by cases x with
   |nil=>exact absurd rfl hz
   |cons a l=>rfl
  clear HY Ws hz;go_wp2_with fail;go_roundw
  ·exact⟨i+1,nx,L,ms,mv,by omega,by go_num,rfl,HF2.o,by omega,R1.o,M1.o,Z1.o,K1.o,A1.o⟩
  simp[intOf];omega
 obtain rfl:i=n:=by omega
 have ac4:=F1.o.done;have Xk:=Cp.yU (f:=f) KW.o HP.o i 0 c.ae;rw[ac4]at Xk ES;obtain⟨o1,o2,o3⟩:=Xk;rw[Nat.zero_add]at o3;have OK1:=η o1;have OK2:=η o2;have OK3:=η o3;have TW:=η (K1.o.sj HT.o (by unfold Tw;omega) (by unfold Tw;omega));obtain⟨ma,mc,rfl⟩:=aO M1.o;have JY:=R1.o.cell 3;rw[show(ec mb c.header (.slice (some ⟨T,0,none⟩) i i) (.slice ma ms.length mc))[3]? =some (.slice ma ms.length mc)from rfl]at JY;have XB:=A1.o.lt;have hTl:=Z1.o.lt;have hRl:=R1.o.lt;clear ac4 o1 o2 o3 hLl HF HTz HR HA HM;by_cases hm:ms=[]
 ·subst hm;have hLn:∀t∈L,t≠ []:=λt ht e=>by obtain⟨j,hj,he⟩:=List.mem_iff_getElem.1 ht;have:=OK2.o j (by rw[<-Ie.o];exact hj) (by rw[List.getD_eq_getElem?_getD,List.getElem?_eq_getElem hj];simpa[e]using he);cases this
  have hto:wr.ownsRow T 69 33 (.slice (some ⟨T,0,none⟩) i i) L.length (aK L):=by have:=Z1.o.own (C:=T) ν (by rw[Ie.o];omega);rw[Tz.Lj L hLn]at this;rwa[Ie.o]at this|-
  have T1:=η (uB rb mb c.header (.slice (some ⟨T,0,none⟩) i i) (.slice ma 0 mc) L T wr TW.o lQ R1.o hto OK1.o (by rw[Ie.o];exact hn0) (by rw[Ie.o];exact W9) dR.head (by omega));have NR:=η (show KQ=(Cp.finish c.header L,Cp.idle)by rw[ES.o,if_pos rfl]);clear hto ES OK1 OK2 OK3 M1 hLn;obtain⟨fa,hfa⟩:∃p,Cp.finish c.header L=p:=⟨_,rfl⟩;rw[hfa]at T1 NR;obtain⟨k1,bs⟩:=fa;go_wp2_with fail;refine T1.o.mono ?_;clear T1 JY;rintro e w4⟨rfl,Hv,mE⟩;have wZ:=mE.row A1.o XB (by omega);have R4:=η Hv;have K4:=η (K1.o.trans (aV.iV mE (.inl rfl)));clear Hv mE;go_wp2_with (with_reducible refine au (o:=⟨none,_,_,_,_,_⟩) rfl _ _ _ rfl A (an 0 []) (an k1 bs) rfl rfl wZ (aX.trans rfl) rfl rfl ?_);have S9:=wZ.setRow (an k1 bs);refine bodyPost_ret (v:=.tuple #[.agg (an k1 bs).toArray,.int .i64 0]) (cn rfl _ _ A (an k1 bs) (.int .i64 0) rfl rfl S9 _ underlying48 (aX.trans rfl)) rfl ?_;rw[NR.o];exact⟨rfl,.inl ⟨rfl,R4.o.aG (by omega) _⟩,K4.o.setRow A _ (.inr (.inr rfl))⟩
 have aBt:ms.length≠0:=λe=>hm (List.eq_nil_of_length_eq_zero e);have p4:¬(ms.length:Int)=0:=by omega
 have NR:=η (show KQ=((1,Cp.request c.header ms),⟨c.header,L,ms⟩)by rw[ES.o,if_neg hm]);have WT:=η (show Cp.DN ⟨c.header,L,ms⟩from⟨hm,dR.head,by show 0<L.length;rw[Ie.o];exact hn0,by show L.length<=16;rw[Ie.o];exact W9,OK1.o,λj hj he=>by have:=OK2.o j (by rw[<-Ie.o];exact hj) he;rwa[Nat.zero_add]at this,by show En.qh L.length 0 _;rw[Ie.o];exact OK3.o⟩);clear ES OK1 OK2;go_upto_region 29 with fail;have yl:∀u:ax.Of (λu=>Row u rb (ec mb c.header (.slice (some ⟨T,0,none⟩) i i) (.slice ma ms.length mc))),u.w.cell? ⟨rb,1,none⟩=some (.string (str c.header)):=λu=>u.h.cell 1;have hu3:∀u:ax.Of (λu=>Row u rb (ec mb c.header (.slice (some ⟨T,0,none⟩) i i) (.slice ma ms.length mc))),u.w.cell? ⟨rb,3,none⟩=some (.slice ma ms.length mc):=λu=>u.h.cell 3;haveI cE:Nonempty (ax.Of (λu=>Row u rb (ec mb c.header (.slice (some ⟨T,0,none⟩) i i) (.slice ma ms.length mc)))):=⟨⟨wr,R1.o.row⟩⟩;refine ax.bM [0,1,2,3,5,6,7,8] 6 mixed (by kernel_rfl) rfl rfl (λc a d v w h=>by cases d<;>exact h) (by as_aux_lemma=>kernel_rfl) rfl (λu=>Row u rb (ec mb c.header (.slice (some ⟨T,0,none⟩) i i) (.slice ma ms.length mc))) R1.o.row.drew ?_;show wpQuiet _ _ _ _ [_,_,_,_,_,_,_,_] _;repeat(go_big_quiet_step (fail))
 refine wpQuiet_nil ?_;clear yl hu3 JY;have Z2:=η (show Tz.At wr.drew T L from Z1.o);have R2:=η R1.o.drew;have M2:=η (show wr.drew.ownsRow w.heap.size 3 1 (.slice ma ms.length mc) ms.length (oN ms)from M1.o);have K2:=η K1.o.drew;have A2:=η A1.o.drew;have T2:=η (sG c.header wr.drew TW.o (by have:=dR.head;omega));have gK:w.heap.size<=wr.drew.heap.size:=j0;have ant:A<wr.drew.heap.size:=XB;have amT:T<wr.drew.heap.size:=hTl;have amX:rb<wr.drew.heap.size:=hRl;clear Z1 R1 M1 K1 A1 j0 XB hTl hRl TW;generalize wr.drew=w2 at Z2 R2 M2 K2 A2 T2 gK ant amT amX|-;refine ax.one 4 _ (by kernel_rfl) rfl rfl ?_;try go_frame
 go_wp2_with fail;refine T2.o.mono ?_;clear T2;rintro e w3⟨rfl,gG⟩;have Z3:=η (Z2.o.below gG amT);have R3:=η (R2.o.below gG amX);have M3:=η (aB M2.o gG ν);have K3:=η (K2.o.qo (gG.mono gK));have A3:=η (A2.o.below gG ant);have lL:=gG.size;have Sg:=eM c.header;have T3:=η (zP (Mk.ak c.header) (.slice ma ms.length mc) (Cp.ints ms) i w3 (AF M3.o) OK3.o (by omega) (by rw[Cp.gP];omega) (by omega))
 have RQ:=η (show Cp.request c.header ms=Mk.ak c.header++Wr.dD (Cp.ints ms).length++(En.dz 0 (Cp.ints ms)).flatten by rw[Cp.gP];rfl);clear gG Z2 R2 M2 K2 A2 OK3;rw[<-RQ.o]at T3;generalize Cp.request c.header ms=rq at NR T3;generalize Mk.ak c.header=nm at T3 Sg|-;clear RQ;go_wp2_with fail;refine⟨ax.aq R3.o.row,?_⟩;refine ax.one 9 _ (by kernel_rfl) rfl rfl ?_;try go_frame
 go_wp2_with fail;refine⟨ax.aq R3.o.row,?_⟩;refine ax.one 10 _ (by kernel_rfl) rfl rfl ?_
 try go_frame
 go_wp2_with fail;refine T3.o.mono ?_;clear T3;rintro e w4⟨rfl,mE⟩;have aiR:A<w3.heap.size:=by omega
 have Z4:=η (Z3.o.below mE (by omega));have R4:=η (R3.o.below mE (by omega));have M4:=η (aB M3.o mE ν);have K4:=η (K3.o.qo (mE.mono (by omega)));have wZ:=A3.o.below mE aiR;clear mE Z3 R3 M3 K3 A3;go_wp2_with fail;refine⟨ax.aq R4.o.row,?_⟩;refine ax.one 11 _ (by kernel_rfl) rfl rfl ?_;refine wB rfl _ _ rfl 1 rq rfl rfl ?_;refine⟨ax.aq R4.o.row,?_⟩;refine ax.one 12 _ (by kernel_rfl) rfl rfl ?_;refine au rfl _ _ _ rfl A (an 0 []) (an 1 rq) rfl rfl wZ (aX.trans rfl) rfl rfl ?_;have S9:=wZ.setRow (an 1 rq);have R5:=η (R4.o.aG (g:=A) (by omega) (an 1 rq).toArray);have Z5:=η (Z4.o.of_block (setRow_other w4 A T (an 1 rq).toArray (by omega)));have M5:=η (dh (S:=A) M4.o (an 1 rq).toArray (by omega));have K5:=η (K4.o.setRow A (an 1 rq).toArray (.inr (.inr rfl)));clear wZ Z4 R4 M4 K4;generalize World.setRow _ _ _=w5 at S9 R5 Z5 M5 K5|-;refine⟨ax.aq R5.o.row,?_⟩;refine ax.one 13 _ (by kernel_rfl) rfl rfl ?_;try go_frame
 go_wp2_with fail;refine⟨ax.aq R5.o.row,?_⟩;refine wpAnyH_done (by kernel_rfl) ?_ 0
 try go_frame
 go_wp2_with fail;refine bodyPost_ret (v:=.tuple #[.agg (an 1 rq).toArray,.int .i64 0]) (cn rfl _ _ A (an 1 rq) (.int .i64 0) rfl rfl S9 _ underlying48 (aX.trans rfl)) rfl ?_;rw[NR.o];refine⟨rfl,.inr ⟨WT.o,T,_,?_,Z5.o,by omega,eP M5.o (by omega)⟩,K5.o⟩
 have:=R5.o;rwa[<-Ie.o]at this
end
namespace Tp
open Go.Conc
def Gj(s t:Nat)(l:List Nat):Bool:=lastB t l&&lastB s l.dropLast&&s != t
def RN{s t l}(h:Gj s t l=true):∃l1,l=l1++[s,t]/\s∉l1/\t∉l1++[s]:=by unfold Gj at h;simp only[Bool.and_eq_true,bne_iff_ne,ne_eq]at h;obtain⟨⟨h1,h2⟩,h3⟩:=h;obtain⟨l1,rfl,hn1⟩:=AZ h1;rw[List.dropLast_concat]at h2;obtain⟨l2,rfl,hn2⟩:=AZ h2;exact⟨l2,by rw[List.append_assoc];rfl,hn2,hn1⟩
section
variable{P:Program}{ops:Array Oper}{Q:Exit->Act->World->Prop}
def IW{S id s t o o'}(hm:P.follows .mixedOrders=true)(hl:om ops (Gj s t) ops.size (Array.replicate ops.size false) []=true)(hg:iW ops=true)(Hz:iW (jl ops s)=true)(ho:ops[s]? =some o)(ho':(jl ops s)[t]? =some o')(hQ:∀e a w,Q e a w->e=.normal){a w} (h:wpAnyH P .any (jl (jl ops s) t) Q S (jl (jl ops s) t).size (Array.replicate (jl (jl ops s) t).size false) a {w with drawn:=w.drawn+1}) (b:Frame) k cs:∃a' w',Q .normal a' w'/\Steps P (lone (b.at a (.code (.region id ops true)::k)) cs w) (lone (b.at a' (.inRegion ops [s,t]::k)) cs w'):=by have h1:=zf hm h (w.tape w.drawn (.order b.fn id));rw[sn hm (wv t) (sQ t),sn hm (wv s) (sQ s)]at h1;obtain⟨l,hls,hs,ht⟩:=RN (Ef hm hl (w.tape w.drawn (.order b.fn id)));have aT:=step_region_draw (P:=P) (b:=b) (a:=a) (k:=k) (cs:=cs) (w:=w) (ops:=ops) (id:=id);rw[hls]at h1 aT;rw[show l++[s,t]=(l++[s])++[t]by rw[List.append_assoc];rfl]at h1;have h2:=nF (pC hg) ho hQ l a _ hs (nF (pC Hz) ho' hQ (l++[s]) a _ ht h1);obtain⟨a',w',hq,h3⟩:=m8 hQ l a _ h2 [s,t] b k cs;exact⟨a',w',hq,.head aT h3⟩
end
end Tp
namespace Ph
open Go.Conc
open Tp (bS bD bc cT)
section
variable{P:Program}{Stop:Goroutine->World->Prop}{b:Frame}{a:Act}{k:List Item}{cs:List Frame}{w w':World}
def E8{c S id s t o o' ops fo}(e:c=.region id ops true)(hm:P.follows .mixedOrders=true)(hl:Tp.om ops (Tp.Gj s t) ops.size (Array.replicate ops.size false) []=true)(hg:Tp.iW ops=true)(Hz:Tp.iW (Tp.jl ops s)=true)(ho:ops[s]? =some o)(ho':(Tp.jl ops s)[t]? =some o')(hf:Tp.jl (Tp.jl ops s) t=fo) (h:wpAnyH P .any fo (Tp.px λa' w'=>bS P Stop (b.at a' (.inRegion ops [s,t]::k)) cs w') S fo.size (Array.replicate fo.size false) a {w with drawn:=w.drawn+1}):bS P Stop (b.at a (.code c::k)) cs w:=by subst e;subst hf;obtain⟨a',w',q,hs⟩:=Tp.IW (id:=id) hm hl hg Hz ho ho' Tp.pw h b k cs;exact cT hs q
def je{f fn c cl}{R:Value->World->Prop}(hf:P.funcs[f]? =some fn)(hb:b.fn=f)(hk:b.kind=.normal)(h:c.wp P (bodyPost P fn λ|.returned v,w=>R v w|_,_=>False) a w) (K:∀v w',R v w'->bS P Stop (cl.finish v) cs w'):bS P Stop (b.at a [.code c]) (cl::cs) w:=by
 obtain⟨e,a',w',q,r⟩:=h b [] (cl::cs);subst hb;have aaZ:∀(fr:Frame),fr.fn=b.fn->fr.kind=.normal->fr.mode=.returning->fr.defers=[]->∀v,(results fn fr.tmps).run P w'=.ok v w'->R v w'->bS P Stop fr (cl::cs) w':=λfr h1 h2 h3 h4 v hv hR=>bD (step_leave_returned ⟨h3,h4,h2,fn,by rw[h1];exact hf,hv⟩) (K v w' hR);cases e with
 |normal=>obtain⟨hd,v,hv,hR⟩:=q;exact cT r (bD step_end (aaZ _ rfl hk rfl hd v hv hR))
 |ret=>obtain⟨hd,v,hv,hR⟩:=q;obtain⟨todo,hr⟩:=r;exact cT hr (aaZ _ rfl hk rfl hd v hv hR)
 |exit id=>exact q.elim|goto l=>exact q.elim
 |panic ch=>exact q.2.elim|outgrown=>exact q.elim
end
end Ph
