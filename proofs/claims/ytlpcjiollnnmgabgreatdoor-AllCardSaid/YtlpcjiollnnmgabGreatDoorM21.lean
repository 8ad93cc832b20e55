import Derived.Test.YtlpcjiollnnmgabGreatDoorM19
import Derived.Test.YtlpcjiollnnmgabGreatDoorM20
set_option maxRecDepth 100000
set_option maxHeartbeats 8000000
set_option linter.all false
namespace Go.Proofs.YtlpcjiollnnmgabGreatDoor
open Go.Proofs.Tryz
section
open iz Go.Conc
open Go.RowKit
open Lw
open Ph (cb cl cr ci co gH ib ix jz nt jf m3 An kH)
open Tp (iT iy jk iw iQ kQ iH iW)
def ct:Code->Code
 |.cond _ x _=>x|c=>c
def ce:Code->Code
 |.cond _ _ y=>y|c=>c
def aef{P Stop}{b Wg:Frame}{cs k a w c f fn v}(e:c=.ret)(hf:P.funcs[f]? =some fn)(hb:b.fn=f)(hk:b.kind=.normal)(hd:a.defers=[])(hv:(results fn a.tmps).run P w=.ok v w) (K:jk P Stop (Wg.finish v) cs w):jk P Stop (b.at a (.code c::k)) (Wg::cs) w:=by subst e;subst hb;exact iQ step_ret (iQ (step_leave_returned ⟨rfl,hd,hk,fn,hf,hv⟩) K)
noncomputable def E1:Code:=ci (cr (cl ST))
noncomputable def E2:Code:=ce (cr E1)
noncomputable def E3:Code:=ce (cr E2)
noncomputable def E4:Code:=ce (cr E3)
noncomputable def X22:Code:=ct (cr E4)
def hT0:ST=.seq (cl ST) (cr ST):=rfl
def hT1:cl ST=.seq (cl (cl ST)) (cr (cl ST)):=rfl
def GH:cr (cl ST)=.block 0 E1:=rfl
def hE1:E1=.seq (cl E1) (cr E1):=rfl
def awL:cr E1=.cond (.tmp 65) (ct (cr E1)) E2:=rfl
def hE2:E2=.seq (cl E2) (cr E2):=rfl
def awK:cr E2=.cond (.tmp 80) (ct (cr E2)) E3:=rfl
def hE3:E3=.seq (cl E3) (cr E3):=rfl
def awJ:cr E3=.cond (.tmp 95) (ct (cr E3)) E4:=rfl
def hE4:E4=.seq (cl E4) (cr E4):=rfl
def awI:cr E4=.cond (.tmp 111) X22 (ce (cr E4)):=rfl
def hX0:X22=.seq (cl X22) (cr X22):=rfl
def hX1:cr X22=.seq (cl (cr X22)) (cr (cr X22)):=rfl
def hX2:cr (cr X22)=.seq (cl (cr (cr X22))) .ret:=rfl
def Kr w1 w t Wb τ ps ls mh lP(h:lx w1 w t Wb τ ps ls mh lP)(hT:km w1)(xT:TB w1 t) a s(hn:ps.length<=2097152)(xy:0<ps.length) (ha: -9223372036854775808<=a/\a<9223372036854775808) (hs:s.length<=9223372036854775807):kQ prog 28 #[.pointer (some ⟨Wb,0,none⟩),.agg #[.int .i64 5,.int .i64 a,.string (str s)]] w (wh w1 t Wb ps ls):=λWg cs Stop KF=>by
 refine iH iy (iW λHx n0=>?_);have h0:=h.re Hx n0;clear h;generalize w.re Hx n0=w0 at h0|-;refine AP w1 w0 t Wb τ ps ls mh lP h0 5 a s ω hn xy ha ?_;intro i p K wz x1 x2 x4 x5 x7 x8 x9 nz mR nd od mP m9 m4 n7 rm tI rU qw pN qa xD ym yl yj yh yg yf ye xZ xe xd x35 x36 x37 x38 x39 x40 x41 x42 x43 x44 x45 x46 x47 x48 x49 x50 x51 x52 x53 x54 x55 x56 x57 x58 x59 x60 x61 x62 x63 x64 x65 x66 x67 x68 x69 x70 x71 x72 x73 x74 x75 x76 x77 x78 x79 x80 x81 x82 x83 x84 x85 x86 x87 x88 x89 x90 x91 x92 x93 x94 x95 x96 x97 x98 x99 XG XF XE XD XC XB XA Xz Xy Xx Xv Xu Xt Xs Xr Xq Xp Xo Xn Xm Xl Xk Xj Xi Xh Xg Xe Xd Xc Xb Xa W9 W8 W6 WZ WY WV WU WQ WO WN WM WL WK WJ WI WH WG WE WD WC WB Wz Wy Wx Ww Wv Wu Wt afI afH afG afF hp hK hb pz oz uz;have HPI:=η hp;have PZ:=η pz;have OZ:=η oz;have UZ:=η uz;have oL:=uz.iG i p hp;have HP:=η oL;have ID:=pz.lt;have hzo:=oz.lt;have Zn:=h0.iG i p hp;have Qh:=Zn.st.lt;have uZ:=Zn.ref.lt;rw[<-hK]at Qh uZ;obtain⟨aBh,aBg,aub⟩:=uz.F8 hp;obtain⟨nrm,nrq,nmq,nbk⟩:=oL.ne;have yM:=hT.lt;obtain⟨hh,tvv,mvv,jb⟩:=oL.st.row;obtain⟨rp,SZ⟩:∃rp,Cp.compact p.P s=rp:=⟨_,rfl⟩;have CB0:=Hd s p.P p.r p.m (.string (str hh)) tvv mvv wz (hT.rT uz.rT yM) hs ω jb oL.map (aG nrm) (λx hx=>⟨oL.full x hx,oL.map.short x hx⟩);simp only[SZ]at CB0;obtain⟨⟨k1,bs⟩,er,s'⟩:=rp;dsimp only at CB0;have CB:=η CB0;have HRE:=η SZ;have aeA:=η xT;have KK:=η KF;have z0:wz.cell? ⟨K,0,none⟩=some (.int .i64 5):=oz.cell 0;have z2:wz.cell? ⟨K,2,none⟩=some (.string (str s)):=oz.cell 2;have z1:wz.cell? ⟨K+1,0,none⟩=some (.pointer (some ⟨p.r,0,none⟩)):=pz.cell 0;clear hT xT hp pz oz uz hb h0 hK Zn oL jb KF CB0 SZ;refine gH hT0 (gH hT1 (ib (c':=.region _ _ _) rfl ?_));go_wp2_with fail;show jk _ _ _ _ _;refine jf GH (gH hE1 (ib (c':=.region _ _ _) rfl ?_));go_wp2_with fail;show jk _ _ _ _ _;refine ix (t:=false) awL rfl (gH hE2 (ib (c':=.region _ _ _) rfl ?_));go_wp2_with fail;show jk _ _ _ _ _;refine ix (t:=false) awK rfl (gH hE3 (ib (c':=.region _ _ _) rfl ?_));go_wp2_with fail;show jk _ _ _ _ _;refine ix (t:=false) awJ rfl (gH hE4 (ib (c':=.region _ _ _) rfl ?_));go_wp2_with fail;show jk _ _ _ _ _;refine ix (t:=true) awI rfl (gH hX0 (m3 4 [4,5,6,7,8,9,10] rfl rfl aFK ?_));show wpList _ _ _ [_,_,_,_] _ _;go_wp2_with fail;show jk _ _ _ _ _;clear z0 z1 z2;refine iw (Cg iy (i:=4) rfl rfl ?_ CB.o λv wa' IF=>?_);intro τ' n';kernel_rfl;obtain⟨rfl,apm,VU⟩:=IF;refine iH iy (iW λτ' n'=>?_);have FA:Fb wz.heap.size (λk=>k=p.r) wz (wa'.re τ' n'):=⟨VU.os,VU.output,VU.size,λk hk iZ=>VU.block k hk iZ⟩;have ig:Ck (wa'.re τ' n') p.r p.m wz.heap.size s':=apm;generalize wa'.re τ' n'=wa at FA ig|-;clear apm VU CB;obtain⟨tv,mv,rq,_,_,_,_⟩:=HP.o.ref;have hzA:=FA.size;have HFA:=η FA;have HST:=η ig;have TR:=λw5 hTs hC hR hO=>Fp s p.P t p.q (p.q+1) p.pv (.string (str p.s.header)) tv mv w5 hTs hC (bC _) hs hR hO (λx hx=>⟨HP.o.full x hx,HP.o.map.short x hx⟩) HP.o.map.le;unfold Cl at TR;simp only[HRE.o]at TR;have TRH:=η TR;have RQ:=η rq;have d1:=Row.new wa (an 0 []) 49;have b1:=below_setRow ((Below.refl wa.heap.size wa).alloc ν (.cells (an 0 []).toArray 49)) ν (an k1 bs).toArray;have X1:=η (d1.setRow (an k1 bs));have B1:=η b1;rw[show(an 0 []).toArray=#[Value.int .i64 0,.string (str [])]from rfl]at d1 b1 X1 B1;clear ig FA b1 TR rq;show jk _ _ (sf.at ⟨List.toArray (_::_::_::_::_::_::_::_::_::_::_::_::_::_::_::_::_::_::_::_::_::_::_::_::_::_::_::_::_::_::_::_::_::_::_::_::_::_::_::_::_::_::_::_::_::_::_::_::_::_::_::_::_::_::_::_::_::_::_::_::_::_::_::_::_::_::_::_::_::_::_::_::_::_::_::_::_::_::_::_::_::_::_::_::_::_::_::_::_::_::_::_::_::_::_::_::_::_::_::_::_::_::_::_::_::_::_::_::_::_::_::_::_::_::_::_::_::_::_::_::_::_::_::_::_::_::_::_::_::_::_::_::_::_::_::_::_::_::_::_::_::_::_::_::_::_::_::_::_::_::_::_::_::_::_::_::_::_::_::_::_::_::_::[]),[]⟩ _) _ _;refine An (l:=[5,6,7,8,9,10]) (r:=[]) (kH [5,6,7,8,9,10] [_,_,_,_,_,_] rfl _ _ ?_);show wpList _ _ _ [⟨some 113,.move (.tmp 118),_,_,_,none⟩,⟨some 119,.extract (.tmp 113) 0,_,_,_,none⟩,⟨some 120,.extract (.tmp 113) 1,_,_,_,none⟩,⟨some 9,.alloc _,_,_,_,none⟩,⟨none,.store _ (.tmp 9) (.tmp 119),_,_,_,none⟩,⟨some 10,.assign (.tmp 120),_,_,_,none⟩] _ _;go_wp2_with (with_reducible refine gJ (o:=⟨none,_,_,_,_,_⟩) rfl _ _ _ rfl wa.heap.size (an 0 []) (an k1 bs) rfl rfl d1 (gY.trans rfl) rfl rfl ?_);show jk _ _ _ _ _;refine Tp.iS ?_;clear d1;generalize World.setRow _ _ _=w5 at X1 B1|-;obtain⟨Y1,hY1⟩:∃Y1,wa.heap.size=Y1:=⟨_,rfl⟩;rw[hY1]at X1|-;have SQ:=B1.o.size;have FW:Fb wz.heap.size (λk=>k=p.r) wz w5:=HFA.o.trans (Fb.Sb (.of (B1.o.mono hzA)));have P5:=η (FW.row PZ.o ID aIN);have O5:=η (FW.row OZ.o hzo aIN);have Q5:=η (FW.row RQ.o ω (λe=>nrq e.symm));have U1:=η (FW.own HP.o.own (λg hg=>⟨(HP.o.own.lt g hg).2,(nbk g hg).2.2⟩));have hTs:TBs w5 t p.q (p.q+1):=TBs.of aeA.o (ak UZ.o.rT.size FW.size) (λk hk=>(FW.block k (ay hk UZ.o.rT.size) aIN).trans (UZ.o.rT.block k hk)) ω aub;have T3:=η (TRH.o w5 hTs (by have:=FW.size;omega) Q5.o U1.o);have HFW:=η FW;have z1:w5.cell? ⟨K+1,1,none⟩=some (.pointer (some ⟨p.q,0,none⟩)):=P5.o.cell 1;have z2:w5.cell? ⟨K,2,none⟩=some (.string (str s)):=O5.o.cell 2;have hYl:=X1.o.lt;have hYz:wz.heap.size<=Y1:=ω;clear hTs TRH U1 FW;refine gH hX1 (ib (c':=.region _ _ _) rfl ?_);go_wp2_with fail;refine T3.o.mono ?_;clear T3 z1 z2;rintro e wb⟨rfl,tv',mv',hqr,hq1,hq2,hbq⟩;have FB:Fb w5.heap.size (λk=>k=p.q) w5 wb:=⟨hbq.os,hbq.output,hbq.size,hbq.block⟩;have HQR:=η hqr;have HQ1:=η hq1;have HQ2:=η hq2;have hzB:=FB.size;have X2:=η (FB.row X1.o hYl aIN);have d2:=Row.new wb (an 0 []) 49;have b2:=below_setRow ((Below.refl wb.heap.size wb).alloc ν (.cells (an 0 []).toArray 49)) ν (an k1 bs).toArray;have X3:=η (X2.o.below b2 ω);have X4:=η (d2.setRow (an k1 bs));have B2:=η b2;have HFB:=η FB;rw[show(an 0 []).toArray=#[Value.int .i64 0,.string (str [])]from rfl]at d2 b2 X3 X4 B2;clear hqr hq1 hq2 hbq FB b2 X1 X2;go_wp2_with (with_reducible refine gJ (o:=⟨none,_,_,_,_,_⟩) rfl _ _ _ rfl wb.heap.size (an 0 []) (an k1 bs) rfl rfl d2 (gY.trans rfl) rfl rfl ?_);show jk _ _ _ _ _;clear d2;generalize World.setRow _ _ _=w7 at X3 X4 B2|-;obtain⟨Y2,hY2⟩:∃Y2,wb.heap.size=Y2:=⟨_,rfl⟩;rw[hY2]at X4|-;have r1:=X3.o;have r2:=X4.o;refine gH hX2 (ib (c':=.region _ _ _) rfl ?_);go_wp2_with (first|(with_reducible refine l0 (o:=⟨some 129,_,_,_,_,_⟩) rfl _ _ rfl Y1 (an k1 bs) rfl r1 _ underlying49 (gY.trans rfl) _ rfl ?_)|(with_reducible refine l0 (o:=⟨some 130,_,_,_,_,_⟩) rfl _ _ rfl Y2 (an k1 bs) rfl r2 _ underlying49 (gY.trans rfl) _ rfl ?_)|(with_reducible refine ahC (o:=⟨some 131,_,_,_,_,_⟩) rfl _ _ _ rfl k1 bs rfl rfl ?_));show jk _ _ _ _ _;have FW:=HFW.o;have ig:Ck w5 p.r p.m wz.heap.size s':=by have hB:=B1.o;rcases HST.o with⟨e,h⟩|⟨hW,T,mw,h1,h2,h3,h4⟩;exact .inl ⟨e,h.same (hB.block _ h.lt)⟩;exact .inr ⟨hW,T,mw,h1.same (hB.block _ h1.lt),h2.below hB h2.lt,h3,gM h4 hB ν⟩
 obtain⟨τ',p',UU⟩:=UZ.o.ajM HPI.o (s':=s') FW (HFB.o.trans (Fb.Sb (.of (B2.o.mono hzB)))) (λk hs hk=>by subst hs;exact .inl HP.o.tr) (λk hs hk=>by subst hs;exact .inl HP.o.tq) (λk hs hk=>by subst hs;omega) ig (show Row w7 p.q (Rp.pY t p.pv [.string (str s'.header),tv',mv'])from(show Row wb p.q _ from HQR.o).below B2.o ω) (gM HQ1.o B2.o ν) (gM HQ2.o B2.o ν);exact aef rfl alV rfl rfl rfl (fR rfl _ _ _) (iw (KK.o _ _ ⟨by first|rfl|simp,τ',_,ls,_,_,UU,by simp,by omega⟩))
end
section
open iz
open Go.RowKit
open Lw
open Tp (iy kQ nY)
def MQ w1 w t Wb τ ps ls mh lP(h:lx w1 w t Wb τ ps ls mh lP)(hT:km w1)(xT:TB w1 t) kd a s(hn:ps.length<=2097152)(hln:ls.length<=4194304) (ha: -9223372036854775808<=a/\a<9223372036854775808) (hs:s.length<=9223372036854775807):kQ prog 28 #[.pointer (some ⟨Wb,0,none⟩),.agg #[.int .i64 kd,.int .i64 a,.string (str s)]] w (wh w1 t Wb ps ls):=by by_cases h1:kd=1;subst h1;refine nY iy λHx n0=>(aa4 w1 _ t Wb τ ps ls mh lP (h.re Hx n0) a s hn).mono ?_;intro e w' h;cases e<;>exact h;by_cases xy:0<ps.length;by_cases h2:kd=2;subst h2;exact aa5 w1 w t Wb τ ps ls mh lP h hT xT a s hn xy ha hs;by_cases h3:kd=3;subst h3;exact step_drop w1 w t Wb τ ps ls mh lP h hT xT a s hn xy ha hs;by_cases h4:kd=4;subst h4;exact aoh w1 w t Wb τ ps ls mh lP h hT xT a s hn xy hln ha;by_cases h5:kd=5;subst h5;exact Kr w1 w t Wb τ ps ls mh lP h hT xT a s hn xy ha hs;by_cases h6:kd=6;subst h6;exact ajN w1 w t Wb τ ps ls mh lP h hT xT a s hn xy ha hs;exact ajO w1 w t Wb τ ps ls mh lP h hT xT kd h1 h2 h3 h4 h5 h6 a s hn xy ha;obtain rfl:ps=[]:=bF.1 ω;refine nY iy λHx n0=>(XY w1 _ t Wb τ ls mh lP (h.re Hx n0) kd h1 a s).mono ?_;intro e w' h;cases e<;>exact h
end
section
open iz Go.Conc
open Go.RowKit
open Lw
open Ph (cb cl cr ci co gH ib ix jz n5 nt jf nZ m3 An kH)
open Tp (iT iy jk iw iQ kQ mn mL iH iW lU mM)
noncomputable def UM:Code:=cb Tryz.f12
noncomputable def UL:Code:=cr (cr UM)
noncomputable def UB:Code:=ci (ci (cr (cl UL)))
noncomputable def UX:Code:=ci (cl (cr (cr UB)))
noncomputable def UY:Code:=cr (cr (cr UX))
def hM0:UM=.seq (cl UM) (cr UM):=rfl
def hM1:cr UM=.seq (cl (cr UM)) UL:=rfl
def hL0:UL=.seq (cl UL) (cr UL):=rfl
def hL1:cl UL=.seq (cl (cl UL)) (cr (cl UL)):=rfl
def hL2:cr (cl UL)=.block 0 (ci (cr (cl UL))):=rfl
def hL3:ci (cr (cl UL))=.loop UB:=rfl
def Qr:UB=.seq (cl UB) (cr UB):=rfl
def Ie:cr UB=.seq (cl (cr UB)) (cr (cr UB)):=rfl
def aq9:cl (cr UB)=.cond (.tmp 15) .skip (.exit 0):=rfl
def pW:cr (cr UB)=.seq (cl (cr (cr UB))) (cr (cr (cr UB))):=rfl
def aw0:cl (cr (cr UB))=.block 1 UX:=rfl
def hX4:UX=.seq (cl UX) (cr UX):=rfl
def hX5:cr UX=.seq (cl (cr UX)) (cr (cr UX)):=rfl
def av6:cl (cr UX)=.seq (cl (cl (cr UX))) (cr (cl (cr UX))):=rfl
def av7:cr (cl (cr UX))=.cond (.tmp 29) (.exit 1) .skip:=rfl
def hX6:cr (cr UX)=.seq (cl (cr (cr UX))) UY:=rfl
def hY0:UY=.seq (cl UY) (cr UY):=rfl
def av3:cl UY=.seq (cl (cl UY)) (cr (cl UY)):=rfl
def av4:cr (cl UY)=.cond (.tmp 59) (ct (cr (cl UY))) .skip:=rfl
def hY1:cr UY=.seq (cl (cr UY)) (cr (cr UY)):=rfl
def av1:cr (cr UY)=.cond (.tmp 71) (ct (cr (cr UY))) .skip:=rfl
def aw9:prog.funcs[12]? =some Tryz.f12:=func12
noncomputable def uf:Frame:={(default:Frame)with fn:=12,kind:=.normal}
def Uw{p:Prop}(h:p:=by
 go_wp2_with fail;show jk _ _ _ _ _;refine ix (t:=false) av7 rfl (jz rfl ?_);refine gH hX6 (ib (c':=.region _ _ _) rfl ?_);go_wp2_with fail;show jk _ _ _ _ _;refine gH hY0 (gH av3 (m3 2 [2,3,4,5,6,7,8,9,10,11,12] rfl rfl aFK ?_))
 show wpList _ _ _ [_,_] _ _;go_wp2_with fail;show jk _ _ _ _ _;refine iw (Cg iy (i:=2) rfl rfl ?_ SB.o λv wx hv=>?_);intro τ' n';kernel_rfl;obtain⟨rfl,τ',ps',ls',EY,sj,hU',aCb,aCa⟩:=hv;refine iH iy (iW λτ1 n1=>?_);have HV:=η (hU'.re τ1 n1);clear hU' SB d0 d1 d2;generalize wx.re τ1 n1=w3 at HV|-;have TL:=η (Om Wb t w1.heap.size EY sj ls' w3 HV.o.ru HV.o.lso (λk v hv=>(HV.o.lists k v hv).1) ω);show jk _ _ (uf.at ⟨List.toArray (_::_::_::_::_::_::_::_::_::_::_::_::_::_::_::_::_::_::_::_::_::_::_::_::_::_::_::_::_::_::_::_::_::_::_::_::_::_::_::_::_::_::_::_::_::_::_::_::_::_::_::_::_::_::_::_::_::_::_::_::_::_::_::_::_::_::_::_::_::_::_::_::_::_::[]),[]⟩ _) _ _;refine An (l:=[3,4,5,6,7,8,9,10,11,12]) (r:=[]) (kH [3,4,5,6,7,8,9,10,11,12] [_,_,_,_,_,_,_,_,_,_] rfl _ _ ?_);show wpList _ _ _ [⟨some 50,.unOp _ _ (.tmp 49),_,_,_,none⟩,⟨some 51,.move (.tmp 50),_,_,_,none⟩,⟨some 52,.move (.tmp 5),_,_,_,some (4,true)⟩,⟨some 53,.nilCheck (.tmp 52),_,_,_,some (4,true)⟩,⟨some 54,.fieldAddr _ (.tmp 53) 3,_,_,_,some (4,true)⟩,⟨some 55,.load _ (.tmp 54),_,_,_,some (4,true)⟩,⟨some 56,.move (.tmp 55),_,_,_,some (4,true)⟩,⟨some 57,.move (.tmp 8),_,_,_,some (9,false)⟩,⟨some 58,.pick (.tmp 56) _ (.tmp 57),_,_,_,some (4,true)⟩,⟨some 59,.pick (.tmp 51) (.tmp 58) _,_,_,_,none⟩] _ _;go_wp2_with fail;show jk _ _ _ _ _;refine Tp.iS ?_;refine ix (t:=false) av4 rfl (jz rfl ?_);refine gH hY1 (ib (c':=.region _ _ _) rfl ?_);go_wp2_with fail;try
  refine TL.o.mono ?_;clear TL;rintro e wy⟨rfl,rC⟩
  replace HV:=η (HV.o.below rC)
  clear rC;go_wp2_with fail
 show jk _ _ _ _ _;refine ix (t:=false) av1 rfl (jz rfl (lU (ib (c':=.region _ _ _) rfl ?_)));go_wp2_with fail;show jk _ _ _ _ _;refine mM (iw (IH.o (j+1) _ _ _ _ _ _ _ _ _ _ _ _ _ _ _ _ _ _ _ _ _ _ _ _ _ _ _ _ _ _ _ _ _ _ _ _ _ _ _ _ _ _ _ _ _ _ _ _ _ _ _ _ _ _ _ _ _ _ _ _ _ _ _ _ _ _ _ _ _ _ _ _ _ _ _ ω ω (by go_num) HV.o ω ω))):p:=h
def QB c(hc:c=0∨c=5∨c=6) oa oc ol w w1 t Wb(hT:km w1)(xT:TB w1 t)(h1:Ph.Aq w.heap.size w w1)(h:Lw.wj w (.slice oa ol.length oc) ol)(jo:∀o∈ol,o.ok)(hlen:ol.length<=1048576) Wg cs Stop (KF:∀v w',(v=.int .i64 (-1)/\Ph.Aq w.heap.size w w')->mn prog Stop (mL (Wg.finish v) cs) w'):∀n j (z:Int)(τ)(ps)(ls)(mh lP)(wr)(x2 x3 x4 x6 x7 x8 x9 nz mR m9 m4 n7 rm tI rU qw pN qa xD ym yl yj yh yg yf ye xZ xe xd x35 x36 x37 x38 x39 x40 x41 x42 x43 x44 x45 x46 x47 x48 x49 x50 x51 x52 x53 x54 x55 x56 x57 x58 x59 x60 x61 x62 x63 x64 x65 x66 x67 x68 x69 x70 x71 x72 x73),ol.length-j=n->j<=ol.length->z=j->lx w1 wr t Wb τ ps ls mh lP->ps.length<=j->ls.length<=j->mn prog Stop (mL (uf.at ⟨List.toArray (.slice oa ol.length oc::.int .i64 c::x2::x3::x4::.pointer (some ⟨Wb,0,none⟩)::x6::x7::x8::x9::nz::mR::.slice oa ol.length oc::.int .i64 ol.length::.int .i64 z::m9::m4::n7::rm::tI::rU::qw::pN::qa::xD::ym::yl::yj::yh::yg::yf::ye::xZ::xe::xd::x35::x36::x37::x38::x39::x40::x41::x42::x43::x44::x45::x46::x47::x48::x49::x50::x51::x52::x53::x54::x55::x56::x57::x58::x59::x60::x61::x62::x63::x64::x65::x66::x67::x68::x69::x70::x71::x72::x73::[]),[]⟩ [.code UB,.inLoop UB,.inBlock 0,.code (cr UL)]) (Wg::cs)) wr:=by
 have HT1:=η hT;have HTB:=η xT;have HO:=η h;have HK:=η jo;have H1:=η h1;have KK:=η KF;have HC:=η hc;clear hT xT h jo h1 KF hc;intro n;induction n with
 |zero=>intro j z τ ps ls mh lP wr x2 x3 x4 x6 x7 x8 x9 nz mR m9 m4 n7 rm tI rU qw pN qa xD ym yl yj yh yg yf ye xZ xe xd x35 x36 x37 x38 x39 x40 x41 x42 x43 x44 x45 x46 x47 x48 x49 x50 x51 x52 x53 x54 x55 x56 x57 x58 x59 x60 x61 x62 x63 x64 x65 x66 x67 x68 x69 x70 x71 x72 x73 hn hj hz hU Mq Qj;obtain rfl:j=ol.length:=ω;subst hz;refine iH iy (iW λHx n0=>?_);have HB:=η (H1.o.trans ((hU.re Hx n0).rT.mono H1.o.size));clear hU hn hj Mq Qj;generalize wr.re Hx n0=w2 at HB|-;refine gH Qr (ib (c':=.region _ _ _) rfl ?_);go_wp2_with fail;show jk _ _ _ _ _;refine gH Ie (ix (t:=false) aq9 rfl (n5 (k':=[.code (cr UL)]) rfl rfl ?_));refine nt aw9 rfl rfl ?_ (λv w' hv=>iw (KK.o v w' hv));simp only[UL,UM,Ph.cb,Tryz.f12,cV,Ph.cr];go_wp2_with fail;go_ret;exact⟨rfl,HB.o⟩
 |succ n ih=>
 intro j z τ ps ls mh lP wr x2 x3 x4 x6 x7 x8 x9 nz mR m9 m4 n7 rm tI rU qw pN qa xD ym yl yj yh yg yf ye xZ xe xd x35 x36 x37 x38 x39 x40 x41 x42 x43 x44 x45 x46 x47 x48 x49 x50 x51 x52 x53 x54 x55 x56 x57 x58 x59 x60 x61 x62 x63 x64 x65 x66 x67 x68 x69 x70 x71 x72 x73 hn hj hz hU Mq Qj;have IH:=η ih;clear ih;subst hz;have gV:j<ol.length:=ω;have q1:(j:Int)< (ol.length:Int):=ω;refine iH iy (iW λHx n0=>?_);have HU:=η (hU.re Hx n0);have HB:=η (H1.o.trans (HU.o.rT.mono H1.o.size));clear hU;generalize wr.re Hx n0=w2 at HU HB|-;obtain⟨b,o,rfl,hb,xC⟩:=HO.o.at ω;obtain⟨c0,c1,c2⟩:=xC j gV;have jo:=HK.o (ol.getD j default) aFX;have d0:=(fb (w:=w) (HB.o.block b hb)).trans c0;have d1:=(fb (w:=w) (HB.o.block b hb)).trans c1;have d2:=(fb (w:=w) (HB.o.block b hb)).trans c2;have OK:=η jo;unfold Lw.Op.ok at OK;generalize(ol.getD j default).k=y0 at d0 OK;generalize(ol.getD j default).a=y1 at d1 OK;generalize(ol.getD j default).s=y2 at d2 OK;clear xC c0 c1 c2 jo hb;have SB:=η (MQ w1 _ t Wb τ ps ls mh lP (HU.o.below ((Below.refl _ _).alloc ν (.cells #[.int .i64 y0,.int .i64 y1,.string (str y2)] 59))) HT1.o HTB.o y0 y1 y2 ω ω OK.o.2.1 (by have:=OK.o.2.2;omega));refine gH Qr (ib (c':=.region _ _ _) rfl ?_);go_wp2_with fail;show jk _ _ _ _ _;refine gH Ie (ix (t:=true) aq9 rfl (jz rfl ?_));refine gH pW (jf aw0 (gH hX4 (ib (c':=.region _ _ _) rfl ?_)));go_wp2_with fail;show jk _ _ _ _ _;refine gH hX5 (gH av6 (ib (c':=.region _ _ _) rfl ?_));by_cases hkc:y0=c
 ·subst hkc;obtain rfl|rfl|rfl:=HC.o;all_goals
   clear HC;exact Uw
 obtain rfl|rfl|rfl:=HC.o;all_goals
  clear HC;exact Uw
def ahE v u:Frame.enter prog 12 #[v,u] .normal=uf.at ⟨List.toArray (v::u::undef::undef::undef::undef::undef::undef::undef::undef::undef::undef::undef::undef::undef::undef::undef::undef::undef::undef::undef::undef::undef::undef::undef::undef::undef::undef::undef::undef::undef::undef::undef::undef::undef::undef::undef::undef::undef::undef::undef::undef::undef::undef::undef::undef::undef::undef::undef::undef::undef::undef::undef::undef::undef::undef::undef::undef::undef::undef::undef::undef::undef::undef::undef::undef::undef::undef::undef::undef::undef::undef::undef::undef::[]),[]⟩ [.code UM]:=by unfold Frame.enter;rw[func12];kernel_rfl
def Lw.lx.start(w1:World)(t:Nat):lx w1 (w1.alloc (.cells #[.pointer (some ⟨t,0,none⟩),.slice none 0 0,.slice none 0 0,.bool false] 66)) t w1.heap.size (λb=>if b<w1.heap.size then 3 else 0) [] [] (.slice none 0 0) (.slice none 0 0) where
 rT:=.of ((Below.refl _ _).alloc ν _);low:=λb hb=>if_pos hb;ru:=Row.new w1 (wc t (.slice none 0 0) (.slice none 0 0)) _;tW:=if_neg ω;rs:=fc _ _ _ _;trs:=λg hg=>by cases hg
 lso:=fc _ _ _ _;tls:=λg hg=>by cases hg
 iG:=λi p hp=>by simp at hp
 lists:=λk v hv=>by simp at hv
def aim c(hc:c=0∨c=5∨c=6) v ol w(hT:km w)(h:Lw.wj w v ol)(jo:∀o∈ol,o.ok)(hlen:ol.length<=1048576):kQ prog 12 #[v,.int .i64 c] w λv' w'=>v'=.int .i64 (-1)/\Ph.Aq w.heap.size w w':=λWg cs Stop KF=>by obtain⟨oa,oc,rfl⟩:=h.form;rw[ahE];refine iH iy (iW λHx n0=>?_);have HO:=η h;have HK:=η jo;have HT:=η (show km (w.re Hx n0)from hT);have KK:=η KF;clear h jo hT KF;refine gH hM0 (ib (c':=.region _ _ _) rfl ?_);go_wp2_with fail;show jk _ _ _ _ _;refine gH hM1 (ib (c':=.region _ _ _) rfl ?_);go_wp2_with fail;refine(Si _).mono ?_;rintro e w1⟨t,rfl,xT,m0⟩;have HTB:=η xT;have B1:=η (show Ph.Aq w.heap.size w w1 from⟨m0.os,m0.output,m0.size,m0.block⟩);have HT1:=η (HT.o.below m0 HT.o.lt);have U0:=η (Lw.lx.start w1 t);clear m0 xT;go_wp2_with fail;show jk _ _ _ _ _;refine gH hL0 (gH hL1 (ib (c':=.region _ _ _) rfl ?_));go_wp2_with fail;show jk _ _ _ _ _;refine jf hL2 (nZ hL3 ?_);exact iw (QB c hc oa oc ol w w1 t w1.heap.size HT1.o HTB.o B1.o HO.o HK.o hlen Wg cs Stop KK.o ol.length 0 _ _ [] [] _ _ _ _ _ _ _ _ _ _ _ _ _ _ _ _ _ _ _ _ _ _ _ _ _ _ _ _ _ _ _ _ _ _ _ _ _ _ _ _ _ _ _ _ _ _ _ _ _ _ _ _ _ _ _ _ _ _ _ _ _ _ _ _ _ _ _ _ _ _ _ ω ω (by go_num) U0.o ζ ζ)
end
section
namespace Tp
open Go.Conc
def Ub{P Stop}{b:Frame}{a k cs w}(hB:iT P){ops i rest o f args R}(ho:ops[i]? =some o)(hw:Region.wanted o (yielded ops a.tmps)=true)(hr:∀τ n,(execOp a.eval o).run P (w.re τ n)=.ok (.enter f args) (w.re τ n))(hc:kQ P f args w R) (K:∀v w',R v w'->mn P Stop (mL (b.at (a.put o.dst v) (.inRegion ops rest::k)) cs) w'):mn P Stop (mL (b.at a (.inRegion ops (i::rest)::k)) cs) w:=by exact t012
def Ug{P R}{b:Frame}{k a w c f fn v}(e:c=.ret)(hf:P.funcs[f]? =some fn)(hb:b.fn=f)(hk:b.kind=.normal)(hd:a.defers=[])(hv:(results fn a.tmps).run P w=.ok v w)(hi:P.inits.idxOf? f=none) (hR:∀τ n,R v (w.re τ n)):jk P (mn P (AtRet P R)) (b.at a (.code c::k)) [] w:=by subst e;subst hb;exact iQ step_ret (iw (mn.stop λτ n=>⟨rfl,hi,v,⟨rfl,hd,hk,fn,hf,(Ky hv).1 τ n⟩,hR τ n⟩))
def ZS{P f args w R}(hR:∀v w d,R v w->R v (w.at d))(h:mn P (AtRet P R) (mL (Frame.enter P f args .normal) []) w):∃N last o w' t',runNT P (N+1) (solo (mL (Frame.enter P f args .normal) []) w) #[]=(.ended o w',t')/\runN P N (solo (mL (Frame.enter P f args .normal) []) w)=.next last/\step P last=.ended o w'/\Go.Conc.Good P R last o w' t':=adz hR (h.self ⟨⟨rfl,aHU,⟨nK P f args .normal,aGg,(λhd=>by cases hd)⟩⟩,rfl⟩)
end Tp
open iz Go.Conc
open Go.RowKit
open Lw
open Ph (cb cl cr ci co gH ib ix jz n5 nt jf nZ m3 An kH)
open Tp (iT iy jk iw iQ kQ mn mL iH iW Ub Ug)
def Lw.wj.below{w w' v ol B}(h:Lw.wj w v ol)(hb:Below B w w')(hB:w.heap.size<=B):Lw.wj w' v ol:=by rcases h with h|⟨b,o,cap,rfl,gV,hc⟩;exact .inl h;refine .inr ⟨b,o,cap,rfl,ay gV hb.size,λj hj=>?_⟩;have e:∀i,w'.cell? ⟨b,i,none⟩=w.cell? ⟨b,i,none⟩:=λi=>fb (w:=w) (hb.block b ω);rw[e,e,e];exact hc j hj
end
