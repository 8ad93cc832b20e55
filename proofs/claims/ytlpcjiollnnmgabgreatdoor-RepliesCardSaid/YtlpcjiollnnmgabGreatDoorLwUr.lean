/-
  compactlaw.Replies, beside goroutines that leave.
-/
import Derived.Test.YtlpcjiollnnmgabGreatDoorM21
set_option maxRecDepth 100000
set_option maxHeartbeats 8000000
set_option linter.all false
namespace Go.Proofs.YtlpcjiollnnmgabGreatDoor
open Go.Proofs.Tryz
section
open iz Go.Conc
open Go.RowKit
open Lw
open Ph (cb cl cr ci co gH ib ix jz n5 nt jf nZ m3 An kH)
open Tp (iT iy jk iw iQ kQ mn mL iH iW Ub Ug)
noncomputable def urM:Code:=cb Tryz.f7
def ur0:urM=.seq (cl urM) (cr urM):=rfl
def ur1:cr urM=.seq (cl (cr urM)) (cr (cr urM)):=rfl
noncomputable def urf:Frame:={(default:Frame)with fn:=7,kind:=.normal}
def enter_ur(v:Value):Frame.enter prog 7 #[v] .normal=urf.at ⟨List.toArray (v::undef::undef::undef::undef::undef::undef::undef::undef::undef::undef::[]),[]⟩ [.code urM]:=by unfold Frame.enter;rw[func7];kernel_rfl
def fn_ur:prog.funcs[7]? =some Tryz.f7:=func7
def ur_top(v:Value)(ol:List Lw.Op)(w:World)(hT:km w)(h:Lw.wj w v ol)(jo:∀o∈ol,o.ok)(hlen:ol.length<=140737488355328):mn prog (Tp.AtRet prog λv' w'=>v'=.bool true/\Ph.Aq w.heap.size w w') (mL (Frame.enter prog 7 #[v] .normal) []) w:=by
 rw[enter_ur];refine iH iy (iW λHx n0=>?_);have TS:=η (aiw v ol (w.re Hx n0) h jo hlen);have HO:=η (show Lw.wj (w.re Hx n0) v ol from h);have HT:=η (show km (w.re Hx n0)from hT);have HK:=η jo;clear h hT jo;refine gH ur0 (ib (c':=.region _ _ _) rfl ?_);go_wp2_with fail;show jk _ _ _ _ _;refine gH ur1 (m3 5 [5,6,7,8] rfl rfl aFK ?_);show wpList _ _ _ [_,_,_,_,_] _ _;go_wp2_with fail;refine TS.o.mono ?_;clear TS;rintro e w1⟨⟨b,rfl,hb⟩,m0⟩;have B1:=η m0;have HB:=η hb;clear hb m0;cases b
 ·go_wp2_with fail;show jk _ _ _ _ _;refine An (l:=[5,6,7,8]) (r:=[]) (kH [5,6,7,8] [_,_,_,_] rfl _ _ ?_);show wpList _ _ _ [⟨some 8,.call _,_,_,_,some (3,false)⟩,⟨some 9,.binOp _ _ (.tmp 8) _ _,_,_,_,some (3,false)⟩,⟨some 10,.pick (.tmp 6) _ (.tmp 9),_,_,_,none⟩,⟨some 2,.assign (.tmp 10),_,_,_,none⟩] _ _;go_wp2_with fail;show jk _ _ _ _ _;refine Tp.iS ?_;exact Ug rfl fn_ur rfl rfl rfl (fR rfl _ _ _) κ (λ_ _=>⟨rfl,⟨B1.o.os,B1.o.output,B1.o.size,B1.o.block⟩⟩)
 have TU:=η (aim 6 ω v ol w1 (HT.o.below B1.o HT.o.lt) (HO.o.below B1.o ν) HK.o (HB.o rfl).1);go_wp2_with fail;show jk _ _ _ _ _;refine iw (Ub iy (i:=5) rfl rfl ?_ TU.o λv' wx hv=>?_)
 intro τ' n';kernel_rfl;obtain⟨rfl,kD⟩:=hv;have B2:=η kD;clear kD;refine iH iy (iW λτ1 n1=>?_);show jk _ _ (urf.at ⟨List.toArray (_::_::_::_::_::_::_::_::_::_::_::[]),[]⟩ _) _ _;refine An (l:=[6,7,8]) (r:=[]) (kH [6,7,8] [_,_,_] rfl _ _ ?_);show wpList _ _ _ [⟨some 9,.binOp _ _ (.tmp 8) _ _,_,_,_,some (3,false)⟩,⟨some 10,.pick (.tmp 6) _ (.tmp 9),_,_,_,none⟩,⟨some 2,.assign (.tmp 10),_,_,_,none⟩] _ _;go_wp2_with fail;show jk _ _ _ _ _;refine Tp.iS ?_;have BB:Ph.Aq w.heap.size w (wx.re τ1 n1):=(show Ph.Aq w.heap.size w w1 from⟨B1.o.os,B1.o.output,B1.o.size,B1.o.block⟩).trans ⟨B2.o.os,B2.o.output,B2.o.size,λk hk=>B2.o.block k (ay hk B1.o.size)⟩;exact Ug rfl fn_ur rfl rfl rfl (fR rfl _ _ _) κ (λ_ _=>⟨rfl,⟨BB.os,BB.output,BB.size,BB.block⟩⟩)
end
end Go.Proofs.YtlpcjiollnnmgabGreatDoor
