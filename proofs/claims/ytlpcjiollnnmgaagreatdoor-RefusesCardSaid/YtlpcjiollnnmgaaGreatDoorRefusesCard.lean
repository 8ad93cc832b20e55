/-
  PROVED: the tied card of compactkeep.Refuses: of the sixty transactions and messages each is answered as known.go says. Conditions: the two tables as the program's text lays them.
-/
import Derived.Test.YtlpcjiollnnmgaaGreatDoorM12
set_option maxRecDepth 100000
set_option maxHeartbeats 8000000
set_option linter.all false
namespace Go.Proofs.YtlpcjiollnnmgaaGreatDoor
open Go.Proofs.Tryz
namespace refuses
open Nums
open Go.ChangeShapes Go.WideShapes Go.ChangeAt Go.RowKit
def int_reach{a:Int}(w:(Lit.int .i64 a).wf=true): -9223372036854775808<=a/\a<9223372036854775808:=by simp[Lit.wf,IntKind.min,IntKind.max,IntKind.signed,IntKind.bits]at w;omega
def refuses_top(k:Int)(hk: -9223372036854775808<=k/\k<9223372036854775808)(w:World)(hT:Tabs w):Tp.BesA prog (Tp.AtRet prog λv' w'=>v'=.bool true/\Ph.Bel w.heap.size w w') (Tp.gor (Frame.enter prog 3 #[.int .i64 k] .normal) []) w:=by rcases Int.lt_or_le (Keeps.pick k 60) 31 with h|h;exact refuses_tx k hk w hT h;exact refuses_msg k hk w hT h
def laid_met(os:Os):laidMet prog Rows.refusesRow.laid ((laidWorld os).forCall (λ_ _=>0) ⟨#[],#[.int .i64 0],[]⟩).memory:=laidMet_of_run' 8 (by kernel_rfl) (by kernel_rfl)
def reads(os:Os){H:Type}(enc:TypeId×Value->H):∃places,DataW.whole enc prog ((laidWorld os).forCall (λ_ _=>0) ⟨#[],#[.int .i64 0],[]⟩).memory Tryz.f3.params.toList Rows.refusesSpec.vars false #[Value.int .i64 0].toList 8=some ([.lit (.int .i64 0)],[],places):=⟨[],by kernel_rfl⟩
def lifted(os:Os)(started:os.Started)(H:Type)(enc:TypeId×Value->H)(F:Stop.Interp):ReturnsInLeavingWide {} Tryz.checked os 3 .any ((OpenSpec.ofChange Rows.refusesSpec).preRow enc prog Tryz.f3 Rows.refusesRow.domain false Rows.refusesRow.laid) (((OpenSpec.ofChange Rows.refusesSpec).at F).post enc prog Tryz.f3 false true false false):=by
 obtain⟨places,hx⟩:=reads os enc;refine returnsInLeaving_of_row (C:=Tryz.checked) (s:=OpenSpec.ofChange Rows.refusesSpec) Tryz.ownKnob started func3 (witness_row_at (enc:=enc) (C:=Tryz.checked) false (laidWorld os) #[.int .i64 0] rfl (by kernel_rfl) (by kernel_rfl) (by kernel_rfl) (OpenSpec.preRow_of_cond 8 hx (by kernel_rfl) (λk hk=>by cases hk) (by kernel_rfl) (laid_met os))) ?_;intro W base args ds gs before hval hW hwt hL;have hW':=hW;obtain⟨p,q,hA0,hV,rfl,hfz,hnd⟩:=hW;have hA:DataW.TrodAll enc prog W 0 (λ_=>true) true Tryz.f3.params.toList args.toList ds p:=hA0;rw[params3]at hA hval hwt;obtain⟨v0,vs0,d0,ds0,p0,q0,hargs,rfl,rfl,h0,r0⟩:=trodAll_cons hA;obtain⟨rfl,rfl,rfl⟩:=trodAll_nil r0;obtain rfl:args=#[v0]:=by cases args;simp_all
 obtain⟨rfl,rfl⟩:=trodVars_none hV;obtain⟨a0,rfl,rfl,rfl,w0⟩:=open_int underlying3 (hval 0 3 v0 rfl rfl) h0;clear hA0;simp only[List.append_nil]at hW';refine⟨λv' w'=>v'=.bool true/\Ph.Bel W.heap.size W w',λv w d h=>⟨h.1,⟨h.2.os,h.2.output,h.2.size,h.2.block⟩⟩,refuses_top a0 (int_reach w0) W (tabs_of_laid hL),λe W' ⟨he,hg⟩=>?_⟩;subst he;have hg:=hg.blind;have hW':=DataW.Whole.of_heap (w':=W.blind) (by rfl) hW';exact post_of_bel (gs:=[]) (before:=[]) (pa:=[]) (pv:=[]) hW' (λ_ _ _=>(trodAll_cons_mk (shut_bool underlying4 _) trodAll_mk0)) (trodAll_cons_mk (shut_int underlying3 w0) trodAll_mk0) (show DataW.TrodVars enc Tryz.checked.prog W'.blind (λb=>decide (b<W.blind.heap.size)) [] [] []from rfl) (by simp) hg
def said:Rows.RefusesSaid:=OpenClaim.holds_of_wide_leaving 3 Tryz.f3 rfl rfl rfl rfl rfl rfl rfl ⟨rfl,rfl,rfl,rfl,rfl⟩ rfl rfl rfl rfl rfl (by kernel_rfl) func3 (by kernel_rfl) (of_decide_eq_true (by kernel_rfl)) (by unfold Func.isWrapper;first|(rw[if_pos (by decide +kernel)];kernel_rfl)|(rw[if_neg (by decide +kernel)];exact⟨rfl,rfl⟩)) (λos started H enc _=>by rw[OpenClaim.pre_eq_preRow];exact lifted os started H enc (λ_ _ _=>0))
def plain(f:FuncId)(fn:Func)(hf:Tryz.pinned.checked.prog.funcNamed "compact/compactkeep.Refuses" =some f)(hfn:Tryz.pinned.checked.prog.funcs[f]? =some fn):true=Tryz.pinned.checked.prog.looks []/\∀(j:Nat) t,fn.params[j]? =some t->Tryz.pinned.checked.prog.wantsStandIn t=false:=by
 obtain rfl:f=3:=Option.some.inj ((show prog.funcNamed "compact/compactkeep.Refuses" =some 3 by kernel_rfl).symm.trans hf) |>.symm;obtain rfl:fn=Tryz.f3:=(Option.some.inj (func3.symm.trans hfn)).symm;refine⟨by kernel_rfl,λj t ht=>?_⟩;rw[params3]at ht;obtain rfl:t=3:=by have:=Array.mem_of_getElem? ht;simpa using this
 exact(show prog.wantsStandIn 3=false by kernel_rfl)
theorem card:Rows.RefusesCardSaid:=card_goes .later true _ _ _ _ said (by kernel_rfl) refuses_row_tie rfl ⟨rfl,rfl⟩ (by kernel_rfl) rfl plain (by kernel_rfl)
#print axioms card
end refuses
end Go.Proofs.YtlpcjiollnnmgaaGreatDoor
