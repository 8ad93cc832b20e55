/-
  PROVED: the tied card of compactlaw.All: whatever the script, every call answers as the reference answers. Conditions: the two tables as the program's text lays them.
-/
import Derived.Test.YtlpcjiollnnmgabGreatDoorLwUa
import Derived.Test.YtlpcjiollnnmgabGreatDoorM25
set_option maxRecDepth 100000
set_option maxHeartbeats 8000000
set_option linter.all false
namespace Go.Proofs.YtlpcjiollnnmgabGreatDoor
open Go.Proofs.Tryz
namespace all
open iz
open Go.ChangeShapes Go.WideShapes Go.ChangeAt Go.RowKit
def laid_met(os:Os):laidMet prog Rows.allRow.laid ((ana os).forCall (λ_ _=>0) ⟨#[],#[.slice none 0 0],[]⟩).memory:=laidMet_of_run' 8 κ κ
def reads(os:Os){H:Type}(enc:TypeId×Value->H):∃places,DataW.whole enc prog ((ana os).forCall (λ_ _=>0) ⟨#[],#[.slice none 0 0],[]⟩).memory Tryz.f9.params.toList Rows.allSpec.vars false #[Value.slice none 0 0].toList 8=some ([.nil],[],places):=⟨[],by kernel_rfl⟩
def lifted(os:Os)(started:os.Started)(H:Type)(enc:TypeId×Value->H)(F:Stop.Interp):ReturnsInLeavingWide {} Tryz.checked os 9 .any ((OpenSpec.ofChange Rows.allSpec).preRow enc prog Tryz.f9 Rows.allRow.domain false Rows.allRow.laid) (((OpenSpec.ofChange Rows.allSpec).at F).post enc prog Tryz.f9 false true false false):=by
 obtain⟨places,hx⟩:=reads os enc;refine Jm (C:=Tryz.checked) (s:=OpenSpec.ofChange Rows.allSpec) Tryz.ownKnob started func9 (witness_row_at (enc:=enc) (C:=Tryz.checked) false (ana os) #[.slice none 0 0] rfl κ κ κ (OpenSpec.preRow_of_cond 8 hx κ aFP κ (laid_met os))) ?_;intro W base args ds gs before sm hW hwt hL;have hW':=hW;obtain⟨p,q,hA0,hV,rfl,hfz,hnd⟩:=hW;have hA:DataW.TrodAll enc prog W 0 (λ_=>true) true Tryz.f9.params.toList args.toList ds p:=hA0;rw[params9]at hA sm hwt;obtain⟨v0,vs0,d0,ds0,p0,q0,ada,rfl,rfl,h0,r0⟩:=trodAll_cons hA;obtain⟨rfl,rfl,rfl⟩:=trodAll_nil r0;obtain rfl:args=#[v0]:=by cases args;simp_all
 obtain⟨rfl,rfl⟩:=trodVars_none hV;obtain⟨a0,n0,c0,rfl⟩:=okWide_slice fZ (sm 0 22 v0 rfl rfl);clear hA0;simp only[aO]at hW';have hlt0:∀x∈p0,x.block<W.heap.size:=λx hx=>by simpa using hW'.lt x hx
 have hwt0:(d0.weights prog 22).all (·<=reachBytes)=true:=by have h1:(DataW.weightsEach prog (22::[]) (d0::[])).all (·<=reachBytes)=true:=hwt;unfold DataW.weightsEach at h1;rw[List.all_append,Bool.and_eq_true]at h1;exact h1.1
 obtain⟨ol,hol,jo,hlen⟩:=aj6 h0 hwt0;refine⟨λv' w'=>v'=.bool true/\Ph.Aq W.heap.size W w',λv w d h=>⟨h.1,⟨h.2.os,h.2.output,h.2.size,h.2.block⟩⟩,ua_top _ ol W (afZ hL) hol jo hlen,λe W' ⟨he,hg⟩=>?_⟩;subst he;have hg:=hg.blind;have hW':=DataW.Whole.of_heap (w':=W.blind) aFU hW';have h0:=(DataW.Trod.of_heap (w':=W.blind) aFU h0);have ht0:=Below.trod Tryz.aoM κ (of_decide_eq_true κ) h0 hg hlt0;exact aiz (gs:=[]) (before:=p0) (pa:=p0++[]) (pv:=[]) hW' (λ_ _ _=>(trodAll_cons_mk (shut_bool underlying4 _) trodAll_mk0)) (trodAll_cons_mk (p:=p0) (p':=[]) ht0 trodAll_mk0) (show DataW.TrodVars enc Tryz.checked.prog W'.blind (λb=>decide (b<W.blind.heap.size)) [] [] []from rfl) ζ hg
def said:Rows.AllSaid:=OpenClaim.holds_of_wide_leaving 9 Tryz.f9 rfl rfl rfl rfl rfl rfl rfl ⟨rfl,rfl,rfl,rfl,rfl⟩ rfl rfl rfl rfl rfl κ func9 κ (of_decide_eq_true κ) (by unfold Func.isWrapper;first|(rw[if_pos aFK];kernel_rfl)|(rw[if_neg aFK];exact⟨rfl,rfl⟩)) (λos started H enc _=>by rw[OpenClaim.pre_eq_preRow];exact lifted os started H enc (λ_ _ _=>0))
def plain(f:FuncId)(fn:Func)(hf:Tryz.pinned.checked.prog.funcNamed "compact/compactlaw.All" =some f)(hfn:Tryz.pinned.checked.prog.funcs[f]? =some fn):true=Tryz.pinned.checked.prog.looks []/\∀(j:Nat) t,fn.params[j]? =some t->Tryz.pinned.checked.prog.wantsStandIn t=false:=by obtain rfl:f=9:=aA ((show prog.funcNamed "compact/compactlaw.All" =some 9 by kernel_rfl).symm.trans hf) |>.symm;obtain rfl:fn=Tryz.f9:=(aA (func9.symm.trans hfn)).symm;refine⟨by kernel_rfl,λj t ht=>?_⟩;rw[params9]at ht;have hm:=Array.mem_of_getElem? ht;simp at hm;subst hm;exact(show prog.wantsStandIn 22=false by kernel_rfl)
theorem card:Rows.AllCardSaid:=anS .later true _ _ _ _ said κ all_row_tie rfl ⟨rfl,rfl⟩ κ rfl plain κ
#print axioms card
end all
end Go.Proofs.YtlpcjiollnnmgabGreatDoor
