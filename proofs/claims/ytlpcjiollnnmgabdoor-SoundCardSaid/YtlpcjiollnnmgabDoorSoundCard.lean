/-
  PROVED: the tied card of compactkeep.Sound: whatever the messages, a block that is said to be there has the root that its header says, and no twins. Conditions: the two tables as the program's text lays them.
-/
import Derived.Test.YtlpcjiollnnmgabDoorM11
set_option maxRecDepth 100000
set_option maxHeartbeats 8000000
set_option linter.all false
namespace Go.Proofs.YtlpcjiollnnmgabDoor
open Go.Proofs.Tryd
namespace sound
open Nums
open Go.ChangeShapes Go.WideShapes Go.ChangeAt Go.RowKit
def laid_met(os:Os):laidMet prog Rows.soundRow.laid ((laidWorld os).forCall (λ_ _=>0) ⟨#[],#[.slice none 0 0,.slice none 0 0],[]⟩).memory:=laidMet_of_run' 8 (by kernel_rfl) (by kernel_rfl)
def reads(os:Os){H:Type}(enc:TypeId×Value->H):∃places,DataW.whole enc prog ((laidWorld os).forCall (λ_ _=>0) ⟨#[],#[.slice none 0 0,.slice none 0 0],[]⟩).memory Tryd.f4.params.toList Rows.soundSpec.vars false #[Value.slice none 0 0,Value.slice none 0 0].toList 8=some ([.nil,.nil],[],places):=⟨[],by kernel_rfl⟩
def lifted(os:Os)(started:os.Started)(H:Type)(enc:TypeId×Value->H)(F:Stop.Interp):ReturnsInLeavingWide {} Tryd.checked os 4 .any ((OpenSpec.ofChange Rows.soundSpec).preRow enc prog Tryd.f4 Rows.soundRow.domain false Rows.soundRow.laid) (((OpenSpec.ofChange Rows.soundSpec).at F).post enc prog Tryd.f4 false true false false):=by
 obtain⟨places,hx⟩:=reads os enc;refine returnsInLeaving_of_row (C:=Tryd.checked) (s:=OpenSpec.ofChange Rows.soundSpec) Tryd.ownKnob started func4 (witness_row_at (enc:=enc) (C:=Tryd.checked) false (laidWorld os) #[.slice none 0 0,.slice none 0 0] rfl (by kernel_rfl) (by kernel_rfl) (by kernel_rfl) (OpenSpec.preRow_of_cond 8 hx (by kernel_rfl) (λk hk=>by cases hk) (by kernel_rfl) (laid_met os))) ?_;intro W base args ds gs before hval hW hwt hL;have hW':=hW;obtain⟨p,q,hA0,hV,rfl,hfz,hnd⟩:=hW;have hA:DataW.TrodAll enc prog W 0 (λ_=>true) true Tryd.f4.params.toList args.toList ds p:=hA0;rw[params4]at hA hval hwt;obtain⟨v0,vs0,d0,ds0,p0,q0,hargs,rfl,rfl,h0,r0⟩:=trodAll_cons hA;obtain⟨v1,vs1,d1,ds1,p1,q1,rfl,rfl,rfl,h1,r1⟩:=trodAll_cons r0;obtain⟨rfl,rfl,rfl⟩:=trodAll_nil r1;obtain rfl:args=#[v0,v1]:=by cases args;simp_all
 obtain⟨rfl,rfl⟩:=trodVars_none hV;obtain⟨a0,n0,c0,rfl⟩:=okWide_slice underlying22 (hval 0 22 v0 rfl rfl);obtain⟨a1,n1,c1,rfl⟩:=okWide_slice underlying25 (hval 1 25 v1 rfl rfl);clear hA0;simp only[List.append_nil]at hW';have hlt0:∀x∈p0,x.block<W.heap.size:=λx hx=>by simpa using hW'.lt x (List.mem_append_left _ hx)
 have hlt1:∀x∈p1,x.block<W.heap.size:=λx hx=>by simpa using hW'.lt x (List.mem_append_right _ hx)
 obtain⟨al,hal,hr⟩:=ints_of_arg h0;obtain⟨ss,hss,hsl⟩:=texts_of_argL h1;refine⟨λv' w'=>v'=.bool true/\Ph.Bel W.heap.size W w',λv w d h=>⟨h.1,⟨h.2.os,h.2.output,h.2.size,h.2.block⟩⟩,sound_top _ _ al ss W (tabs_of_laid hL) hal hr hss hsl,λe W' ⟨he,hg⟩=>?_⟩;subst he;have hg:=hg.blind;have hW':=DataW.Whole.of_heap (w':=W.blind) (by rfl) hW';have h0:=(DataW.Trod.of_heap (w':=W.blind) (by rfl) h0);have h1:=(DataW.Trod.of_heap (w':=W.blind) (by rfl) h1);have ht0:=Below.trod Tryd.laidOut' (by kernel_rfl) (of_decide_eq_true (by kernel_rfl)) h0 hg hlt0;have ht1:=Below.trod Tryd.laidOut' (by kernel_rfl) (of_decide_eq_true (by kernel_rfl)) h1 hg hlt1;exact post_of_bel (gs:=[]) (before:=p0++p1) (pa:=p0++(p1++[])) (pv:=[]) hW' (λ_ _ _=>(trodAll_cons_mk (shut_bool underlying4 _) trodAll_mk0)) (trodAll_cons_mk (p:=p0) (p':=p1++[]) ht0 (trodAll_cons_mk (p:=p1) (p':=[]) ht1 trodAll_mk0)) (show DataW.TrodVars enc Tryd.checked.prog W'.blind (λb=>decide (b<W.blind.heap.size)) [] [] []from rfl) (by simp) hg
def said:Rows.SoundSaid:=OpenClaim.holds_of_wide_leaving 4 Tryd.f4 rfl rfl rfl rfl rfl rfl rfl ⟨rfl,rfl,rfl,rfl,rfl⟩ rfl rfl rfl rfl rfl (by kernel_rfl) func4 (by kernel_rfl) (of_decide_eq_true (by kernel_rfl)) (by unfold Func.isWrapper;first|(rw[if_pos (by decide +kernel)];kernel_rfl)|(rw[if_neg (by decide +kernel)];exact⟨rfl,rfl⟩)) (λos started H enc _=>by rw[OpenClaim.pre_eq_preRow];exact lifted os started H enc (λ_ _ _=>0))
def plain(f:FuncId)(fn:Func)(hf:Tryd.pinned.checked.prog.funcNamed "compact/compactkeep.Sound" =some f)(hfn:Tryd.pinned.checked.prog.funcs[f]? =some fn):true=Tryd.pinned.checked.prog.looks []/\∀(j:Nat) t,fn.params[j]? =some t->Tryd.pinned.checked.prog.wantsStandIn t=false:=by obtain rfl:f=4:=Option.some.inj ((show prog.funcNamed "compact/compactkeep.Sound" =some 4 by kernel_rfl).symm.trans hf) |>.symm;obtain rfl:fn=Tryd.f4:=(Option.some.inj (func4.symm.trans hfn)).symm;refine⟨by kernel_rfl,λj t ht=>?_⟩;rw[params4]at ht;have hm:=Array.mem_of_getElem? ht;simp at hm;rcases hm with rfl|rfl;exact(show prog.wantsStandIn 22=false by kernel_rfl);exact(show prog.wantsStandIn 25=false by kernel_rfl)
theorem card:Rows.SoundCardSaid:=card_goes .later true _ _ _ _ said (by kernel_rfl) sound_row_tie rfl ⟨rfl,rfl⟩ (by kernel_rfl) rfl plain (by kernel_rfl)
#print axioms card
end sound
end Go.Proofs.YtlpcjiollnnmgabDoor
