import Derived.Test.YtlpcjiollnnmgabGreatDoorM21
import Derived.Test.YtlpcjiollnnmgabGreatDoorCards
import Derived.Test.YtlpcjiollnnmgabGreatDoorTie
import Derived.Deep.DeepHandedRow
import Derived.Lib.LaidTab
import Derived.Deep.Fields
import Derived.Conc.Holds
set_option maxRecDepth 100000
set_option maxHeartbeats 8000000
set_option linter.all false
namespace Go.Proofs.YtlpcjiollnnmgabGreatDoor
open Go.Proofs.Tryz
section
open iz
open Go.ChangeShapes Go.WideShapes Go.ChangeAt Go.RowKit
open Go.ChangeMaps (open_string shut_string)
def Tryz.ownKnob:Go.ownKnob prog.godebug=none:=κ
def alU:prog.globalNamed "compact/hash.begin" =some 0:=κ
def ahx:prog.globalNamed "compact/hash.rounds" =some 1:=κ
def Ty:(prog.globals[0]?).map (·.type)=some 169:=κ
def Pn:(prog.globals[1]?).map (·.type)=some 209:=κ
def ahN:prog.cellsOf 169=8:=κ
def adY:prog.cellsOf 209=64:=κ
def PO:prog.cellsOf 168=1:=κ
def Cs{P W name k zs rest g t e n}(hz:zs≠ []) (hg:P.globalNamed name=some g) (hty:(P.globals[g]?).map (·.type)=some t) (ht:P.underlying t=some (.array n e)) (he:P.underlying e=some (.int k)) (hce:P.cellsOf e=1) (hct:P.cellsOf t=n) (h:laidMet P ((name,Lib.tabData k zs)::rest) W):Row W g (zs.map λz=>Value.int k z):=by
 have ht':=Lib.tabIs_of_head hg hty ht he hce hct h;obtain⟨ps,⟨g',t',cs,fuel,p,q,Ti,_,ao6,_,_,rfl⟩,_,ll⟩:=h;obtain rfl:=aA (hg.symm.trans Ti);unfold Lib.TabIs at ht';rw[ao6]at ht';obtain rfl:=aA ht';have hm:MemPlace.cell g 0∈MemPlace.row ⟨g,0,none⟩ ((zs.map λz=>Value.int k z).toArray).size++p++q:=by refine cC _ (cC _ ?_);cases zs with|nil=>exact absurd rfl hz|cons z zs=>simp[MemPlace.row]
 obtain⟨⟨c,T,hc⟩,_⟩:=ll g 0 hm;refine⟨T,?_⟩;have hv:=ao6;unfold World.var? at hv;rw[hg]at hv;simp only[dY,hc,bY]at hv;rw[hc,hv]
def Y0{P W x rest}(h:laidMet P (x::rest) W):laidMet P rest W:=by obtain⟨name,d⟩:=x;obtain⟨ps,⟨g,t,cs,fuel,p,q,_,_,_,_,hr,rfl⟩,hn,ll⟩:=h;exact⟨q,hr,(dX.1 hn).2.1,λb off hb=>ll b off (List.mem_append_right _ hb)⟩
def Ch:List Int:=[1779033703,3144134277,1013904242,2773480762,1359893119,2600822924,528734635,1541459225]
def tQ:List Int:=gP.rounds.map V
def Uc:(Ch.map λz=>Value.int .u32 z)=nP (jS gP.begin):=κ
def Na:(tQ.map λz=>Value.int .u32 z)=nP gP.rounds:=by simp[tQ,nP]
def Ud:(Rows.laid_compact_hash_begin:DataW Unit)=Lib.tabData .u32 Ch:=κ
def Nb:(Rows.laid_compact_hash_rounds:DataW Unit)=Lib.tabData .u32 tQ:=κ
def afZ{W}(h:laidMet prog [("compact/hash.begin",Rows.laid_compact_hash_begin),("compact/hash.rounds",Rows.laid_compact_hash_rounds)] W):km W:=by rw[Ud,Nb]at h;refine⟨?_,?_⟩;rw[<-Uc];exact Cs ψ alU Ty underlying169 underlying168 PO ahN h;rw[<-Na];exact Cs ψ ahx Pn underlying209 underlying168 PO adY (Y0 h)
def Oo(l:List Value):Obj->Obj
 |.cells _ t frozen=>.cells l.toArray t frozen|o=>o
noncomputable def ana(os:Os):World:={World.holding prog os ⟨#[],#[],[]⟩with heap:=((World.holding prog os ⟨#[],#[],[]⟩).heap.modify 0 (Oo (Ch.map λz=>Value.int .u32 z))).modify 1 (Oo (tQ.map λz=>Value.int .u32 z))}
end
section
section
open iz
open Go.ChangeShapes Go.WideShapes Go.ChangeAt Go.RowKit Go.Deep
open Lw
theorem vI{H P e}:∀l (x:DataW H),x∈l->∀k∈x.weights P e,k∈DataW.weightsAll P e l
 |y::l,x,hx,k,hk=>by unfold DataW.weightsAll;rcases List.mem_cons.1 hx with rfl|hx;exact cC _ hk;exact List.mem_append_right _ (vI l x hx k hk)
theorem Dg{α:Type}[Inhabited α](Q:Nat->α->Prop):∀n,(∀i,i<n->∃a,Q i a)->∃l:List α,l.length=n/\∀j,j<n->Q j (l.getD j default)
 |0,_=>⟨[],rfl,λj hj=>by omega⟩|n+1,h=>by
  obtain⟨l,hl,hq⟩:=Dg Q n (λi hi=>h i ω);obtain⟨a,ha⟩:=h n ω;refine⟨l++[a],by simp[hl],λj hj=>?_⟩;by_cases hjn:j<n;have:=hq j hjn;rw[ab,aP ω,<-ab];exact this;obtain rfl:j=l.length:=by omega
  rw[ab,aK ν];simp[hl];exact ha
def ahM:prog.cellsOf 59=3:=κ
def aj6{H enc W a0 n0 c0}{d:DataW H}{ps}(h:DataW.Trod enc prog W 0 (λ_=>true) true 22 (.slice a0 n0 c0) d ps) (hw:(d.weights prog 22).all (·<=reachBytes)=true):∃ol,Lw.wj W (.slice a0 n0 c0) ol/\(∀o∈ol,o.ok)/\ol.length<=140737488355328:=by
 obtain⟨fuel,hf⟩:=h;rcases open_slice fZ hf with⟨kC,_⟩|⟨a,len,cap,m,n,D,Pl,kC,_,hl,hcm,hm,hx,hi⟩;simp[Value.cells]at kC;obtain⟨rfl,rfl,rfl⟩:=kC;exact⟨[],.inl ⟨none,0,rfl,rfl⟩,λo ho=>by simp at ho,by simp⟩;simp[Value.cells]at kC;obtain⟨rfl,rfl,rfl⟩:=kC;have hle:n0<=m:=by rw[hm];simp;exact hl
 simp only[cU]at hx;obtain⟨rfl,_⟩:=hx;have Lh:=hw;unfold DataW.weights at Lh;rw[fZ]at Lh;simp only[bV,List.all_append,Bool.and_eq_true,decide_eq_true_eq,bk,List.length_range]at Lh;obtain⟨Lh,hw2,_⟩:=Lh;have hb:prog.bytesOf 59=32:=κ;rw[hb]at Lh;have hn0:n0<=140737488355328:=by unfold reachBytes at Lh;omega
 have each:∀i,i<n0->∃o:Lw.Op,(W.cell? (a.add (i*3))=some (.int .i64 o.k)/\W.cell? (a.add (i*3+1))=some (.int .i64 o.a)/\W.cell? (a.add (i*3+2))=some (.string (str o.s)))/\o.ok:=by
  intro i hin;obtain⟨cs,xC,htr⟩:=hi i ω;rw[ahM]at xC;obtain⟨_,tu,q8⟩:=World.cells?_some xC;obtain⟨ys,n',_,hyy,_,hyl,hff⟩:=DataW.trod_struct underlying59 htr;have hD:D i=.agg (ys.map (·.1)):=(Prod.mk.inj hyy).1;obtain⟨v0,v1,v2,rfl⟩:∃v0 v1 v2,cs=[v0,v1,v2]:=by
   match cs,tu with
   |[v0,v1,v2],_=>exact⟨v0,v1,v2,rfl⟩
  have pV:=q8 0 ω;have qZ:=q8 1 ω;have pM:=q8 2 ω;obtain⟨y0,y1,y2,rfl⟩:∃y0 y1 y2,ys=[y0,y1,y2]:=by
   match ys,hyl with
   |[y0,y1,y2],_=>exact⟨y0,y1,y2,rfl⟩
  have ht0:DataW.trod enc prog W 0 (λ_=>true) true n' 3 [v0]=some y0:=hff 0 _ rfl;have ht1:DataW.trod enc prog W 0 (λ_=>true) true n' 3 [v1]=some y1:=hff 1 _ rfl;have ht2:DataW.trod enc prog W 0 (λ_=>true) true n' 9 [v2]=some y2:=hff 2 _ rfl;rw[add_add]at pV qZ pM;obtain⟨k,hk,hky,hkw⟩:=DataW.trod_int (k:=.i64) κ ht0;obtain⟨b,m0,rC,hbw⟩:=DataW.trod_int (k:=.i64) κ ht1;obtain⟨s,hs,hsy,_⟩:=DataW.trod_string κ ht2;obtain rfl:v0=.int .i64 k:=by simpa using hk
  obtain rfl:v1=.int .i64 b:=by simpa using m0
  obtain rfl:v2=.string s:=aHf;rw[hky,rC,hsy]at hD;have BL:∀q∈(D i).weights prog 59,q<=reachBytes:=λq hq=>of_decide_eq_true ((List.all_eq_true.1 hw2) q (vI _ _ (List.mem_map.2 ⟨i,dC.2 hin,rfl⟩) q hq));rw[hD]at BL;unfold DataW.weights at BL;rw[underlying59]at BL;have BJ:=BL s.data.toList.length (by simp[DataW.weightsEach,DataW.weights]);have BN:IntKind.min .i64<=k/\k<=IntKind.max .i64:=by simpa[Lit.wf]using hkw
  have kD:IntKind.min .i64<=b/\b<=IntKind.max .i64:=by simpa[Lit.wf]using hbw
  have e1:IntKind.min .i64= -9223372036854775808:=κ;have e2:IntKind.max .i64=9223372036854775807:=κ;rw[e1,e2]at BN kD;refine⟨⟨k,b,s.data.toList⟩,⟨by simpa using pV,by simpa using qZ,?_⟩,⟨BN.1,?_⟩,⟨kD.1,?_⟩,?_⟩;have h3:W.cell? (a.add (i*3+2))=some (.string s):=by simpa using pM
  exact h3;show k<_;omega;show b<_;omega;show s.data.toList.length<=_;unfold reachBytes at BJ;omega
 obtain⟨ol,hol,hq⟩:=Dg (λi (o:Lw.Op)=>(W.cell? (a.add (i*3))=some (.int .i64 o.k)/\W.cell? (a.add (i*3+1))=some (.int .i64 o.a)/\W.cell? (a.add (i*3+2))=some (.string (str o.s)))/\o.ok) n0 each;refine⟨ol,?_,λo ho=>?_,by omega⟩;by_cases h0:n0=0;subst h0;exact .inl ⟨some a,_,rfl,bF.1 hol⟩;obtain⟨b,off,spot⟩:=a;have apn:spot=none:=by simpa[Addr.add]using World.cell?_spot (hq 0 (by omega)).1.1
 subst apn;refine .inr ⟨b,off,_,by rw[hol],?_,λj hj=>?_⟩;have:=fQ _ _ (hq 0 ω).1.1;simpa[Addr.add]using this;have:=(hq j ω).1;simp only[fJ]at this;exact this;obtain⟨j,hj,rfl⟩:=cR.1 ho;have:=(hq j ω).2;rwa[ab,ag hj]at this
end
open iz
open Go.ChangeShapes Go.WideShapes Go.ChangeAt Go.RowKit
open Go.Conc
def Tryz.aoM:laidOutB prog=true:=κ
def Ph.Aq.blind{B w w'}(h:Ph.Aq B w w'):Below B w.blind w'.blind:=⟨h.os,rfl,h.output,h.size,h.block⟩
def aiz{H enc P f}{s:ChangeSpec}{apart fresh handsOn W W' args v ds gs before pa pv} (hW:DataW.Whole enc P f.params.toList s.vars apart W args.toList ds gs before) (OF:∀b sp hd,DataW.TrodAll enc P W' b sp hd f.resultTypes.toList (v.resultList f.resultTypes.size) (s.fn H (ds++gs)).results []) (ada:DataW.TrodAll enc P W' 0 (λb=>decide (b<W.heap.size)) true f.params.toList args.toList (s.fn H (ds++gs)).args pa) (ao5:DataW.TrodVars enc P W' (λb=>decide (b<W.heap.size)) s.vars (s.fn H (ds++gs)).vars pv) (xy:before=pa++pv) (hb:Below W.heap.size W W'):s.post enc P f apart fresh handsOn false W args v W':=by refine⟨ds,gs,before,[],pa,pv,hW,OF _ _ _,ada,ao5,World.keptBut_mono (λp hp=>⟨hp,?_⟩) (hb.frame (·∈before)),λh=>by cases h⟩;rw[xy,bx]at hp;exact Or.inr hp
def Jm{H enc a C os f fn}{s:OpenSpec}{F conds apart fresh handsOn again laid} (own:ownKnob C.prog.godebug=none) (started:os.Started) (hfn:C.prog.funcs[f]? =some fn) (witness:∃(w:World)(tape:Tape)(i:Input),w.os=os/\(w.forCall tape i).Shaped C.prog/\i.vars=[]/\Input.okWide C.prog (w.forCall tape i) .any w.heap.size f i/\s.preRow enc C.prog fn conds apart laid (w.forCall tape i).memory i.args/\a.holds C.prog (lone (Frame.enter C.prog f i.args .normal) [] (w.forCall tape i))) (adT:∀W base args (ds gs:List (DataW H))(before),(∀(j:Nat) t v,fn.params[j]? =some t->args[j]? =some v->Value.okWide C.prog W .any base t v)->DataW.Whole enc C.prog fn.params.toList s.vars apart W args.toList ds gs before->(DataW.weightsEach C.prog (fn.params.toList++s.bare.plain.varTypes C.prog) (ds++gs)).all (·<=reachBytes)=true->laidMetH C.prog laid W->∃R:Value->World->Prop,(∀v w d,R v w->R v (w.at d))/\Tp.mn C.prog (Tp.AtRet C.prog R) (Tp.mL (Frame.enter C.prog f args .normal) []) W/\∀v W',R v W'->(s.at F).post enc C.prog fn apart fresh handsOn again W.blind args v W'.blind):ReturnsInLeavingWide a C os f .any (s.preRow enc C.prog fn conds apart laid) ((s.at F).post enc C.prog fn apart fresh handsOn again):=by refine returnsInLeavingWide_of_good own started witness ?_;intro w tape i _ tn _ jo Zd avp;obtain⟨_,_,_,fn',avB,_,_,_,_,sm⟩:=jo;have e:fn'=fn:=aA (avB.symm.trans hfn);subst e;obtain⟨⟨hp,hl⟩,hz⟩:=Zd;obtain⟨ds,gs,before,hw,hc,hk⟩:=OpenSpec.pre_parts hp;have hw':=DataW.Whole.of_heap (w':=w.forCall tape i) aFU hw;obtain⟨R,hR,hb,apD⟩:=adT (w.forCall tape i) w.heap.size i.args ds gs before sm hw' (hz.weights hw) (hl.of_heap aFU);obtain⟨N,last,o,w',t',h1,h2,h3,v,e,hr,hq⟩:=Tp.ZS hR hb;exact⟨N,last,o,w',t',h1,h2,h3,v,e,apD v w' hr,hq⟩
def anS Lk{p s c} g kinds UH har lk (hc:c.holds p s) (hw:c.wfByText s=true) (auH:c.laidByTextAt Lk p kinds UH) (ig:c.start=.entering) (hnb:c.noBlocks=false/\c.again=false) (hm:p.checked.prog.mainIs=some (har.1,har.2.toList)) (hn:(!har.1&&har.2.isEmpty&& !lk)=false) (hl:∀f fn,p.checked.prog.funcNamed c.func=some f->p.checked.prog.funcs[f]? =some fn->lk=p.checked.prog.looks []/\∀(j:Nat) t,fn.params[j]? =some t->p.checked.prog.wantsStandIn t=false) (hg:g=c.goesBy p.checked.prog):Claim7.holds p (.plain s) {stood:={row:=c,standIns:=[],harness:=har,looks:=lk},kinds:=[],alts:=[],goes:=g,laidByText:=true,laidKinds:=kinds,laidTests:=UH,laidLooks:=Lk}:=by
 have h6:∀r:OpenClaim,Claim7.isSixth {stood:={row:=r,standIns:=[],harness:=har,looks:=lk},kinds:=[]}=false:=λr=>by simpa[Claim7.isSixth]using hn
 refine⟨(Claim7.holdsOne_goes p (.plain s) {stood:={row:=c,standIns:=[],harness:=har,looks:=lk},kinds:=[],alts:=[],laidByText:=true,laidKinds:=kinds,laidTests:=UH,laidLooks:=Lk} g).2 (Claim7.tied_new_at Lk kinds UH (Claim7.new_of_sixth hc har lk ig hnb hm (h6 c) hl) hw),(λD hD=>by cases hD),auH,(λh=>by cases h),hg⟩
end
