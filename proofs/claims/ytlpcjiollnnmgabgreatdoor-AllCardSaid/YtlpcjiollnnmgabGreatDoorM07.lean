import Derived.Test.YtlpcjiollnnmgabGreatDoorM06
import Derived.Great.BuildSlice
set_option maxRecDepth 100000
set_option maxHeartbeats 8000000
set_option linter.all false
namespace Go.Proofs.YtlpcjiollnnmgabGreatDoor
open Go.Proofs.Tryz
def t0128{p:Prop}(h:p:=by have:=hl (j+1) (by rw[aq];omega);rw[show k+1+j=k+(j+1)by omega];exact this):p:=h
section
open iz
namespace gI
section
variable{P:Program}{ops:Array Oper}{w:World}
def zg(ops:Array Oper)(m n:Nat):Bool:=(List.range n).all λi=>decide (i<m) ||(List.range (n+1)).any λj=>decide (i<j)&&Region.waitsFor .any ops j i
def yS(m:Nat)(listed:Array Bool):Prop:=∀i,i<m->listed.getD i true=true
def yS.set{m i listed}(h:yS m listed):yS m (listed.setIfInBounds i true):=λj hj=>by by_cases qG:i=j;subst qG;have:=h i hj;simp only[aN,Array.getElem?_setIfInBounds_self]at this|-;split<;>simp_all;rw[getD_set_ne true qG];exact h j hj
def waits{m n listed}(hs:zg ops m n=true)(hc:Region.chainB .any ops n=true)(inv:HeadInv .any ops n listed)(hf:yS m listed){t}(ht:n<=t)(hr:t∈Region.ready .any ops listed):∀i,i<n->listed.getD i true=true:=by
 obtain⟨_,ot,OP,ll⟩:=mem_ready.1 hr;have auF:t<ops.size:=(ae.1 OP).1;have htn:t=n:=by apply aV;intro iZ;have h1:=List.all_eq_true.1 hc t (dC.2 auF);simp only[dz,decide_eq_true_eq]at h1;rcases h1 with h1|h1;omega;obtain⟨o',ho',e,he,hb,hon⟩:=Region.waitsFor_spec h1;obtain rfl:o'=ot:=aA (ho'.symm.trans OP);have h2:=ll e he hb;rw[hon,getD_both (inv.tail (t-1) ω ω)]at h2;cases h2
 subst htn;intro i;generalize hd:t-i=d;induction d using Nat.strongRecOn generalizing i with
 |_ d ih=>
 intro hi;cases hl:listed.getD i true with
 |true=>rfl|false=>
 exfalso;have h1:=List.all_eq_true.1 hs i (dC.2 hi);simp only[dz,decide_eq_true_eq]at h1;rcases h1 with h1|h1;rw[hf i h1]at hl;cases hl;obtain⟨j,hj,hj2⟩:=List.any_eq_true.1 h1;simp only[Bool.and_eq_true,decide_eq_true_eq]at hj2;obtain⟨oj,hoj,e,he,hb,hon⟩:=Region.waitsFor_spec hj2.2;have aCw:=dC.1 hj;rcases eI j t with hjt|hjt;have h3:=ih (t-j) ω j rfl hjt;have h4:listed.getD j false=true:=by cases h5:listed.getD j false with|true=>rfl|false=>rw[getD_in (by rw[inv.size];omega) h5]at h3;cases h3
 have h5:=inv.closed j oj hoj h4 e he hb;rw[hon,getD_both hl]at h5;cases h5;obtain rfl:j=t:=by omega
 obtain rfl:oj=ot:=aA (hoj.symm.trans OP);have h2:=ll e he hb;rw[hon,getD_both hl]at h2;cases h2
def first{m n i oi v L}(hi:ops[i]? =some oi)(sn:Region.noSelect ops=true)(hs:zg ops m n=true)(hc:Region.chainB .any ops n=true)(hin:i<n) (aqe:∀listed a,L listed a->∀j∈Region.ready .any ops listed,n<=j):∀f listed a,HeadInv .any ops n listed->yS m listed->(∀j oj,ops[j]? =some oj->j≠i->listed.getD j true=false->(∀e∈oj.after,Region.binds .any e=true->e.on≠i)->oi.apart ops oj=true)->i∈Region.ready .any ops listed->YieldsAt P ops w oi v a->wpAnyL P .any ops w n L f (listed.setIfInBounds i true) (a.put oi.dst v)->wpAnyL P .any ops w n L (f+1) listed a:=by
 intro f;induction f with
 |zero=>intro listed a inv Lo _ hr hy H;refine⟨λh=>by simp[h]at hr,λj hj=>?_⟩;have hun:=(mem_ready.1 hr).1;by_cases ij:j=i;rw[ij];exact⟨hin,hy.stOp hi H⟩;have h1:=aqe _ _ H j (ready_mono hj ij);have h2:=waits hs hc inv Lo h1 hj i hin;rw[hun]at h2;cases h2
 |succ f ih=>
 intro listed a inv Lo ai4 hr hy H;refine⟨λh=>by simp[h]at hr,λj hj=>?_⟩;have hun:=(mem_ready.1 hr).1;have hjn:j<n:=eQ λh1=>by have h2:=waits hs hc inv Lo h1 hj i hin;rw[hun]at h2;cases h2
 refine⟨hjn,?_⟩;by_cases ij:j=i;rw[ij];exact hy.stOp hi H;obtain⟨apV,oj,hoj,ll⟩:=mem_ready.1 hj;have hap:oi.apart ops oj=true:=ai4 j oj hoj ij apV λe he hb heq=>by have h1:=ll e he hb;rw[heq,getD_both hun]at h1;cases h1
 refine stOp_mono (λa' h3=>?_) (stOp_put hoj hap (λcs b=>Region.noSelect_spec sn i oi cs b hi) (λcs b=>Region.noSelect_spec sn j oj cs b hoj) hy (H.2 j (ready_mono hj ij)).2);refine ih _ a' (inv.set hj hjn) Lo.set (λk ok hk Ql avi zW=>ai4 k ok hk Ql ?_ zW) (ready_mono hr (aG ij)) h3.1 ?_;by_cases hjk:j=k;rw[<-hjk];exact apV;rwa[getD_set_ne true hjk]at avi;rw[Array.setIfInBounds_comm _ _ ij];exact h3.2
def lex{m n g Lq}(sn:Region.noSelect ops=true)(hs:zg ops m n=true)(hc:Region.chainB .any ops n=true):∀l k listed a,(∀j,j<l.length->l[j]? =ops[k+j]?)->k+l.length=n->HeadInv .any ops n listed->yS m listed->Region.lexHead .any ops g l.length k listed=true->wpStill P ops w Lq l a->wpAnyL P .any ops w n (λVu a'=>Region.seqB .any ops g n Vu=true/\Lq a') l.length listed a:=by
 intro l;induction l with
 |nil=>
 intro k listed a _ hk _ _ hB h;obtain rfl:k=n:=by simpa using hk
 exact⟨by simpa[Region.lexHead]using hB,h⟩|cons o l ih=>
 intro k listed a hl hk inv Lo hB h;have h0:ops[k]? =some o:=(hl 0 ζ).symm.trans rfl |>.symm▸rfl;simp only[aq,Region.lexHead,Bool.and_eq_true]at hB;have hkn:k<n:=by rw[aq]at hk;omega
 have hr:k∈Region.ready .any ops listed:=by simpa using hB.1.1
 obtain⟨v,hy,hK⟩:=yieldsAt_of_stOp (K:=wpStill P ops w Lq l) h0 (by unfold stOp;rw[h0];exact h);refine first h0 sn hs hc hkn (λVu a' hL=>seqB_ready hL.1) l.length listed a inv Lo (Region.free_spec h0 hB.1.2) hr hy ?_
 refine ih (k+1) _ _ (λj hj=>?_) (by rw[aq]at hk;omega) (inv.set hr hkn) Lo.set hB.2 hK;exact t0128
end
def BR(ops:Array Oper):Nat->Nat->Array Bool->Bool
 |0,_,_=>true|f+1,k,listed=>(Region.ready .any ops listed).contains k&&Region.free .any ops listed k&&BR ops f (k+1) (listed.setIfInBounds k true)
def mover(o:Oper):Bool:=match o.op,o.guard with
 |.move _,none=>true
 |_,_=>false
def rQ(a:Act)(o:Oper):Act:=match o.op with
 |.move x=>a.put o.dst (a.eval x)
 |_=>a
def marks:Nat->Nat->Array Bool->Array Bool
 |0,_,listed=>listed|f+1,k,listed=>marks f (k+1) (listed.setIfInBounds k true)
def float{P ops Q}(sn:Region.noSelect ops=true)(hQ:∀c (a:Act) d v w,Q (.panic c) (a.put d v) w->Q (.panic c) a w) fuel w:∀(l:List Oper)(k)(listed)(a),(∀j,j<l.length->l[j]? =ops[k+j]?)->l.all mover=true->BR ops l.length k listed=true->wpAny P .any ops Q fuel (marks l.length k listed) (l.foldl rQ a) w->wpAny P .any ops Q (fuel+l.length) listed a w:=by
 intro l;induction l with
 |nil=>intro k listed a _ _ _ h;exact h|cons o l ih=>
 intro k listed a hl hm hB h;have h0:ops[k]? =some o:=(hl 0 ζ).symm.trans rfl |>.symm▸rfl;simp only[aq,BR,Bool.and_eq_true]at hB;simp only[bV,Bool.and_eq_true]at hm;have hy:∃v,Yields P ops o v a/\rQ a o=a.put o.dst v:=by have Qk:=hm.1;unfold mover at Qk;split at Qk;rename_i x ho hg;refine⟨a.eval x,.inl ⟨by simp[Region.wanted,hg],λw=>?_⟩,by unfold rQ;rw[ho]⟩;simp[execOp,ho,fj];cases Qk
 obtain⟨v,hy,hv⟩:=hy;refine wpAny_take (fuel:=fuel+l.length) h0 sn hB.1.2 hB.1.1 (λc a w hq=>hQ c _ _ _ w hq) hy ?_;refine ih (k+1) _ _ (λj hj=>?_) hm.2 hB.2 ?_;exact t0128;rw[<-hv];exact h
def aaX(ops:Array Oper)(m n:Nat):Bool:=Region.noSelect ops&&decide (m<=n)&&decide (n<ops.size)&&zg ops m n&&Region.chainB .any ops n&&BR ops m 0 (Array.replicate ops.size false)&&Region.lexHead .any ops (ops.size-n) (n-m) m (marks m 0 (Array.replicate ops.size false))
theorem JG:∀f k listed j,(marks f k listed).size=listed.size/\(∀d,(marks f k listed).getD j d=if k<=j/\j<k+f/\j<listed.size then true else listed.getD j d)
 |0,k,listed,j=>⟨rfl,λd=>by rw[if_neg ω];rfl⟩|f+1,k,listed,j=>by obtain⟨h1,h2⟩:=JG f (k+1) (listed.setIfInBounds k true) j;refine⟨by rw[marks,h1];simp,λd=>?_⟩;rw[marks,h2 d];by_cases hkj:k=j;subst hkj;rw[if_neg ω];by_cases hs:k<listed.size;rw[if_pos ⟨ν,by omega,hs⟩];simp[aN,hs];rw[if_neg ω];simp[aN,hs];rw[getD_set_ne d hkj];by_cases hc:k+1<=j/\j<k+1+f/\j< (listed.setIfInBounds k true).size;rw[if_pos hc,if_pos];simp at hc;omega;rw[if_neg hc,if_neg];simp at hc;omega
def Y7{ops n}:∀f k listed,k+f<=n->BR ops f k listed=true->HeadInv .any ops n listed->HeadInv .any ops n (marks f k listed):=by intro f;induction f with|zero=>intro k listed _ _ h;exact h|succ f ih=>intro k listed hk hB h;simp only[BR,Bool.and_eq_true]at hB;exact ih (k+1) _ ω hB.2 (h.set (by simpa using hB.1.1) ω)
def MK{P id Q a w}{l:List Oper} m n(hm:P.follows .mixedOrders=true)(hB:aaX l.toArray m n=true) (hmv:(l.take m).all mover=true) (hp:((l.take n).drop m).all (λo=>plain o.op)=true) (hQ:∀c (a:Act) d v w,Q (.panic c) (a.put d v) w->Q (.panic c) a w) (h:wpQuiet P l.toArray (λw'=>∃k,w'=w.drewN k) (λa'=>wpList P l.toArray Q (l.drop n) a' w.drew) ((l.take n).drop m) ((l.take m).foldl rQ a)):(Code.region id l.toArray true).wp P Q a w:=by
 simp only[aaX,Bool.and_eq_true,decide_eq_true_eq]at hB;obtain⟨⟨⟨⟨⟨⟨sn,hmn⟩,hn⟩,hs⟩,hc⟩,Lo⟩,avd⟩:=hB;have hn':n<l.length:=by simpa using hn
 have Qg:(l.take m).length=m:=aFJ;have hdm:((l.take n).drop m).length=n-m:=aFJ;have hdl:(l.drop n).length=l.toArray.size-n:=ζ;have auf:HeadInv .any l.toArray n (Array.replicate l.toArray.size false):=⟨by simp,λj oj _ hl=>(by rw[getD_replicate_false]at hl;cases hl),λt _ ht=>getD_in (by simpa using ht) (getD_replicate_false _ _)⟩;have inv1:=Y7 m 0 _ ω Lo auf;have fl1:yS m (marks m 0 (Array.replicate l.toArray.size false)):=λi hi=>by rw[(JG m 0 _ i).2 true,if_pos ⟨by omega,by omega,by simp;omega⟩]
 have ig:=lz (w:=w.drew) (C:=λw'=>∃k,w'=w.drewN k) ⟨1,rfl⟩ _ _ hp h;have H:=lex (P:=P) (ops:=l.toArray) (w:=w.drew) (g:=l.toArray.size-n) sn hs hc ((l.take n).drop m) m _ ((l.take m).foldl rQ a) (λj hj=>by rw[hdm]at hj;rw[cM,aM ω];simp) (by rw[hdm];omega) inv1 fl1 (by rw[hdm];exact avd) ig;refine wp_region_any hm ?_;have H2:=wpAny_of_head (Q':=Q) (g:=l.toArray.size-n) (λlisted a' hL=>by have:=wpAny_of_seq (md:=.any) (Q':=Q) (l.drop n) n listed a' w.drew (λj=>by simp[cM]) (by rw[hdl];exact hL.1) hL.2;rwa[hdl]at this) _ _ _ H;rw[hdm]at H2;have H3:=float (P:=P) (ops:=l.toArray) (Q:=Q) sn hQ (n-m+(l.toArray.size-n)) w.drew (l.take m) 0 (Array.replicate l.toArray.size false) a (λj hj=>by rw[Qg]at hj;rw[aM hj];simp) hmv (by rw[Qg];exact Lo) (by rw[Qg];exact H2);rw[Qg,show n-m+(l.toArray.size-n)+m=l.toArray.size by omega]at H3;exact H3
end gI
end
def t024{p:Prop}(h:p:=by obtain⟨callee,aFI,ts⟩:=c;cases callee<;>simp only[Bool.false_eq_true]at h;rename_i b;cases b<;>simp only[Bool.false_eq_true]at h<;>(unfold execOp;simp only[ho];simp only[resolve,invoke,builtin,fh,fj,Result.andThen];intro hr;split at hr<;>simp_all)):p:=h
section
open iz
namespace gI
def Sx{P w w' s}:(s >>= λv=>pure (Next.value v):Sem Next).run P w≠.ok .skip w':=by exact t059
def vX{α P w w' s}{g:α->Sem Next}(h:∀v w1,(g v).run P w1≠.ok .skip w'):(s >>= g).run P w≠.ok .skip w':=by exact t064
def pf:Op->Bool
 |.move _|.assign _|.load _ _|.binOp _ _ _ _ _|.unOp _ _ _|.convert _ _ _|.fieldAddr _ _ _|.indexAddr _ _ _|.index _ _ _|.slice _ _ _ _ _|.build _ _|.extract _ _|.nilCheck _=>true|.call c=>match c.callee with
  |.builtin .len|.builtin .min|.builtin .max=>true
  |_=>false
 |_=>false
def Rl{P ev o w w' f args}(h:pf o.op=true):(execOp ev o).run P w≠.ok (.enter f args) w':=by
 cases ho:o.op<;>rw[ho]at h<;>simp only[pf,Bool.false_eq_true]at h;case call c=>exact t024
 case extract t i=>unfold execOp;simp only[ho];first|exact wH|exact ab4
 all_goals exact NK (by rw[ho];rfl)
def Fe{P ev o w w'}(h:pf o.op=true):(execOp ev o).run P w≠.ok .skip w':=by
 cases ho:o.op<;>rw[ho]at h<;>simp only[pf,Bool.false_eq_true]at h;case call c=>exact t024
 case nilCheck x=>
  unfold execOp;simp only[ho];intro hr;split at hr;all_goals first|(simp[runtimePanic,fh]at hr;done)|skip
  split at hr;simp[runtimePanic,fh]at hr;exact vX (λ_ _=>vX λ_ _=>by split;exact vX (λ_ _=>by simp[fj]);simp[fj]) hr;simp[fj]at hr
 all_goals (unfold execOp;simp only[ho];first|(simp[fj];done)|exact Sx)
def y7(ops:Array Oper):List Nat->Array Bool->Bool
 |[],_=>true|i::r,listed=>(Region.ready .any ops listed).contains i&&Region.free .any ops listed i&&y7 ops r (listed.setIfInBounds i true)
def yH:List Nat->Array Bool->Array Bool
 |[],listed=>listed|i::r,listed=>yH r (listed.setIfInBounds i true)
section
variable{P:Program}{ops:Array Oper}{Q:Exit->Act->World->Prop}{S:World->Prop}
def yW{o a K}(hp:pf o.op=true)(hw:Region.wanted o (yielded ops a.tmps)=true)(h:o.quiet P a S K):∃v,YieldsIf P ops S o v a/\K (a.put o.dst v):=by
 obtain⟨v,h1,h2⟩:=h;refine⟨v,.inl ⟨hw,λw hS=>?_⟩,h2⟩;have h3:=h1 w hS;unfold Oper.quietAt at h3;have iZ:=λf args w'=>Rl (P:=P) (ev:=a.eval) (o:=o) (w:=w) (w':=w') (f:=f) (args:=args) hp;have hns:=λw'=>Fe (P:=P) (ev:=a.eval) (o:=o) (w:=w) (w':=w') hp;generalize(execOp a.eval o).run P w=r at *;cases r with
 |ok n w'=>
 cases n<;>simp only[Oper.quietUpon]at h3;case value u=>obtain⟨e1,e2⟩:=h3;rw[e1,e2]
 case skip=>exact absurd rfl (hns w')
 case enter f args=>exact absurd rfl (iZ f args w')
 |halt x w'=>simp only[Oper.quietUpon]at h3
def jK(sn:Region.noSelect ops=true)(hQ:∀c (a:Act) d v w,Q (.panic c) (a.put d v) w->Q (.panic c) a w) fuel w(hS:S w):∀is os listed a,is.map (λi=>ops[i]?)=os.map some->y7 ops is listed=true->os.all (λo=>pf o.op)=true->wpQuiet P ops S (λa'=>wpAnyH P .any ops Q S fuel (yH is listed) a' w) os a->wpAnyH P .any ops Q S (fuel+is.length) listed a w:=by
 intro is;induction is with
 |nil=>
 intro os listed a hi _ _ h;have:os=[]:=by simpa using hi.symm
 subst this;exact h|cons i is ih=>
 intro os listed a hi hB hp h;cases os with
 |nil=>simp at hi|cons o os=>
 simp only[List.map_cons,List.cons.injEq]at hi;simp only[y7,Bool.and_eq_true]at hB;simp only[bV,Bool.and_eq_true]at hp;have hy:∃v,YieldsIf P ops S o v a/\wpQuiet P ops S (λa'=>wpAnyH P .any ops Q S fuel (yH is (listed.setIfInBounds i true)) a' w) os (a.put o.dst v):=by unfold wpQuiet at h;split at h;rename_i hw;exact yW hp.1 hw h;rename_i hw;exact⟨undef,.inr ⟨by simpa using hw,rfl⟩,h⟩
 obtain⟨v,hy,h2⟩:=hy;exact wpAnyH_take (fuel:=fuel+is.length) hi.1 sn hB.1.2 hB.1.1 (λc a w hq=>hQ c _ _ _ w hq) hy hS (ih os _ _ hi.2 hB.2 hp.2 h2)
structure Of(S:World->Prop) where
 w:World
 h:S w
def cls(S:World->Prop):World->Prop:=λw'=>∃u:Of S,w'=u.w
def gF{S w}(h:S w):cls S w:=⟨⟨w,h⟩,rfl⟩
def start{id a w} is os fuel(hm:P.follows .mixedOrders=true)(sn:Region.noSelect ops=true)(hl:fuel+is.length=ops.size) (hQ:∀c (a:Act) d v w,Q (.panic c) (a.put d v) w->Q (.panic c) a w) (hi:is.map (λi=>ops[i]?)=os.map some) (hB:y7 ops is (Array.replicate ops.size false)=true) (hp:os.all (λo=>pf o.op)=true) S (hS:S w.drew) (h:wpQuiet P ops (λw'=>∃u:Of S,w'=u.w) (λa'=>wpAnyH P .any ops Q (cls S) fuel (yH is (Array.replicate ops.size false)) a' w.drew) os a):(Code.region id ops true).wp P Q a w:=by
 refine wp_region_held (S:=cls S) hm ?_;rw[<-hl];have hz:(Array.replicate (fuel+is.length) false:Array Bool)=Array.replicate ops.size false:=by rw[hl]
 rw[hz];exact jK sn hQ fuel w.drew (gF hS) is os _ a hi hB hp h
def yw{l:List Oper} n(h:n<=l.length):(List.range n).map (λi=>l.toArray[i]?)=(l.take n).map some:=by apply b9;intro i;by_cases hi:i<n;simp[hi,aM hi,ag (show i<l.length by omega)];simp[hi];omega
def atW{id a w}{l:List Oper} n fuel(hm:P.follows .mixedOrders=true)(sn:Region.noSelect l.toArray=true)(hl:fuel+n=l.length) (hQ:∀c (a:Act) d v w,Q (.panic c) (a.put d v) w->Q (.panic c) a w) (hB:y7 l.toArray (List.range n) (Array.replicate l.toArray.size false)=true) (hp:(l.take n).all (λo=>pf o.op)=true) S (hS:S w.drew) (h:wpQuiet P l.toArray (λw'=>∃u:Of S,w'=u.w) (λa'=>wpAnyH P .any l.toArray Q (cls S) fuel (yH (List.range n) (Array.replicate l.toArray.size false)) a' w.drew) (l.take n) a):(Code.region id l.toArray true).wp P Q a w:=start (List.range n) (l.take n) fuel hm sn aFJ hQ (yw n ω) hB hp S hS h
theorem filter_some{l:List Oper}:∀(is:List Nat),is.all (λi=>decide (i<l.length))=true->is.map (λi=>l.toArray[i]?)=(is.filterMap λi=>l[i]?).map some
 |[],_=>rfl|i::is,h=>by simp only[bV,Bool.and_eq_true,decide_eq_true_eq]at h;have:=filter_some (l:=l) is h.2;rw[List.map_cons,this,List.filterMap_cons];have e:l[i]? =some l[i]:=ag h.1;simp[e]
def jl{id a w}{l:List Oper} is fuel(hm:P.follows .mixedOrders=true)(sn:Region.noSelect l.toArray=true)(hl:fuel+is.length=l.length)(hi:is.all (λi=>decide (i<l.length))=true) (hQ:∀c (a:Act) d v w,Q (.panic c) (a.put d v) w->Q (.panic c) a w) (hB:y7 l.toArray is (Array.replicate l.toArray.size false)=true) (hp:(is.filterMap λi=>l[i]?).all (λo=>pf o.op)=true) S (hS:S w.drew) (h:wpQuiet P l.toArray (λw'=>∃u:Of S,w'=u.w) (λa'=>wpAnyH P .any l.toArray Q (cls S) fuel (yH is (Array.replicate l.toArray.size false)) a' w.drew) (is.filterMap λi=>l[i]?) a):(Code.region id l.toArray true).wp P Q a w:=start is _ fuel hm sn aFJ hQ (filter_some is hi) hB hp S hS h
def E8{a w}{l:List Oper}{Q S n L} is fuel(hn:n=fuel+is.length)(sn:Region.noSelect l.toArray=true)(hi:is.all (λi=>decide (i<l.length))=true) (hQ:∀c (a:Act) d v w,Q (.panic c) (a.put d v) w->Q (.panic c) a w) (hB:y7 l.toArray is L=true) (hp:(is.filterMap λi=>l[i]?).all (λo=>pf o.op)=true) (hS:cls S w) (h:wpQuiet P l.toArray (λw'=>∃u:Of S,w'=u.w) (λa'=>wpAnyH P .any l.toArray Q (cls S) fuel (yH is L) a' w) (is.filterMap λi=>l[i]?) a):wpAnyH P .any l.toArray Q (cls S) n L a w:=by subst hn;exact jK sn hQ fuel w hS is _ L a (filter_some is hi) hB hp h
def next(S:World->Prop)(Q:Exit->Act->World->Prop)(K:Act->World->Prop):Exit->Act->World->Prop
 |.normal,a,w=>S w/\K a w|e,a,w=>Q e a w
def yG{i o K a w}(ho:ops[i]? =some o)(hg:o.guard=none)(h:wpList P ops (next S Q K) [o] a w):wpOp P ops Q i (λa' w'=>S w'/\K a' w') a w:=by
 unfold wpOp;simp only[ho];have hw:Region.wanted o (yielded ops a.tmps)=true:=aIH;rw[if_pos hw];unfold wpList at h;rw[if_pos hw]at h;refine h.imp (λh=>?_) (λh=>⟨h.1,h.2⟩);unfold Oper.wp at h|-;generalize(execOp a.eval o).run P w=r at h|-;cases r with
 |ok n w'=>
 cases n<;>simp only[Oper.upon]at h|-;case enter f args=>exact h.mono λe tK he=>by cases e<;>exact he
 all_goals exact h|halt x w'=>cases x<;>simp only[Oper.upon]at h|-;exact h
def one{fuel L a w} i o(hr:Region.ready .any ops L=[i])(ho:ops[i]? =some o)(hg:o.guard=none) (h:wpList P ops (next S Q (wpAnyH P .any ops Q S fuel (L.setIfInBounds i true))) [o] a w):wpAnyH P .any ops Q S (fuel+1) L a w:=wpAnyH_all hr ζ λj hj=>by obtain rfl:j=i:=aJe;exact yG ho hg h
def two{fuel L a w} i j oi oj(hr:Region.ready .any ops L=[i,j])(hi:ops[i]? =some oi)(hgi:oi.guard=none)(hj:ops[j]? =some oj)(CZ:oj.guard=none) (h1:wpList P ops (next S Q (wpAnyH P .any ops Q S fuel (L.setIfInBounds i true))) [oi] a w) (h2:wpList P ops (next S Q (wpAnyH P .any ops Q S fuel (L.setIfInBounds j true))) [oj] a w):wpAnyH P .any ops Q S (fuel+1) L a w:=wpAnyH_all hr ζ λk hk=>by
 rcases List.mem_cons.1 hk with rfl|hk;exact yG hi hgi h1;obtain rfl:k=j:=by simpa using hk
 exact yG hj CZ h2
end
end gI
end
def t046{p:Prop}(h:p:=by refine⟨h.1,?_⟩;rcases h.2 with h|⟨g,cap,cur,rfl,h1,h2,h3⟩;exact .inl h;exact .inr ⟨g,cap,cur,rfl,h1,by rw[hb.block g (ay (ae.1 h2).1 hC)];exact h2,h3⟩):p:=h
def t044{p:Prop}(h:p:=by
 have OJ:tmps[p]?.getD undef=.pointer (some ⟨g,0,none⟩):=by simpa using hp
 have JP:tmps[u]?.getD undef=v:=by simpa using hu
 unfold results;rw[h];simp[asAddr,OJ,JP,h2]):p:=h
def t07{p:Prop}(h:p:=by unfold Oper.quietAt execOp;simp only[ho,hx,fh,this,fi,fj,Oper.quietUpon];first|trivial|exact⟨trivial,trivial⟩|exact⟨rfl,rfl⟩|exact⟨rfl,hw⟩):p:=h
section
open Go.RowKit iz
theorem Gi{α β f}{g:α->β}:∀(l:List α),(∀x∈l,f x=some (g x))->l.mapM f=some (l.map g)
 |[],_=>rfl|x::l,h=>by rw[dE,h x aH,Gi l λy hy=>h y (aF _ hy)];rfl
def Ev:prog.cellsOf 76=32:=κ
def Wh:prog.cellsOf 5=1:=κ
def aud x:(Lit.int .u8 (Y x)).wf=true:=by have:=Mf x;simp[Lit.wf,IntKind.min,IntKind.max,IntKind.signed,IntKind.bits];omega
def ZG a i(h:i<a.length):((w8 a).drop (i*1)).take 1=[Value.int .u8 (Y (nth a i))]:=by
 have hi:i< (w8 a).length:=by rw[ir];exact h
 rw[bS,bo hi];have:=pO a i h;rw[ag hi]at this;rw[aA this];rfl
def lits(a:List UInt8):List Lit:=a.map λx=>Lit.int .u8 (Y x)
def acd{a b}(h:lits a=lits b):a=b:=(List.map_inj_right λx y he=>aem aHB).1 h
def SE a:((List.range a.length).map λi=>[Lit.int .u8 (Y (nth a i))]).flatten=lits a:=by
 have e:((List.range a.length).map λi=>[Lit.int .u8 (Y (nth a i))]).flatten=(List.range a.length).map λi=>Lit.int .u8 (Y (nth a i)):=by generalize List.range a.length=l;induction l with|nil=>rfl|cons x l ih=>rw[List.map_cons,dG,ih];rfl
 rw[e];unfold lits;apply List.ext_getElem;simp;intro i h1 h2;have hi:i<a.length:=by simpa using h2
 simp[nth,hi]
def yI d a(h:a.length=32):prog.keyLits (d+2) 76 (w8 a)=some (lits a):=by
 unfold Program.keyLits;simp only[fA,Ev,ir,h,if_true,Wh];have h2:(List.range 32).mapM (λi=>prog.keyLits (d+1) 5 (((w8 a).drop (i*1)).take 1))=some ((List.range 32).map λi=>[Lit.int .u8 (Y (nth a i))]):=by
  refine Gi _ λi hi=>?_;have Qn:i<a.length:=by rw[h];simpa using hi
  rw[ZG a i Qn];unfold Program.keyLits;simp only[fu,aud,true_and,if_true]
 rw[h2,<-h];simp only[Option.map_some,SE]
def BQ a(h:a.length=32):(Value.agg (w8 a).toArray).formed prog 76=true:=by simp[Value.formed,fA,Ev,ir,h]
def al2 a b(ha:a.length=32)(hb:b.length=32) w:(binOp .eql 76 (.agg (w8 a).toArray) (.agg (w8 b).toArray)).run prog w=.ok (.bool (a==b)) w:=by
 rw[run_eql_struct];obtain⟨r,h1,h2⟩:=run_equalIn_deep (P:=prog) 9998 2 76 κ w 2 2 (.agg (w8 a).toArray) (.agg (w8 b).toArray) (lits a) (lits b) (BQ a ha) (BQ b hb) (yI 0 a ha) (yI 0 b hb);have e:r=(a==b):=by rw[cQ,h2,beq_iff_eq];exact⟨acd,λh=>by rw[h]⟩
 rw[h1,e];rfl
def aib(w:World)(b:Nat)(ds:List (List UInt8)):Prop:=∀i,i<ds.length->w.rangeAt b (32*i) (w8 (ds.getD i []))
def p9(ds:List (List UInt8)):Prop:=∀d∈ds,d.length=32
def p9.get{ds}(h:p9 ds) i(hi:i<ds.length):(ds.getD i []).length=32:=by rw[ab,ag hi];exact h _ (bq hi)
def rangeAt_of_block{w w':World}{b o cs}(h:w.rangeAt b o cs)(hb:w'.heap[b]? =w.heap[b]?):w'.rangeAt b o cs:=λj v hv=>by rw[<-h j v hv];exact fb (w:=w) hb
def aib.below{B b ds w w'}(h:aib w b ds)(hb:Below B w w')(hB:b<B):aib w' b ds:=λi hi=>rangeAt_of_block (h i hi) (hb.block b hB)
theorem Db:∀ds,p9 ds->ds.flatten.length=32*ds.length
 |[],_=>rfl|d::ds,h=>by rw[dG,ai,Db ds λx hx=>h x (aF _ hx),h d aH,aq];omega
theorem flat_get:∀ds i j,p9 ds->i<ds.length->j<32->nth ds.flatten (32*i+j)=nth (ds.getD i []) j
 |[],i,j,_,hi,_=>by simp at hi|d::ds,0,j,h,hi,hj=>by have hd:=h d aH;rw[dG,show 32*0+j=j by omega,uI _ _ _ ω];rfl|d::ds,i+1,j,h,hi,hj=>by have hd:=h d aH;rw[dG,s9 _ _ _ ω,show 32*(i+1)+j-d.length=32*i+j by omega,flat_get ds i j (λx hx=>h x (aF _ hx)) aGd hj];rfl
def abL{w B n e v ds}(h:w.ownsRow B e 32 v n (w8 ds.flatten))(hn:0<n)(hl:n=ds.length)(IS:p9 ds):∃g cap,v=.slice (some ⟨g,0,none⟩) n cap/\B<=g/\g<w.heap.size/\aib w g ds:=by
 obtain⟨_,⟨_,h0⟩|⟨g,cap,cur,rfl,hb,hg,_,_,_,ht⟩⟩:=h;omega;refine⟨g,cap,rfl,hb,(ae.1 hg).1,λi hi j v hv=>?_⟩;have hj:j<32:=by have:=(aB.1 hv).1;rwa[ir,IS.get i hi]at this
 have gV:32*i+j<n*32:=ω;have e1:(w8 ds.flatten)[32*i+j]? =some v:=by rw[pO _ _ (by rw[Db ds IS];omega),flat_get ds i j IS hi hj,<-pO _ _ (by rw[IS.get i hi];exact hj)];exact hv
 rw[<-ht,aM gV]at e1;simpa[World.cell?,hg]using e1
def Zv ds d:w8 ds.flatten++w8 d=w8 (ds++[d]).flatten:=by simp[w8]
def uB{ds d}(h:p9 ds)(hd:d.length=32):p9 (ds++[d]):=λx hx=>by rcases bx.1 hx with hx|hx;exact h x hx;rw[cn.1 hx];exact hd
def QV:(prog.info? 76).map (·.size)=some 32:=κ
def agR:(prog.info? 76).map (λi=>(i.zero,i.size,i.bytes))=some (some (.agg (w8 (List.replicate 32 0)).toArray),32,32):=κ
def agI{ops rest o a w Q}(pn:o.guard=none) x(ho:o.op=.load 76 x) g off l (hl:l.length=32) (hx:a.eval x=.pointer (some ⟨g,off,none⟩)) (hr:w.rangeAt g off (w8 l)) (h:wpList prog ops Q rest (a.put o.dst (.agg (w8 l).toArray)) w):wpList prog ops Q (o::rest) a w:=wpList_load_mid pn _ x ho g off hx (w8 l) _ hr fA rfl (by rw[QV,ir,hl]) h
def Cq w g off l(hl:l.length=32)(hr:w.rangeAt g off (w8 l)):(Instr.loadAt 76 (.pointer (some ⟨g,off,none⟩))).run prog w=.ok (.agg (w8 l).toArray) w:=fV w g off _ (w8 l) _ hr fA rfl (by rw[QV,ir,hl])
def oe{ops rest o a C Q}(pn:o.guard=none) x(ho:o.op=.load 76 x) g off l (hl:l.length=32) (hx:a.eval x=.pointer (some ⟨g,off,none⟩)) (hr:∀w,C w->w.rangeAt g off (w8 l)) (h:wpQuiet prog ops C Q rest (a.put o.dst (.agg (w8 l).toArray))):wpQuiet prog ops C Q (o::rest) a:=by unfold wpQuiet;rw[if_pos aGQ];refine⟨_,λw hw=>?_,h⟩;have:=Cq w g off l hl (hr w hw);exact t07
def Kx w:(Instr.alloc 76 true (.tuple #[])).run prog w=.ok (.pointer (some ⟨w.heap.size,0,none⟩)) (w.alloc (.cells (w8 (List.replicate 32 0)).toArray 76)):=κ
section
variable{ops:Array Oper}{Q:Exit->Act->World->Prop}{S:World->Prop}
def wQ{a w o}(ho:o.op=.alloc 76)(hg:o.guard=none) K (hS:S (w.alloc (.cells (w8 (List.replicate 32 0)).toArray 76))) (h:K (a.put o.dst (.pointer (some ⟨w.heap.size,0,none⟩))) (w.alloc (.cells (w8 (List.replicate 32 0)).toArray 76))):wpList prog ops (gI.next S Q K) [o] a w:=by refine qV hg (v:=.pointer (some ⟨w.heap.size,0,none⟩)) (w':=w.alloc (.cells (w8 (List.replicate 32 0)).toArray 76)) ?_ ⟨hS,h⟩;unfold execOp;simp only[ho,fh,Kx];rfl
def news{L a w} i j s t x y u v oi oj os ot(hr0:Region.ready .any ops L=[i,j])(Mo:Region.ready .any ops (L.setIfInBounds i true)=[j])(qX:Region.ready .any ops (L.setIfInBounds j true)=[i]) (Qi:Region.ready .any ops ((L.setIfInBounds i true).setIfInBounds j true)=[s]) (hr4:Region.ready .any ops (((L.setIfInBounds i true).setIfInBounds j true).setIfInBounds s true)=[t]) (hr5:Region.ready .any ops ((((L.setIfInBounds i true).setIfInBounds j true).setIfInBounds s true).setIfInBounds t true)=[]) (hi:ops[i]? =some oi) (hj:ops[j]? =some oj) (hs:ops[s]? =some os) (ht:ops[t]? =some ot) (gi:oi.guard=none) (gj:oj.guard=none) (gs:os.guard=none) (gt:ot.guard=none) (qi:oi.op=.alloc 76) (qj:oj.op=.alloc 76) (qs:os.op=.store 76 (.tmp x) u) (qt:ot.op=.store 76 (.tmp y) v) (di:oi.dst=some x) (dj:oj.dst=some y) (ds:os.dst=none) (dt:ot.dst=none) (qG:i≠j) (Mm:x≠y) (hx:x<a.tmps.size) (hy:y<a.tmps.size) A B (lA:A.length=32) (lB:B.length=32) (hu:∀p q,((a.put (some x) p).put (some y) q).eval u=.agg (w8 A).toArray) (hv:∀p q,((a.put (some x) p).put (some y) q).eval v=.agg (w8 B).toArray) (hS:∀w',Below w.heap.size w w'->S w') (h:∀b6 b7 w',w.heap.size<=b6->w.heap.size<=b7->b6≠b7->Row w' b6 (w8 A)->Row w' b7 (w8 B)->Below w.heap.size w w'->Q .normal ((a.put (some x) (.pointer (some ⟨b6,0,none⟩))).put (some y) (.pointer (some ⟨b7,0,none⟩))) w'):wpAnyH prog .any ops Q S 4 L a w:=by
 have fin:∀b6 b7 w',w.heap.size<=b6->w.heap.size<=b7->b6≠b7->Row w' b6 (w8 (List.replicate 32 0))->Row w' b7 (w8 (List.replicate 32 0))->Below w.heap.size w w'->wpAnyH prog .any ops Q S 2 ((L.setIfInBounds i true).setIfInBounds j true) ((a.put (some x) (.pointer (some ⟨b6,0,none⟩))).put (some y) (.pointer (some ⟨b7,0,none⟩))) w':=by
  intro b6 b7 w' h6 h7 iZ r6 r7 hB;have ex:((a.put (some x) (.pointer (some ⟨b6,0,none⟩))).put (some y) (.pointer (some ⟨b7,0,none⟩))).eval (.tmp x)=.pointer (some ⟨b6,0,none⟩):=by rw[oS _ _ _ _ (aG Mm),om _ _ _ hx]
  have ey:((a.put (some x) (.pointer (some ⟨b6,0,none⟩))).put (some y) (.pointer (some ⟨b7,0,none⟩))).eval (.tmp y)=.pointer (some ⟨b7,0,none⟩):=by rw[om _ _ _ (by rw[qO];exact hy)]
  have Ie:=below_setRow hB h6 (w8 A).toArray;have pW:=below_setRow Ie h7 (w8 B).toArray;have r7':=r7.gX (aG iZ) (w8 A).toArray;have r6':=(r6.setRow (w8 A)).gX iZ (w8 B).toArray;have at1:=r7'.setRow (w8 B);refine gI.one s os Qi hs gs ?_;refine ng gs _ _ qs b6 (List.replicate 32 0) A ζ lA ex (hu _ _) r6 ?_;rw[ds];refine⟨hS _ Ie,?_⟩;refine gI.one t ot hr4 ht gt ?_;refine ng gt _ _ qt b7 (List.replicate 32 0) B ζ lB ey (hv _ _) r7' ?_;rw[dt];exact⟨hS _ pW,fg hr5 (h b6 b7 _ h6 h7 iZ r6' at1 pW) 0⟩
 have m0:=(Below.refl w.heap.size w).alloc ν (.cells (w8 (List.replicate 32 0)).toArray 76);have mC:(w.alloc (.cells (w8 (List.replicate 32 0)).toArray 76)).heap.size=w.heap.size+1:=ζ;have kD:=m0.alloc ω (.cells (w8 (List.replicate 32 0)).toArray 76);have n1:=Row.new w (w8 (List.replicate 32 0)) 76;have n2:=Row.new (w.alloc (.cells (w8 (List.replicate 32 0)).toArray 76)) (w8 (List.replicate 32 0)) 76;have n1':=n1.alloc (.cells (w8 (List.replicate 32 0)).toArray 76);rw[mC]at n2;refine gI.two i j oi oj hr0 hi gi hj gj ?_ ?_;refine wQ qi gi _ (hS _ m0) ?_;refine gI.one j oj Mo hj gj ?_;refine wQ qj gj _ (hS _ kD) ?_;rw[di,dj,mC];exact fin w.heap.size (w.heap.size+1) _ ν ω ω n1' n2 kD;refine wQ qj gj _ (hS _ m0) ?_;refine gI.one i oi qX hi gi ?_;refine wQ qi gi _ (hS _ kD) ?_;rw[di,dj,mC,Array.setIfInBounds_comm _ _ (aG qG),Act.put_comm _ _ _ (λd e1 e2=>Mm (by rw[aA e1]at *;exact(aA e2).symm▸rfl))];exact fin (w.heap.size+1) w.heap.size _ ω ν ω n2 n1' kD
end
def JK{P w a o rest ops Q w'}(hw:Region.wanted o (yielded ops a.tmps)=true){v}(hr:(execOp a.eval o).run P w=.ok (.value v) w')(h:wpList P ops Q rest (a.put o.dst v) w'):wpList P ops Q (o::rest) a w:=by unfold wpList;rw[if_pos hw];left;unfold Oper.wp;rw[hr];exact h
def aoF{ops rest o a w Q}(hw:Region.wanted o (yielded ops a.tmps)=true) x(ho:o.op=.load 76 x) g l (hl:l.length=32) (hx:a.eval x=.pointer (some ⟨g,0,none⟩)) (hr:Row w g (w8 l)) (h:wpList prog ops Q rest (a.put o.dst (.agg (w8 l).toArray)) w):wpList prog ops Q (o::rest) a w:=by refine JK hw ?_ h;have:=Cq w g 0 l hl aF4;unfold execOp;simp only[ho,hx,fh,this,fi,fj]
def atf{ops rest o a w Q}(hw:Region.wanted o (yielded ops a.tmps)=true) x y t(ho:o.op=.binOp .eql 76 x y t) A B (lA:A.length=32) (lB:B.length=32) (hx:a.eval x=.agg (w8 A).toArray) (hy:a.eval y=.agg (w8 B).toArray) r (hr:(A==B)=r) (h:wpList prog ops Q rest (a.put o.dst (.bool r)) w):wpList prog ops Q (o::rest) a w:=by subst hr;refine JK hw ?_ h;have h1:=al2 A B lA lB w;have h2:=run_eqGuard_agg (P:=prog) w .eql 76 x y (w8 A).toArray (w8 B).toArray κ;unfold execOp;simp only[ho,hx,hy,fh,h1,h2,fi,fj]
def gM{w w' B C e z v n xs}(h:w.ownsRow B e z v n xs)(hb:Below C w w')(hC:w.heap.size<=C):w'.ownsRow B e z v n xs:=by exact t046
def ath w g l(hl:l.length=32)(hr:Row w g (w8 l)) n:(convert 35 9 (.slice (some ⟨g,0,none⟩) 32 32)).run prog (w.drewN n)=.ok (.string (str l)) (w.drewN n):=by have:=oZ (P:=prog) (w.drewN n) 35 9 5 g 0 32 l fq fu fp (hr.drewN n).bytes;rw[hl]at this;exact this
def Kw w a0 a1 a2 a3 a4 a5 a6 a7 a8 a9 Me Md a12 Mc Mb Ma L9 L7 L6 L5 a20 a21 LZ LY a24 LX LW LV a28 LU LS a31:(Instr.buildSlice 110 1 #[(0,.agg (w8 [a0,a1,a2,a3,a4,a5,a6,a7,a8,a9,Me,Md,a12,Mc,Mb,Ma,L9,L7,L6,L5,a20,a21,LZ,LY,a24,LX,LW,LV,a28,LU,LS,a31]).toArray)]).run prog w=.ok (.slice (some ⟨w.heap.size,0,none⟩) 1 1) (w.alloc (.cells (w8 [a0,a1,a2,a3,a4,a5,a6,a7,a8,a9,Me,Md,a12,Mc,Mb,Ma,L9,L7,L6,L5,a20,a21,LZ,LY,a24,LX,LW,LV,a28,LU,LS,a31]).toArray 76)):=κ
def Kv w l(hl:l.length=32):(Instr.buildSlice 110 1 #[(0,.agg (w8 l).toArray)]).run prog w=.ok (.slice (some ⟨w.heap.size,0,none⟩) 1 1) (w.alloc (.cells (w8 l).toArray 76)):=
 match l,hl with
 |[a0,a1,a2,a3,a4,a5,a6,a7,a8,a9,Me,Md,a12,Mc,Mb,Ma,L9,L7,L6,L5,a20,a21,LZ,LY,a24,LX,LW,LV,a28,LU,LS,a31],_=>Kw w a0 a1 a2 a3 a4 a5 a6 a7 a8 a9 Me Md a12 Mc Mb Ma L9 L7 L6 L5 a20 a21 LZ LY a24 LX LW LV a28 LU LS a31
def ZK{ops rest o a w Q}(pn:o.guard=none) x(ho:o.op=.buildSlice 110 1 #[(0,x)]) l (hl:l.length=32) (hx:a.eval x=.agg (w8 l).toArray) (h:wpList prog ops Q rest (a.put o.dst (.slice (some ⟨w.heap.size,0,none⟩) 1 1)) (w.alloc (.cells (w8 l).toArray 76))):wpList prog ops Q (o::rest) a w:=by refine qV pn ?_ h;have:=Kv w l hl;unfold execOp;simp only[ho,bN,List.map_cons,bP,hx,fh,this,fi,fj]
def aix{fn p u}(h:fn.results=#[.cell p 76,.tmp u]) tmps w g l(hl:l.length=32) v (hp:tmps.getD p undef=.pointer (some ⟨g,0,none⟩)) (hu:tmps.getD u undef=v) (hr:Row w g (w8 l)):(results fn tmps).run prog w=.ok (.tuple #[.agg (w8 l).toArray,v]) w:=by have h2:(loadVar 76 ⟨g,0,none⟩).run prog w=.ok (.agg (w8 l).toArray) w:=run_loadVar_mid w g 0 _ (w8 l) _ aF4 fA rfl (by rw[QV,ir,hl]);exact t044
def zi:Value->Nat
 |.slice _ n _=>n|_=>0
def bOf:Value->Bool
 |.bool b=>b|_=>false
end
section
open iz
namespace iE
def lu:List UInt8->Nat
 |[]=>0|b::t=>lu t*256+b.toNat
def le(l:List UInt8):UInt64:=UInt64.ofNat (lu l)
def aci l b:lu (l++[b])=2^ (8*l.length)*b.toNat+lu l:=by induction l with|nil=>simp[lu]|cons x l ih=>simp only[aU,lu,ih,aq];rw[show 8*(l.length+1)=8*l.length+8 by omega,eZ];generalize 2^ (8*l.length)=p;rw[cJ,bU p b.toNat 256,bU p 256 b.toNat,br b.toNat 256];omega
def um l:lu l<2^ (8*l.length):=by induction l with|nil=>simp[lu]|cons x l ih=>simp only[lu,aq];rw[show 8*(l.length+1)=8*l.length+8 by omega,eZ];have:=x.toNat_lt;generalize 2^ (8*l.length)=p at *;omega
def Vv l b(h:l.length<8):le (l++[b])=le l ||| shl b.toUInt64 (8*l.length):=by have h1:=um l;have h2:=um (l++[b]);have h3:2^ (8*l.length)<=2^64:=bG ψ ω;have h4:2^ (8*(l++[b]).length)<=2^64:=bG ψ aFJ;apply dk.1;unfold le shl;rw[aci]at *;rw[UInt64.toNat_or,aT,aT,aT,en];rw[br b.toNat];rw[bp (ay h2 h4),bp (ay h1 h3),bp ω,Nat.or_comm];exact Nat.two_pow_add_eq_or_of_lt h1 _
def agL b l:le (b::l)=le l*lO 256+b.toUInt64:=by apply dk.1;rw[UInt64.toNat_add,UInt64.toNat_mul];have e:lu (b::l)=lu l*256+b.toNat:=rfl;unfold le;rw[e,aT,aT,en,show(lO 256).toNat=256 from rfl];generalize lu l=x;generalize b.toNat=y;omega
def AJ l k(h:k<l.length):l.take (k+1)=l.take k++[nth l k]:=by rw[ax h];unfold nth;rw[ab,ag h];rfl
def drop_cons l k(h:k<l.length):l.drop k=nth l k::l.drop (k+1):=by rw[bo h];unfold nth;rw[ab,ag h];rfl
def zI l k(h:k<l.length)(h8:k<8):le (l.take (k+1))=le (l.take k) ||| shl (nth l k).toUInt64 (8*k):=by have e:(l.take k).length=k:=aF1;rw[AJ l k h,Vv _ _ ω,e]
def agK l k(h:k<l.length):le (l.drop k)=le (l.drop (k+1))*lO 256+(nth l k).toUInt64:=by rw[drop_cons l k h,agL]
structure St where
 (a b c d:UInt64)
def round(s:St):St:=
 let a:=s.a+s.b;let b:=rotl s.b 13 ^^^ a;let a:=rotl a 32;let c:=s.c+s.d;let d:=rotl s.d 16 ^^^ c;let a:=a+d;let d:=rotl d 21 ^^^ a;let c:=c+b;let b:=rotl b 17 ^^^ c;let c:=rotl c 32
 ⟨a,b,c,d⟩
def round_eq{A B C D a1 c1 b1 d1 a2 c2 a3 b2 d2}(h1:A+B=a1)(h2:C+D=c1)(h3:rotl B 13 ^^^ a1=b1)(h4:rotl D 16 ^^^ c1=d1)(h5:rotl a1 32=a2) (h6:c1+b1=c2) (h7:a2+d1=a3) (h8:rotl b1 17 ^^^ c2=b2) (h9:rotl d1 21 ^^^ a3=d2):round ⟨A,B,C,D⟩=⟨a3,b2,rotl c2 32,d2⟩:=by subst h1 h2 h3 h4 h5 h6 h7 h8 h9;rfl
def rounds:Nat->St->St
 |0,s=>s|n+1,s=>round (rounds n s)
def word(s:St)(m:UInt64):St:=
 let t:=rounds 2 ⟨s.a,s.b,s.c,s.d ^^^ m⟩
 ⟨t.a ^^^ m,t.b,t.c,t.d⟩
def words:Nat->St->List UInt8->St
 |0,s,_=>s|n+1,s,l=>word (words n s l) (le ((l.drop (8*n)).take 8))
def start(k l:UInt64):St:=⟨k ^^^ lO 8317987319222330741,l ^^^ lO 7237128888997146477,k ^^^ lO 7816392313619706465,l ^^^ lO 8387220255154660723⟩
def last(s:St):UInt64:=
 let t:=rounds 4 ⟨s.a,s.b,s.c ^^^ lO 255,s.d⟩
 t.a ^^^ t.b ^^^ t.c ^^^ t.d
def tail(n:Nat)(l:List UInt8):UInt64:=shl (UInt64.ofNat n) 56 ||| le l
def UN(k l:UInt64)(s:List UInt8):UInt64:=last (word (words (s.length/8) (start k l) s) (tail s.length (s.drop (8*(s.length/8)))))
def pad(s:List UInt8):List UInt8:=s++List.replicate (7-s.length % 8) 0++[UInt8.ofNat s.length]
def BH l k:lu (l++List.replicate k 0)=lu l:=by
 induction l with
 |nil=>
  induction k with
  |zero=>rfl|succ k ih=>
  have ih':lu (List.replicate k 0)=0:=by simpa[lu]using ih
  simp[dO,lu,ih']
 |cons x l ih=>simp[lu,ih]
def le_tail l n(h:l.length<8):le (l++List.replicate (7-l.length) 0++[UInt8.ofNat n])=tail n l:=by
 have e:(l++List.replicate (7-l.length) 0).length=7:=aFJ;rw[Vv _ _ (by rw[e];decide),e];unfold tail;rw[UInt64.or_comm];have e1:le (l++List.replicate (7-l.length) 0)=le l:=by unfold le;rw[BH]
 have e2:shl (UInt8.ofNat n).toUInt64 (8*7)=shl (UInt64.ofNat n) 56:=by apply dk.1;unfold shl;rw[aT,aT,en,cK,aT];have e3:(8*7:Nat)=56:=rfl;rw[e3];omega
 rw[e1,e2]
def Kj n st l m(h:8*n<=l.length):words n st (l++m)=words n st l:=by induction n with|zero=>rfl|succ n ih=>rw[words,words,ih ω,cX ω,List.take_append_of_le_length aGB]
def af4 k l s:last (words ((pad s).length/8) (start k l) (pad s))=UN k l s:=by
 have hl:(pad s).length=8*(s.length/8+1):=by simp[pad];omega
 rw[hl,Nat.mul_div_cancel_left _ ψ,words];unfold UN;have h1:words (s.length/8) (start k l) (pad s)=words (s.length/8) (start k l) s:=by unfold pad;rw[aL];exact Kj _ _ _ _ ω
 have h2:((pad s).drop (8*(s.length/8))).take 8=s.drop (8*(s.length/8))++List.replicate (7-(s.drop (8*(s.length/8))).length) 0++[UInt8.ofNat s.length]:=by unfold pad;rw[aL,cX ω,au aFJ,<-aL];congr 3;simp;omega
 rw[h1,h2,le_tail _ _ aFJ]
end iE
end
def t045{p:Prop}(h:p:=by exact⟨λe=>by have:=congrArg List.length e;simp[JP,jx]at this,λe=>by omega⟩):p:=h
def t037{p:Prop}(h:p:=by rw[if_pos h];exact⟨λe=>by have:=congrArg List.length e;simp[JP]at this,λe=>by omega⟩):p:=h
def t036{p:Prop}(h:p:=by rcases h3 with h|h|h;exact .inl (cg.1 h);exact .inr (.inl (cg.1 h));exact .inr (.inr (cg.1 h))):p:=h
section
open iz
namespace Wr
inductive R(α:Type) where
 |ok (a:α) (r:List UInt8)
 |bad (e:Nat)
namespace R
variable{α β γ:Type}
def bind(x:R α)(f:α->List UInt8->R β):R β:=match x with
 |.ok a r=>f a r
 |.bad e=>.bad e
def map(f:α->β)(x:R α):R β:=match x with
 |.ok a r=>.ok (f a) r
 |.bad e=>.bad e
def void(x:R α):R Unit:=match x with
 |.ok _ r=>.ok () r
 |.bad e=>.bad e
def Cf(x:R α) f(g:β->List UInt8->R γ):(x.bind f).bind g=x.bind λa r=>(f a r).bind g:=by cases x<;>rfl
def jq a r(f:α->List UInt8->R β):(R.ok a r).bind f=f a r:=rfl
def map_bind(x:R α)(f:α->β):x.map f=x.bind λa r=>.ok (f a) r:=by cases x<;>rfl
end R
def take(n:Nat)(l:List UInt8):R (List UInt8):=if l.length<n then .bad 1 else .ok (l.take n) (l.drop n)
def more(b:UInt8):Nat:=if b=253 then 2 else if b=254 then 4 else 8
def least(b:UInt8):Nat:=if b=253 then 253 else if b=254 then 65536 else 4294967296
def rest(b:UInt8)(r:List UInt8):R Nat:=(take (more b) r).bind λu r'=>if iE.lu u<least b then .bad 2 else .ok (iE.lu u) r'
def size(l:List UInt8):R Nat:=(take 1 l).bind λt r=>if nth t 0<253 then .ok (nth t 0).toNat r else rest (nth t 0) r
def kK(lo hi:Nat)(l:List UInt8):R Nat:=(size l).bind λx r=>if x<lo∨hi<x then .bad 3 else .ok x r
def script(l:List UInt8):R Unit:=(kK 0 40 l).bind λn r=>(take n r).void
def sk(l:List UInt8):R Unit:=(take 36 l).bind λ_ r=>(script r).bind λ_ r=>(take 4 r).void
def lR(l:List UInt8):R Unit:=(take 8 l).bind λ_ r=>script r
def rep(p:List UInt8->R Unit):Nat->List UInt8->R Unit
 |0,l=>.ok () l|n+1,l=>(p l).bind λ_ r=>rep p n r
def body(l:List UInt8):R Unit:=(take 4 l).bind λ_ r=>(kK 1 4 r).bind λn r=>(rep sk n r).bind λ_ r=>(kK 1 4 r).bind λn r=>(rep lR n r).bind λ_ r=>(take 4 r).void
def tx(l:List UInt8):R (List UInt8):=(body l).bind λ_ r=>.ok (l.take (l.length-r.length)) r
def jX:Nat->List UInt8->R (List (List UInt8))
 |0,l=>.ok [] l|n+1,l=>(tx l).bind λt r=>(jX n r).map λts=>t::ts
def fin{α:Type}(x:R α):R α:=x.bind λa r=>if r=[]then .ok a r else .bad 5
def j2(l:List UInt8):R (List UInt8):=fin (tx l)
def ko(l:List UInt8):R (List UInt8×List (List UInt8)):=fin ((take 32 l).bind λh r=>(kK 1 16 r).bind λn r=>(jX n r).map λts=>(h,ts))
def index(next bound:Nat)(l:List UInt8):R Nat:=(size l).bind λd r=>if bound<=d∨bound<=next+d then .bad 4 else .ok (next+d) r
def iG(bound:Nat):Nat->Nat->List UInt8->R (List (Nat×List UInt8))
 |0,_,l=>.ok [] l|n+1,next,l=>(index next bound l).bind λi r=>(tx r).bind λt r=>(iG bound n (i+1) r).map λps=>(i,t)::ps
def jK(k:Nat):Nat->List UInt8->R (List (List UInt8))
 |0,l=>.ok [] l|n+1,l=>(take k l).bind λt r=>(jK k n r).map λts=>t::ts
structure Cb where
 header:List UInt8
 ie:List UInt8
 gA:List (List UInt8)
 gB:List (Nat×List UInt8)
def iX(l:List UInt8):R Cb:=fin ((take 80 l).bind λh r=>(take 8 r).bind λnc r=>(kK 0 16 r).bind λn r=>(jK 6 n r).bind λss r=>(kK 0 (16-ss.length) r).bind λm r=>if m+ss.length=0 then .bad 3 else(iG (m+ss.length) m 0 r).map λps=>⟨h,nc,ss,ps⟩)
def kT{α:Type}(l:List UInt8)(x:R α):Prop:=∀a r,x=.ok a r->∃k,k<=l.length/\r=l.drop k
def kT.le{α l}{x:R α}(h:kT l x){a r}(e:x=.ok a r):r.length<=l.length:=by obtain⟨k,_,rfl⟩:=h a r e;simp
def kT.ok{α} l(a:α):kT l (.ok a l):=λ_ _ h=>by cases h;exact⟨0,cI _,rfl⟩
theorem kT.bad{α} l e:kT (α:=α) l (.bad e):=λ_ _ h=>by cases h
def kT.bind{α β l x}{f:α->List UInt8->R β}(h:kT l x)(k:∀a r,x=.ok a r->kT r (f a r)):kT l (x.bind f):=by cases x with|bad e=>exact kT.bad _ _|ok a r=>obtain⟨i,hi,rfl⟩:=h a r rfl;intro b s hs;obtain⟨j,hj,rfl⟩:=k a _ rfl b s hs;rw[aD]at hj;exact⟨i+j,by omega,by rw[dI]⟩
def kT.map{α β l x}(f:α->β)(h:kT l x):kT l (x.map f):=by rw[R.map_bind];exact h.bind λa r _=>kT.ok _ _
def kT.void{α l}{x:R α}(h:kT l x):kT l x.void:=by cases x with|bad e=>exact kT.bad _ _|ok a r=>intro b s hs;cases hs;exact h a r rfl
def jc n l:kT l (take n l):=by unfold take;split;exact kT.bad _ _;intro a r h;cases h;exact⟨n,by omega,rfl⟩
def Yn b l:kT l (rest b l):=(jc _ l).bind λu r _=>by split;exact kT.bad _ _;exact kT.ok _ _
def AQ l:kT l (size l):=(jc 1 l).bind λt r _=>by split;exact kT.ok _ _;exact Yn _ _
def mq lo hi l:kT l (kK lo hi l):=(AQ l).bind λx r _=>by split;exact kT.bad _ _;exact kT.ok _ _
def rL l:kT l (script l):=(mq _ _ l).bind λn r _=>(jc n r).void
def Ov l:kT l (sk l):=(jc _ l).bind λ_ r _=>(rL r).bind λ_ r _=>(jc 4 r).void
def JD l:kT l (lR l):=(jc _ l).bind λ_ r _=>rL r
theorem vm{p}(hp:∀l,kT l (p l)):∀n l,kT l (rep p n l)
 |0,_=>kT.ok _ _|n+1,l=>(hp l).bind λ_ r _=>vm hp n r
def ZM l:kT l (body l):=(jc _ l).bind λ_ r _=>(mq _ _ r).bind λn r _=>(vm Ov n r).bind λ_ r _=>(mq _ _ r).bind λn r _=>(vm JD n r).bind λ_ r _=>(jc 4 r).void
def Ef l:kT l (tx l):=by unfold tx;cases h:body l with|bad e=>exact kT.bad _ _|ok a r=>intro b s hs;cases hs;exact ZM l a _ h
theorem MC:∀n l,kT l (jX n l)
 |0,_=>kT.ok _ _|n+1,l=>(Ef l).bind λ_ r _=>(MC n r).map _
def SP next bound l:kT l (index next bound l):=(AQ l).bind λx r _=>by split;exact kT.bad _ _;exact kT.ok _ _
theorem FZ bound:∀n next l,kT l (iG bound n next l)
 |0,_,_=>kT.ok _ _|n+1,_,l=>(SP _ _ l).bind λi r _=>(Ef r).bind λ_ r _=>(FZ bound n (i+1) r).map _
def low(n:Nat):Nat->List UInt8
 |0=>[]|k+1=>UInt8.ofNat (n % 256)::low (n/256) k
def jx n k:(low n k).length=k:=by induction k generalizing n with|zero=>rfl|succ k ih=>simp[low,ih]
def agG l:low (iE.lu l) l.length=l:=by induction l with|nil=>rfl|cons b l ih=>have hb:=b.toNat_lt;simp only[iE.lu,aq,low];rw[show(iE.lu l*256+b.toNat) % 256=b.toNat by omega,show(iE.lu l*256+b.toNat) / 256=iE.lu l by omega,ih];simp
def Vs n k i(h:i<k):nth (low n k) i=UInt8.ofNat (n/256^i % 256):=by induction k generalizing n i with|zero=>omega|succ k ih=>cases i with|zero=>simp[low,nth]|succ i=>have:=ih (n/256) i ω;simp only[nth,low,List.getD_cons_succ]at this|-;rw[this,Nat.div_div_eq_div_mul,cF,br 256]
def jT(n:Nat):List UInt8:=if n<253 then [UInt8.ofNat n]else if n<65536 then 253::low n 2 else if n<4294967296 then 254::low n 4 else 255::low n 8
def agM u(h:u.length=2):iE.lu u<65536:=by have:=iE.um u;rw[h]at this;exact this
def acj u(h:u.length=4):iE.lu u<4294967296:=by have:=iE.um u;rw[h]at this;exact this
def YY u(h:u.length=8):iE.lu u<18446744073709551616:=by have:=iE.um u;rw[h]at this;exact this
def aa9 b u(hb:¬b<253)(hu:u.length=more b):jT (iE.lu u)=b::u↔least b<=iE.lu u:=by
 have uq:=agG u;have hbn:b=253∨b=254∨b=255:=by have h1:¬b.toNat<253:=λh=>hb (cZ.2 h);have h2:=b.toNat_lt;have h3:b.toNat=253∨b.toNat=254∨b.toNat=255:=ω;exact t036
 unfold jT;rcases hbn with rfl|rfl|rfl;have JP:u.length=2:=hu;have hl:=agM u JP;rw[JP]at uq;show _↔253<=_;by_cases h:iE.lu u<253;exact t037;rw[if_neg h,if_pos hl,uq];exact⟨λ_=>by omega,λ_=>rfl⟩;have JP:u.length=4:=hu;have hl:=acj u JP;rw[JP]at uq;show _↔65536<=_;by_cases h:iE.lu u<253;exact t037;rw[if_neg h];by_cases h2:iE.lu u<65536;rw[if_pos h2];exact t045;rw[if_neg h2,if_pos hl,uq];exact⟨λ_=>by omega,λ_=>rfl⟩;have JP:u.length=8:=hu;have hl:=YY u JP;rw[JP]at uq;show _↔4294967296<=_;by_cases h:iE.lu u<253;exact t037;rw[if_neg h];by_cases h2:iE.lu u<65536;rw[if_pos h2];exact t045;rw[if_neg h2];by_cases h3:iE.lu u<4294967296;rw[if_pos h3];exact t045;rw[if_neg h3,uq];exact⟨λ_=>by omega,λ_=>rfl⟩
end Wr
end
def t0112{p:Prop}(h:p:=by go_wp2_with fail;go_end0;exact⟨rfl,rfl⟩):p:=h
def t057{p:Prop}(h:p:=by go_wp2_with fail;go_ret;exact RP.vH (nE.o.trans (if_neg hs)) R3.o B3.o):p:=h
def t054{p:Prop}(h:p:=by rintro e w2⟨rfl,h3⟩;exact⟨rfl,RP.jn nE.o (B1.o.trans (h3.mono z1))⟩):p:=h
def t027{p:Prop}(h:p:=by go_wp2_with fail;refine(lq 2 wr).mono ?_;rintro e w3⟨rfl,rfl⟩;exact⟨rfl,RP.jn (n:=2) (nE.o.trans (if_pos hs)) B3.o⟩):p:=h
def t010{p:Prop}(h:p:=by
 have hd:=η (iE.zI u k (by rw[HL.o];exact gV) ω);have cc:=CJ.o k gV;have h8:0<=8*(k:Int):=ω;go_wp2_with fail;go_roundw
 ·exact⟨k+1,by omega,by go_num,by rw[hd.o],by first|trivial|rfl⟩
 simp[intOf];omega):p:=h
section
open Go.RowKit iz
def oF(n:Int):List PanicEntry:=[{v:=.iface 178 (.agg #[.int .i64 n]),recovered:=false}]
def RP{α:Type}(x:Wr.R α)(val:α->Value)(b:Nat)(w:World)(e:Ending)(w':World):Prop:=match x with
 |.ok a r=>e=.returned (val a)/\Row w' b [.string (str r)]/\iL w.heap.size b w w'
 |.bad n=>e=.panicked (oF (n:Int))/\iL w.heap.size b w w'
def RP.vH{α}{x:Wr.R α}{val b w w' a r}(hx:x=.ok a r)(h1:Row w' b [.string (str r)])(h2:iL w.heap.size b w w'):RP x val b w (.returned (val a)) w':=by subst hx;exact⟨rfl,h1,h2⟩
def RP.jn{α}{x:Wr.R α}{val b w w' n}(hx:x=.bad n)(h2:iL w.heap.size b w w'):RP x val b w (.panicked (oF (n:Int))) w':=by subst hx;exact⟨rfl,h2⟩
def lq n w:Calls prog 81 #[.int .i64 n] w λe w'=>e=.panicked (oF n)/\w'=w:=by go_enter func81,ntmps81;go_wp2_with fail;exact⟨rfl,rfl,rfl⟩
def jr(b n:Nat) l w(hr:Row w b [.string (str l)])(_:n<4611686018427387904):Calls prog 72 #[.pointer (some ⟨b,0,none⟩),.int .i64 n] w (RP (Wr.take n l) (λt=>.string (str t)) b w):=by
 have hc:=hr.cell 0;have hz:=hr.free 0;by_cases h:l.length<n
 ·have e0:Wr.take n l=.bad 1:=if_pos h;rw[e0];have p1:(l.length:Int)< (n:Int):=by omega
  clear e0 hr;go_enter func72,ntmps72;go_wp2_with fail;refine(lq 1 w).mono ?_;rintro e w1⟨rfl,rfl⟩;exact⟨rfl,rfl,iL.refl _ _ _⟩
 have e0:Wr.take n l=.ok (l.take n) (l.drop n):=if_neg h;rw[e0];have p1:¬(l.length:Int)< (n:Int):=by omega
 have p2:(n:Int)<=(l.length:Int):=ω;have HR:=η (hr.set 0 (.string (str (l.drop n))));clear e0 hr;go_enter func72,ntmps72;go_wp2_with fail;go_ret;exact⟨rfl,HR.o,(iL.refl _ _ _).jI _ _⟩
def BW b l w(hr:Row w b [.string (str l)]):Calls prog 112 #[.pointer (some ⟨b,0,none⟩)] w λe w'=>(if l=[]then e=.returned (.tuple #[])else e=.panicked (oF 5))/\w'=w:=by
 have hc:=hr.cell 0;by_cases h:l=[]
 ·simp only[if_pos h];subst h;go_enter func112,ntmps112;exact t0112
 simp only[if_neg h];have iZ:l.isEmpty=false:=by cases l with
  |nil=>exact absurd rfl h
  |cons=>rfl
 go_enter func112,ntmps112;go_wp2_with fail;refine(lq 5 w).mono ?_;rintro e w1⟨rfl,rfl⟩;exact⟨rfl,rfl,rfl⟩
def ZX u(h:u.length<=8):U (iE.le u)=(iE.lu u:Int):=by have h1:=iE.um u;have h2:2^ (8*u.length)<=2^64:=bG ψ ω;unfold iE.le;rw[oO,bp ω]
def EN b l w(hr:Row w b [.string (str l)]):Calls prog 115 #[.pointer (some ⟨b,0,none⟩)] w (RP (Wr.size l) (λn=>.int .u64 (n:Int)) b w):=by
 have T1:=η (jr b 1 l w hr ω);have hb:=hr.lt;clear hr;cases l with
 |nil=>go_enter gz,ntmps115;go_wp2_with fail;refine T1.o.mono ?_;rintro e w1⟨rfl,h1⟩;exact⟨rfl,rfl,h1⟩
 |cons x r=>
 have e0:Wr.take 1 (x::r)=.ok [x] r:=by simp[Wr.take]
 have e1:Wr.size (x::r)=if x<253 then .ok x.toNat r else Wr.rest x r:=by unfold Wr.size;rw[e0];rfl
 rw[e0]at T1;have EQ:=η e1;clear e0 e1;have hY:Y x=(x.toNat:Int):=rfl;have hx:=x.toNat_lt;by_cases gV:x<253
 ·have h':=cZ.1 gV;have h3:x.toNat<253:=h';rw[if_pos gV]at EQ;have n1:¬Y (nth [x] 0)=253:=by show¬Y x=253;omega
  have n2:¬Y (nth [x] 0)=254:=by show¬Y x=254;omega
  have n3:¬Y (nth [x] 0)=255:=by show¬Y x=255;omega
  clear gV h' hY hx;go_enter gz,ntmps115;go_wp2_with fail;refine T1.o.mono ?_;rintro e w1⟨rfl,h1,h2⟩;go_wp2_with fail;go_ret;exact RP.vH EQ.o h1 h2
 have h':¬x.toNat<253:=λh=>gV (cZ.2 h);rw[if_neg gV]at EQ;have hc:x=253∨x=254∨x=255:=by have h3:x.toNat=253∨x.toNat=254∨x.toNat=255:=ω;exact t036
 clear gV h' hY hx;rcases hc with rfl|rfl|rfl
 ·have nE:=η (show Wr.size (253::r)=(Wr.take 2 r).bind λu r'=>if iE.lu u<253 then .bad 2 else .ok (iE.lu u) r' from EQ.o);clear EQ;go_enter gz,ntmps115;go_wp2_with fail;refine T1.o.mono ?_;rintro e w1⟨rfl,h1,h2⟩;have T2:=η (jr b 2 r w1 h1 ω)
  have B1:=η h2;have z1:=h2.size;clear h1 h2 T1;go_wp2_with fail;refine T2.o.mono ?_;clear T2;by_cases hk:r.length<2;rw[show Wr.take 2 r=.bad 1 from if_pos hk]at nE|-;exact t054;rw[show Wr.take 2 r=.ok (r.take 2) (r.drop 2)from if_neg hk]at nE|-;rintro e w2⟨rfl,h3,h4⟩;have xR:(r.take 2).length=2:=by rw[aJ];omega
  have kD:b<w2.heap.size:=by have:=h4.size;omega
  have B2:=η (B1.o.trans (h4.mono z1));have R2:=η h3;have z2:=B2.o.size;clear h3 h4 B1 z1 hk;obtain⟨cap,wc,uK,tz,rC,pL⟩:=Ai (P:=prog) w2 9 35 5 (r.take 2) fp fq fu;rw[xR]at uK;have B3:=η (B2.o.trans ((iL.gL (S:=b) tz).mono z2));have R3:=η (R2.o.below tz kD);have CJ:=η (λ(j:Nat) (hj:j<2)=>(show wc.cell? ⟨w2.heap.size,j,none⟩=some (.int .u8 (Y (nth (r.take 2) j)))by have:=rC j ω;simpa using this));clear tz rC B2 R2 kD;generalize r.take 2=u at xR uK CJ nE|-;have HL:=η xR;clear xR;go_wp2_with fail;clear uK;go_loopw [6,26] (λxv iv wr=>∃i:Nat,i<=2/\iv=.int .i64 i/\xv=.int .u64 (U (iE.le (u.take i)))/\wr=wc) (λ_ iv _=>2-(intOf iv).toNat);exact⟨0,by omega,rfl,rfl,rfl⟩;obtain⟨k,hk,rfl,rfl,rfl⟩:=hrel;by_cases gV:k<2;have p1:(k:Int)<2:=by omega
  exact t010;obtain rfl:k=2:=by omega
  have e3:U (iE.le (u.take 2))=(iE.lu u:Int):=by rw[au aHt,ZX u aHt]
  rw[e3];clear e3 gV hk;by_cases hs:iE.lu u<253;have p2:(iE.lu u:Int)<253:=by omega
  exact t027;have p2:¬(iE.lu u:Int)<253:=by omega
  exact t057
 ·have nE:=η (show Wr.size (254::r)=(Wr.take 4 r).bind λu r'=>if iE.lu u<65536 then .bad 2 else .ok (iE.lu u) r' from EQ.o);clear EQ;go_enter gz,ntmps115;go_wp2_with fail;refine T1.o.mono ?_;rintro e w1⟨rfl,h1,h2⟩;have T2:=η (jr b 4 r w1 h1 ω)
  have B1:=η h2;have z1:=h2.size;clear h1 h2 T1;go_wp2_with fail;refine T2.o.mono ?_;clear T2;by_cases hk:r.length<4;rw[show Wr.take 4 r=.bad 1 from if_pos hk]at nE|-;exact t054;rw[show Wr.take 4 r=.ok (r.take 4) (r.drop 4)from if_neg hk]at nE|-;rintro e w2⟨rfl,h3,h4⟩;have xR:(r.take 4).length=4:=by rw[aJ];omega
  have kD:b<w2.heap.size:=by have:=h4.size;omega
  have B2:=η (B1.o.trans (h4.mono z1));have R2:=η h3;have z2:=B2.o.size;clear h3 h4 B1 z1 hk;obtain⟨cap,wc,uK,tz,rC,pL⟩:=Ai (P:=prog) w2 9 35 5 (r.take 4) fp fq fu;rw[xR]at uK;have B3:=η (B2.o.trans ((iL.gL (S:=b) tz).mono z2));have R3:=η (R2.o.below tz kD);have CJ:=η (λ(j:Nat) (hj:j<4)=>(show wc.cell? ⟨w2.heap.size,j,none⟩=some (.int .u8 (Y (nth (r.take 4) j)))by have:=rC j ω;simpa using this));clear tz rC B2 R2 kD;generalize r.take 4=u at xR uK CJ nE|-;have HL:=η xR;clear xR;go_wp2_with fail;clear uK;go_loopw [6,26] (λxv iv wr=>∃i:Nat,i<=4/\iv=.int .i64 i/\xv=.int .u64 (U (iE.le (u.take i)))/\wr=wc) (λ_ iv _=>4-(intOf iv).toNat);exact⟨0,by omega,rfl,rfl,rfl⟩;obtain⟨k,hk,rfl,rfl,rfl⟩:=hrel;by_cases gV:k<4;have p1:(k:Int)<4:=by omega
  exact t010;obtain rfl:k=4:=by omega
  have e3:U (iE.le (u.take 4))=(iE.lu u:Int):=by rw[au aHt,ZX u aHt]
  rw[e3];clear e3 gV hk;by_cases hs:iE.lu u<65536;have p2:(iE.lu u:Int)<65536:=by omega
  exact t027;have p2:¬(iE.lu u:Int)<65536:=by omega
  exact t057
 have nE:=η (show Wr.size (255::r)=(Wr.take 8 r).bind λu r'=>if iE.lu u<4294967296 then .bad 2 else .ok (iE.lu u) r' from EQ.o);clear EQ;go_enter gz,ntmps115;go_wp2_with fail;refine T1.o.mono ?_;rintro e w1⟨rfl,h1,h2⟩;have T2:=η (jr b 8 r w1 h1 ω)
 have B1:=η h2;have z1:=h2.size;clear h1 h2 T1;go_wp2_with fail;refine T2.o.mono ?_;clear T2;by_cases hk:r.length<8;rw[show Wr.take 8 r=.bad 1 from if_pos hk]at nE|-;exact t054;rw[show Wr.take 8 r=.ok (r.take 8) (r.drop 8)from if_neg hk]at nE|-;rintro e w2⟨rfl,h3,h4⟩;have xR:(r.take 8).length=8:=by rw[aJ];omega
 have kD:b<w2.heap.size:=by have:=h4.size;omega
 have B2:=η (B1.o.trans (h4.mono z1));have R2:=η h3;have z2:=B2.o.size;clear h3 h4 B1 z1 hk;obtain⟨cap,wc,uK,tz,rC,pL⟩:=Ai (P:=prog) w2 9 35 5 (r.take 8) fp fq fu;rw[xR]at uK;have B3:=η (B2.o.trans ((iL.gL (S:=b) tz).mono z2));have R3:=η (R2.o.below tz kD);have CJ:=η (λ(j:Nat) (hj:j<8)=>(show wc.cell? ⟨w2.heap.size,j,none⟩=some (.int .u8 (Y (nth (r.take 8) j)))by have:=rC j ω;simpa using this));clear tz rC B2 R2 kD;generalize r.take 8=u at xR uK CJ nE|-;have HL:=η xR;clear xR;go_wp2_with fail;clear uK;go_loopw [6,26] (λxv iv wr=>∃i:Nat,i<=8/\iv=.int .i64 i/\xv=.int .u64 (U (iE.le (u.take i)))/\wr=wc) (λ_ iv _=>8-(intOf iv).toNat);exact⟨0,by omega,rfl,rfl,rfl⟩;obtain⟨k,hk,rfl,rfl,rfl⟩:=hrel;by_cases gV:k<8;have p1:(k:Int)<8:=by omega
 exact t010;obtain rfl:k=8:=by omega
 have e3:U (iE.le (u.take 8))=(iE.lu u:Int):=by rw[au aHt,ZX u aHt]
 rw[e3];clear e3 gV hk;by_cases hs:iE.lu u<4294967296;have p2:(iE.lu u:Int)<4294967296:=by omega
 exact t027;have p2:¬(iE.lu u:Int)<4294967296:=by omega
 exact t057
def oR(b lo hi:Nat) l w(hr:Row w b [.string (str l)])(h1:lo<4611686018427387904)(h2:hi<4611686018427387904):Calls prog 74 #[.pointer (some ⟨b,0,none⟩),.int .i64 lo,.int .i64 hi] w (RP (Wr.kK lo hi l) (λn=>.int .i64 (n:Int)) b w):=by
 have T1:=η (EN b l w hr);have e1:IntKind.u64.wrap (lo:Int)=lo:=by rw[k6,oO];omega
 have e2:IntKind.u64.wrap (hi:Int)=hi:=by rw[k6,oO];omega
 clear hr;go_enter func74,ntmps74;go_wp2_with fail;refine T1.o.mono ?_;clear T1;cases hx:Wr.size l with
 |bad n=>rintro e w1⟨rfl,h⟩;exact⟨rfl,RP.jn (by unfold Wr.kK;rw[hx];rfl) h⟩
 |ok n r=>
 rintro e w1⟨rfl,h3,h4⟩;have EQ:=η (show Wr.kK lo hi l=if n<lo∨hi<n then .bad 3 else .ok n r by unfold Wr.kK;rw[hx];rfl);clear hx;by_cases c1:n<lo
 ·have p1:(n:Int)< (lo:Int):=by omega
  go_wp2_with fail;refine(lq 3 _).mono ?_;rintro e w2⟨rfl,rfl⟩;exact⟨rfl,RP.jn (n:=3) (EQ.o.trans (if_pos (.inl c1))) h4⟩
 have p1:¬(n:Int)< (lo:Int):=by omega
 by_cases c2:hi<n
 ·have p2:(n:Int)>(hi:Int):=by omega
  go_wp2_with fail;refine(lq 3 _).mono ?_;rintro e w2⟨rfl,rfl⟩;exact⟨rfl,RP.jn (n:=3) (EQ.o.trans (if_pos (.inr c2))) h4⟩
 have p2:¬(n:Int)>(hi:Int):=by omega
 have e3:IntKind.i64.wrap (n:Int)=n:=fF _ ω;go_wp2_with fail;go_ret;exact RP.vH (EQ.o.trans (if_neg ω)) h3 h4
end
section
open Go.RowKit iz
namespace Wr
def m8{α:Type}(k:Nat)(l:List UInt8)(x:R α):Prop:=∀a r,x=.ok a r->l.length<=r.length+k
def m8.ok{α} l(a:α):m8 0 l (.ok a l):=λ_ _ h=>by cases h;exact ν
theorem m8.bad{α} k l e:m8 (α:=α) k l (.bad e):=λ_ _ h=>by cases h
def m8.mono{α k m l}{x:R α}(h:m8 k l x)(hk:k<=m):m8 m l x:=λa r e=>by have:=h a r e;omega
def m8.bind{α β k m l x}{f:α->List UInt8->R β}(h:m8 k l x)(hf:∀a r,x=.ok a r->m8 m r (f a r)):m8 (k+m) l (x.bind f):=by cases x with|bad e=>exact m8.bad _ _ _|ok a r=>intro b s hs;have h1:=h a r rfl;have h2:=hf a r rfl b s hs;omega
def m8.void{α k l}{x:R α}(h:m8 k l x):m8 k l x.void:=by cases x with|bad e=>exact m8.bad _ _ _|ok a r=>intro b s hs;cases hs;exact h a r rfl
def nQ n l:m8 n l (take n l):=by unfold take;split;exact m8.bad _ _ _;intro a r h;cases h;rw[aD];omega
def agD b:more b<=8:=by unfold more;split<;>(try split)<;>omega
def Yo b l:m8 8 l (rest b l):=((nQ _ l).bind (m:=0) λu r _=>by split;exact m8.bad _ _ _;exact m8.ok _ _).mono (agD b)
def X8 l:m8 9 l (size l):=((nQ 1 l).bind (m:=8) λt r _=>by split;exact(m8.ok _ _).mono ω;exact Yo _ _).mono ω
def AB lo hi l:m8 9 l (kK lo hi l):=(X8 l).bind (m:=0) λx r _=>by split;exact m8.bad _ _ _;exact m8.ok _ _
def nA{lo hi l n r}(h:kK lo hi l=.ok n r):lo<=n/\n<=hi:=by
 unfold kK at h;cases hx:size l with
 |bad e=>rw[hx]at h;cases h
 |ok x s=>rw[hx]at h;by_cases c:x<lo∨hi<x;have:(R.ok x s).bind (λx r=>if x<lo∨hi<x then(.bad 3:R Nat)else .ok x r)=.bad 3:=if_pos c;rw[this]at h;cases h;have:(R.ok x s).bind (λx r=>if x<lo∨hi<x then(.bad 3:R Nat)else .ok x r)=.ok x s:=if_neg c;rw[this]at h;cases h;omega
def Co l:m8 49 l (script l):=(AB _ _ l).bind (m:=40) λn r h=>((nQ n r).void).mono (nA h).2
def acp l:m8 89 l (sk l):=(nQ 36 l).bind (m:=53) λ_ r _=>(Co r).bind (m:=4) λ_ r _=>(nQ 4 r).void
def YJ l:m8 57 l (lR l):=(nQ 8 l).bind (m:=49) λ_ r _=>Co r
theorem Fa{p k}(hp:∀l,m8 k l (p l)):∀n l,m8 (n*k) l (rep p n l)
 |0,l=>by rw[Nat.zero_mul];exact m8.ok _ _|n+1,l=>by rw[Nat.succ_mul,dR];exact(hp l).bind λ_ r _=>Fa hp n r
def Cd l:m8 610 l (body l):=
 (nQ 4 l).bind (m:=606) λ_ r _=>(AB _ _ r).bind (m:=597) λn r h=>((Fa acp n r).mono (show n*89<=356 by have:=(nA h).2;omega)).bind (m:=241) λ_ r _=>
  (AB _ _ r).bind (m:=232) λn r h=>((Fa YJ n r).mono (show n*57<=228 by have:=(nA h).2;omega)).bind (m:=4) λ_ r _=>(nQ 4 r).void
def aaM{l t r}(h:tx l=.ok t r):t.length<=610:=by
 unfold tx at h;cases hx:body l with
 |bad e=>rw[hx]at h;cases h
 |ok a s=>rw[hx]at h;cases h;have:=Cd l a _ hx;rw[aJ];omega
def txF(l:List UInt8)(x:R Unit):R (List UInt8):=x.bind λ_ r=>.ok (l.take (l.length-r.length)) r
def outs(r:List UInt8):R Unit:=(kK 1 4 r).bind λn r=>(rep lR n r).bind λ_ r=>(take 4 r).void
def ins(r:List UInt8):R Unit:=(kK 1 4 r).bind λn r=>(rep sk n r).bind λ_ r=>outs r
def aoe l:tx l=txF l ((take 4 l).bind λ_ r=>ins r):=rfl
end Wr
def iL.AL{B S w w'}(h:iL B S w w')(hT:km w)(hB:1<B)(hS:1<S):km w':=⟨h.row hT.1 ω ω,h.row hT.2 hB ω⟩
def zh b l w(hr:Row w b [.string (str l)]):Calls prog 113 #[.pointer (some ⟨b,0,none⟩)] w (RP (Wr.script l) (λ_=>.tuple #[]) b w):=by
 have T1:=η (oR b 0 40 l w.drew hr.drew ω ω);have B0:=η ((iL.refl w.heap.size b w).drew);clear hr;go_enter func113,ntmps113;haveI iZ:Nonempty (gI.Of (λ_=>True)):=⟨⟨w,trivial⟩⟩;refine gI.jl [0,1,2,3,4,5] 2 mixed κ rfl rfl θ ξ rfl (λ_=>True) trivial ?_;show wpQuiet _ _ _ _ [_,_,_,_,_,_] _;repeat(go_big_quiet_step (fail))
 refine fe ?_;generalize w.drew=w0 at T1 B0|-;refine gI.one 6 _ κ rfl rfl ?_;try go_frame
 go_wp2_with fail;refine T1.o.mono ?_;clear T1;cases hx:Wr.kK 0 40 l with
 |bad n=>rintro e w1⟨rfl,h⟩;exact⟨rfl,RP.jn (by unfold Wr.script;rw[hx];rfl) (B0.o.trans (h.mono B0.o.size))⟩
 |ok n r=>
 rintro e w1⟨rfl,h3,h4⟩;have hn:=Wr.nA hx;have T2:=η (jr b n r w1 h3 ω);have B1:=η (B0.o.trans (h4.mono B0.o.size));clear h3 h4 B0;go_wp2_with fail;refine⟨gI.gF trivial,?_⟩;refine gI.one 7 _ κ rfl rfl ?_;try go_frame
 go_wp2_with fail;refine T2.o.mono ?_;clear T2;cases hx2:Wr.take n r with
 |bad n=>rintro e w2⟨rfl,h⟩;exact⟨rfl,RP.jn aH6 (B1.o.trans (h.mono B1.o.size))⟩
 |ok t r2=>
 rintro e w2⟨rfl,h3,h4⟩;go_wp2_with fail;refine⟨gI.gF trivial,?_⟩;refine fg κ ?_ 0;go_wp2_with fail;first|go_end0|refine bodyPost_ret (fN rfl _ _ _) rfl ?_
 exact RP.vH (a:=()) aH6 h3 (B1.o.trans (h4.mono B1.o.size))
def gD(t:List UInt8):List Value:=.string (str t)::w8 (Mk.gC t)
def Mi(t:List UInt8):Value:=.agg (gD t).toArray
def j1:List Value:=.string (str [])::w8 (List.replicate 32 0)
def Tryz.n9:j1.toArray=#[.string (str []),.int .u8 0,.int .u8 0,.int .u8 0,.int .u8 0,.int .u8 0,.int .u8 0,.int .u8 0,.int .u8 0,.int .u8 0,.int .u8 0,.int .u8 0,.int .u8 0,.int .u8 0,.int .u8 0,.int .u8 0,.int .u8 0,.int .u8 0,.int .u8 0,.int .u8 0,.int .u8 0,.int .u8 0,.int .u8 0,.int .u8 0,.int .u8 0,.int .u8 0,.int .u8 0,.int .u8 0,.int .u8 0,.int .u8 0,.int .u8 0,.int .u8 0,.int .u8 0]:=κ
def gQ t:(gD t).length=33:=by unfold gD;rw[aq,ir];unfold Mk.gC;rw[gP.kI]
def je:j1.length=33:=by unfold j1;rw[aq,ir];simp
def kj:(prog.info? 78).map (·.size)=some 33:=κ
def iV t:(gD t).all (·.oneCell')=true:=by unfold gD;rw[bV,Bool.and_eq_true];exact⟨rfl,List.all_eq_true.2 (AA _)⟩
def TT s a0 a1 a2 a3 a4 a5 a6 a7 a8 a9 Me Md a12 Mc Mb Ma L9 L7 L6 L5 a20 a21 LZ LY a24 LX LW LV a28 LU LS a31:prog.built 78 [(0,.string s),(1,.agg (w8 [a0,a1,a2,a3,a4,a5,a6,a7,a8,a9,Me,Md,a12,Mc,Mb,Ma,L9,L7,L6,L5,a20,a21,LZ,LY,a24,LX,LW,LV,a28,LU,LS,a31]).toArray)]=some (.string s::w8 [a0,a1,a2,a3,a4,a5,a6,a7,a8,a9,Me,Md,a12,Mc,Mb,Ma,L9,L7,L6,L5,a20,a21,LZ,LY,a24,LX,LW,LV,a28,LU,LS,a31]).toArray:=κ
def ad3 s d(hd:d.length=32):prog.built 78 [(0,.string s),(1,.agg (w8 d).toArray)]=some (.string s::w8 d).toArray:=
 match d,hd with
 |[a0,a1,a2,a3,a4,a5,a6,a7,a8,a9,Me,Md,a12,Mc,Mb,Ma,L9,L7,L6,L5,a20,a21,LZ,LY,a24,LX,LW,LV,a28,LU,LS,a31],_=>TT s a0 a1 a2 a3 a4 a5 a6 a7 a8 a9 Me Md a12 Mc Mb Ma L9 L7 L6 L5 a20 a21 LZ LY a24 LX LW LV a28 LU LS a31
def ad4{ops rest o a w Q}(pn:o.guard=none) x y(ho:o.op=.build 78 #[(0,x),(1,y)]) s d (hd:d.length=32) (hx:a.eval x=.string (str s)) (hy:a.eval y=.agg (w8 d).toArray) (h:wpList prog ops Q rest (a.put o.dst (.agg (.string (str s)::w8 d).toArray)) w):wpList prog ops Q (o::rest) a w:=by refine wpList_buildTo pn 78 _ ho _ rfl _ ?_ h;simp only[bN,List.map_cons,bP,hx,hy];exact ad3 (str s) d hd
def gJ{ops rest o a w Q}(pn:o.guard=none) ty x y(ho:o.op=.store ty x y) g (l m:List Value) (hx:a.eval x=.pointer (some ⟨g,0,none⟩)) (hy:a.eval y=.agg m.toArray) (hr:Row w g l) (hi:(prog.info? ty).map (·.size)=some m.length) (hl:l.length=m.length) (h1:m.all (·.oneCell')=true) (h:wpList prog ops Q rest (a.put o.dst undef) (w.setRow g m.toArray)):wpList prog ops Q (o::rest) a w:=by obtain⟨T,hT⟩:=hr;refine wpList_store_row pn _ x y ho g _ hx hy T _ hT (by rw[hi,az]) (by rw[az,az,hl]) (by rw[ee];exact h1) h
def l0{ops rest o a w Q}(pn:o.guard=none) ty x(ho:o.op=.load ty x) g l (hx:a.eval x=.pointer (some ⟨g,0,none⟩)) (hr:Row w g l) d (hu:prog.underlying ty=some d) (hi:(prog.info? ty).map (·.size)=some l.length) fs (hd:d=.struct fs) (h:wpList prog ops Q rest (a.put o.dst (.agg l.toArray)) w):wpList prog ops Q (o::rest) a w:=by obtain⟨T,hT⟩:=hr;subst hd;exact wpList_load_row pn _ x ho g hx T _ (0,0) _ hT hu rfl (by rw[hi,az]) h
structure TxI(w:World)(b:Nat)(n:Nat)(lk:List UInt8)(wk:World):Prop where
 cur:Row wk b [.string (str lk)]
 own:Row wk w.heap.size j1
 but:iL w.heap.size b w wk
 le:lk.length<=n
def TxI.step{w b n lk SD wk u9}(h:TxI w b n lk wk)(hb:b<w.heap.size)(h1:Row u9 b [.string (str SD)])(h2:iL wk.heap.size b wk u9)(hl:SD.length<=lk.length):TxI w b n SD u9:=⟨h1,h2.row h.own h.own.lt ω,h.but.trans (h2.mono h.but.size),ak hl h.le⟩
def TxI.bad{w b n lk wk u9}(h:TxI w b n lk wk)(h2:iL wk.heap.size b wk u9):iL w.heap.size b w u9:=h.but.trans (h2.mono h.but.size)
def EG b l w(hT:km w)(vR:1<b)(hr:Row w b [.string (str l)])(hl:l.length<=9223372036854775807):Calls prog 69 #[.pointer (some ⟨b,0,none⟩)] w (RP (Wr.tx l) Mi b w):=by
 have hb:=hr.lt;have yM:=hT.lt;have I0:TxI w b l.length l (w.alloc (.cells j1.toArray 78)):=⟨hr.alloc _,Row.new w _ _,(iL.refl _ _ _).alloc ν _,ν⟩;rw[Tryz.n9]at I0;have HT:=η hT;have EQ:=η (Wr.aoe l);clear hr hT;go_enter func69,ntmps69;go_upto_region 1 with fail;generalize w.alloc _=w1 at I0|-;have hc:=I0.cur.cell 0;have T1:=η (jr b 4 l w1 I0.cur ω);have J:=η I0;clear I0;go_wp2_with fail;refine T1.o.mono ?_;clear T1 hc;cases hx:Wr.take 4 l with
 |bad n=>rintro e w2⟨rfl,h⟩;rw[hx]at EQ;rw[show Wr.tx l=.bad n from EQ.o];exact⟨rfl,rfl,J.o.bad h⟩
 |ok t1 r1=>
 rintro e w2⟨rfl,h3,h4⟩;rw[hx]at EQ;have nE:=η (show Wr.tx l=Wr.txF l ((Wr.kK 1 4 r1).bind λn r=>(Wr.rep Wr.sk n r).bind λ_ r=>Wr.outs r)from EQ.o);have J2:=η (J.o.step hb h3 h4 ((Wr.jc 4 l).le hx));have T2:=η (oR b 1 4 r1 w2 h3 ω ω);clear h3 h4 J EQ hx;go_wp2_with fail;refine T2.o.mono ?_;clear T2;cases hx:Wr.kK 1 4 r1 with
 |bad n=>rintro e w3⟨rfl,h⟩;rw[hx]at nE;rw[show Wr.tx l=.bad n from nE.o];exact⟨rfl,rfl,J2.o.bad h⟩
 |ok n r2=>
 rintro e w3⟨rfl,h3,h4⟩;rw[hx]at nE;have hn:=(Wr.nA hx).2;have Um:=η (show Wr.tx l=Wr.txF l ((Wr.rep Wr.sk n r2).bind λ_ r=>Wr.outs r)from nE.o);have J3:=η (J2.o.step hb h3 h4 ((Wr.mq 1 4 r1).le hx));clear h3 h4 J2 nE hx;go_wp2_with fail;go_loopw [18] (λiv wr=>∃(i:Nat)(ri:List UInt8),i<=n/\iv=.int .i64 i/\TxI w b l.length ri wr/\Wr.rep Wr.sk n r2=Wr.rep Wr.sk (n-i) ri) (λiv _=>n-(intOf iv).toNat);exact⟨0,r2,by omega,rfl,J3.o,rfl⟩;obtain⟨i,ri,hi,rfl,hI,hE⟩:=hrel;by_cases gV:i<n
 ·have p1:(i:Int)< (n:Int):=by omega
  have E1:=η (show Wr.rep Wr.sk n r2=((Wr.take 36 ri).bind λ_ r=>(Wr.script r).bind λ_ r=>(Wr.take 4 r).void).bind λ_ r=>Wr.rep Wr.sk (n-(i+1)) r by rw[hE,show n-i=(n-(i+1))+1 by omega];rfl);have T1:=η (jr b 36 ri wr hI.cur ω);have K1:=η hI;clear hI hE;go_wp2_with fail;refine T1.o.mono ?_;clear T1;cases hx:Wr.take 36 ri with
  |bad k=>rintro e w4⟨rfl,h⟩;rw[hx]at E1;exact⟨rfl,RP.jn (by rw[Um.o,show Wr.rep Wr.sk n r2=.bad k from E1.o];rfl) (K1.o.bad h)⟩
  |ok t1 r3=>
  rintro e w4⟨rfl,h3,h4⟩;rw[hx]at E1;have E2:=η (show Wr.rep Wr.sk n r2=((Wr.script r3).bind λ_ r=>(Wr.take 4 r).void).bind λ_ r=>Wr.rep Wr.sk (n-(i+1)) r from E1.o);have K2:=η (K1.o.step hb h3 h4 ((Wr.jc 36 ri).le hx));have T2:=η (zh b r3 w4 h3);clear h3 h4 K1 E1 hx;go_wp2_with fail;refine T2.o.mono ?_;clear T2;cases hx:Wr.script r3 with
  |bad k=>rintro e w5⟨rfl,h⟩;rw[hx]at E2;exact⟨rfl,RP.jn (by rw[Um.o,show Wr.rep Wr.sk n r2=.bad k from E2.o];rfl) (K2.o.bad h)⟩
  |ok u1 r4=>
  rintro e w5⟨rfl,h3,h4⟩;rw[hx]at E2;have E3:=η (show Wr.rep Wr.sk n r2=((Wr.take 4 r4).void).bind λ_ r=>Wr.rep Wr.sk (n-(i+1)) r from E2.o);have K3:=η (K2.o.step hb h3 h4 ((Wr.rL r3).le hx));have T3:=η (jr b 4 r4 w5 h3 ω);clear h3 h4 K2 E2 hx;go_wp2_with fail;refine T3.o.mono ?_;clear T3;cases hx:Wr.take 4 r4 with
  |bad k=>rintro e w6⟨rfl,h⟩;rw[hx]at E3;exact⟨rfl,RP.jn (by rw[Um.o,show Wr.rep Wr.sk n r2=.bad k from E3.o];rfl) (K3.o.bad h)⟩
  |ok t2 r5=>
  rintro e w6⟨rfl,h3,h4⟩;rw[hx]at E3;have E4:=η (show Wr.rep Wr.sk n r2=Wr.rep Wr.sk (n-(i+1)) r5 from E3.o);have K4:=η (K3.o.step hb h3 h4 ((Wr.jc 4 r4).le hx));clear h3 h4 K3 E3 hx;go_wp2_with fail;go_roundw
  ·exact⟨i+1,r5,by omega,by go_num,K4.o,E4.o⟩
  simp[intOf];omega
 obtain rfl:i=n:=by omega
 have EQ4:=η (show Wr.tx l=Wr.txF l ((Wr.kK 1 4 ri).bind λn r=>(Wr.rep Wr.lR n r).bind λ_ r=>(Wr.take 4 r).void)by rw[Um.o,hE,bh];rfl);have J4:=η hI;have T4:=η (oR b 1 4 ri wr hI.cur ω ω);clear hI hE J3 Um hn hi;go_wp2_with fail;refine T4.o.mono ?_;clear T4;cases hx:Wr.kK 1 4 ri with
 |bad k=>rintro e w4⟨rfl,h⟩;rw[hx]at EQ4;exact⟨rfl,RP.jn EQ4.o (J4.o.bad h)⟩
 |ok m r6=>
 rintro e w4⟨rfl,h3,h4⟩;rw[hx]at EQ4;have hm:=(Wr.nA hx).2;have EQ5:=η (show Wr.tx l=Wr.txF l ((Wr.rep Wr.lR m r6).bind λ_ r=>(Wr.take 4 r).void)from EQ4.o);have J5:=η (J4.o.step hb h3 h4 ((Wr.mq 1 4 ri).le hx));clear h3 h4 J4 EQ4 hx;go_wp2_with fail;go_loopw [35] (λiv wr=>∃(j:Nat)(rj:List UInt8),j<=m/\iv=.int .i64 j/\TxI w b l.length rj wr/\Wr.rep Wr.lR m r6=Wr.rep Wr.lR (m-j) rj) (λiv _=>m-(intOf iv).toNat);exact⟨0,r6,by omega,rfl,J5.o,rfl⟩;obtain⟨j,rj,hj,rfl,hI,hE⟩:=hrel;by_cases gV:j<m
 ·have p1:(j:Int)< (m:Int):=by omega
  have E1:=η (show Wr.rep Wr.lR m r6=((Wr.take 8 rj).bind λ_ r=>Wr.script r).bind λ_ r=>Wr.rep Wr.lR (m-(j+1)) r by rw[hE,show m-j=(m-(j+1))+1 by omega];rfl);have T1:=η (jr b 8 rj wr hI.cur ω);have K1:=η hI;clear hI hE;go_wp2_with fail;refine T1.o.mono ?_;clear T1;cases hx:Wr.take 8 rj with
  |bad k=>rintro e w5⟨rfl,h⟩;rw[hx]at E1;exact⟨rfl,RP.jn (by rw[EQ5.o,show Wr.rep Wr.lR m r6=.bad k from E1.o];rfl) (K1.o.bad h)⟩
  |ok t1 r3=>
  rintro e w5⟨rfl,h3,h4⟩;rw[hx]at E1;have E2:=η (show Wr.rep Wr.lR m r6=(Wr.script r3).bind λ_ r=>Wr.rep Wr.lR (m-(j+1)) r from E1.o);have K2:=η (K1.o.step hb h3 h4 ((Wr.jc 8 rj).le hx));have T2:=η (zh b r3 w5 h3);clear h3 h4 K1 E1 hx;go_wp2_with fail;refine T2.o.mono ?_;clear T2;cases hx:Wr.script r3 with
  |bad k=>rintro e w6⟨rfl,h⟩;rw[hx]at E2;exact⟨rfl,RP.jn (by rw[EQ5.o,show Wr.rep Wr.lR m r6=.bad k from E2.o];rfl) (K2.o.bad h)⟩
  |ok u1 r4=>
  rintro e w6⟨rfl,h3,h4⟩;rw[hx]at E2;have E3:=η (show Wr.rep Wr.lR m r6=Wr.rep Wr.lR (m-(j+1)) r4 from E2.o);have K3:=η (K2.o.step hb h3 h4 ((Wr.rL r3).le hx));clear h3 h4 K2 E2 hx;go_wp2_with fail;go_roundw
  ·exact⟨j+1,r4,by omega,by go_num,K3.o,E3.o⟩
  simp[intOf];omega
 obtain rfl:j=m:=by omega
 have EQ6:=η (show Wr.tx l=Wr.txF l (Wr.take 4 rj).void by rw[EQ5.o,hE,bh];rfl);have J6:=η hI;have T6:=η (jr b 4 rj wr hI.cur ω);clear hI hE J5 EQ5 hm hj;go_wp2_with fail;refine T6.o.mono ?_;clear T6;cases hx:Wr.take 4 rj with
 |bad k=>rintro e w5⟨rfl,h⟩;rw[hx]at EQ6;exact⟨rfl,RP.jn EQ6.o (J6.o.bad h)⟩
 |ok t9 r9=>
 rintro e w5⟨rfl,h3,h4⟩;rw[hx]at EQ6;have J7:=η (J6.o.step hb h3 h4 ((Wr.jc 4 rj).le hx));have EQ7:=η (show Wr.tx l=.ok (l.take (l.length-r9.length)) r9 from EQ6.o);have tn:=Wr.aaM EQ7.o;have hle:=J7.o.le;have hc:=J7.o.cur.cell 0;clear h3 h4 J6 EQ6 hx;have q1:wrap64 ((l.length:Int) -(r9.length:Int))=(l.length:Int) -(r9.length:Int):=by unfold wrap64;omega
 have q2:(0:Int)<=(l.length:Int) -(r9.length:Int):=ω;have q3:((l.length:Int) -(r9.length:Int)).toNat=l.length-r9.length:=ω;go_upto_region 16 with fail;generalize l.take (l.length-r9.length)=t at tn EQ7|-;clear hc q1 q2 q3;have HTx:=η (J7.o.but.AL HT.o yM vR);have SQ:=J7.o.but.size;go_wp2_with fail;have I8:TxI w b l.length r9 (w5.alloc (.cells #[.string (str t)] 9)):=J7.o.step hb (J7.o.cur.alloc _) ((iL.refl _ _ _).alloc ν _) ν;refine(Gw w5.heap.size 1 t _ (HTx.o.below ((Below.refl w5.heap.size w5).alloc ν _) ω) ((Row.new w5 [.string (str t)] 9).cell 0) ω).mono ?_;rintro e w6⟨rfl,rE⟩;have I9:TxI w b l.length r9 w6:=I8.step hb (I8.cur.below rE I8.cur.lt) (iL.gL rE) ν;have HI:=η I9;have uW:=I9.own;clear I8 I9 rE HTx J7;go_wp2_with (first|(refine ad4 (o:=⟨some 63,_,_,_,_,_⟩) rfl _ _ rfl t (Mk.gC t) (gP.kI _) rfl rfl ?_)|(with_reducible refine gJ (o:=⟨none,_,_,_,_,_⟩) rfl _ _ _ rfl w.heap.size j1 (gD t) rfl rfl uW (kj.trans aGK) aH8 (iV t) ?_));obtain⟨T2,GH⟩:=uW.setRow (gD t);exact bodyPost_ret (v:=Mi t) (fH (fn:=Tryz.f69) rfl _ _ w.heap.size T2 _ (0,0) _ rfl GH fG rfl (by rw[kj,az,gQ])) rfl (RP.vH EQ7.o (HI.o.cur.gX ω _) (HI.o.but.trans (iL.gL (below_setRow (Below.refl _ _) ν _))))
end
def t0104{p:Prop}(h:p:=by rw[World.size_alloc]at this;exact this.alloc _):p:=h
def t082{p:Prop}(h:p:=by rw[World.size_alloc,World.size_alloc]at this;exact this):p:=h
def t06{p:Prop}(h:p:=by
 generalize w2.setRow g _=w3 at s1 s2 s3 s4 kk|-;refine⟨gI.gF ⟨s1,s2⟩,?_⟩;refine gI.one 4 _ κ rfl rfl ?_;have hz:=s4.free 0;have hc:=s4.cell 0;try go_frame
 go_wp2_with fail;refine⟨gI.gF ⟨s1.other (show h≠A by omega) _,s2.other (show h≠A+1 by omega) _⟩,?_⟩
 refine fg κ ?_ 0;go_wp2_with fail;refine⟨rfl,_,rfl,.tuple #[],fN rfl _ _ _,rfl,rfl,s3.other (aG iZ) _,s4.set 0 _,kk.set _ _ (.inr rfl)⟩):p:=h
section
open Go.RowKit iz
def rV{ops rest o a C Q}(pn:o.guard=none) ty x(ho:o.op=.load ty x) g l (hx:a.eval x=.pointer (some ⟨g,0,none⟩)) (hr:∀w,C w->Row w g l) d (hu:prog.underlying ty=some d) (hi:(prog.info? ty).map (·.size)=some l.length) fs (hd:d=.struct fs) (h:wpQuiet prog ops C Q rest (a.put o.dst (.agg l.toArray))):wpQuiet prog ops C Q (o::rest) a:=by subst hd;unfold wpQuiet;rw[if_pos aGQ];refine⟨_,λw hw=>?_,h⟩;have:=fV (P:=prog) w g 0 ty l _ (λj v hv=>by rw[aC,(hr w hw).cell];exact hv) hu rfl hi;exact t07
def LI g h w:CallsD prog 111 #[.pointer (some ⟨g,0,none⟩),.pointer (some ⟨h,0,none⟩)] .returning w λe u' w'=>e=.returned (.tuple #[])/\u'=.returning/\w'=w:=by refine fX func111 rfl λPC cs hu=>?_;simp only[ntmps111,az,aq,bW,Nat.reduceAdd,Nat.reduceSub,bA,bJ,bZ,bR,aX,aU];apply wpS_seq;apply gq;simp[wpOpsS,go_sem,recoverD,hu,Exit.thenS];refine gy ?_;go_wp2_with fail;cases PC;simp_all[bodyPostS,results,results111]
def rS g h n m l w(hg:Row w g l)(hh:Row w h [.int .i64 m])(hl:l.length=33)(iZ:g≠h):CallsD prog 111 #[.pointer (some ⟨g,0,none⟩),.pointer (some ⟨h,0,none⟩)] (.panicking (oF n)) w λe u' w'=>e=.returned (.tuple #[])/\u'=.panicking [{v:=.iface 178 (.agg #[.int .i64 n]),recovered:=true}]/\Row w' g j1/\Row w' h [.int .i64 n]/\ik (λk=>k=g∨k=h) w w':=by
 refine fX func111 rfl λPC cs hu=>?_;simp only[ntmps111,az,aq,bW,Nat.reduceAdd,Nat.reduceSub,bA,bJ,bZ,bR,aX,aU];apply wpS_seq;apply gq;unfold oF at hu;have hta:∀(w:World),(Instr.typeAssert (.iface 178 (.agg #[.int .i64 n])) 20 178 true).run prog w=.ok (.tuple #[.agg #[.int .i64 n],.bool true]) w:=λw=>by kernel_rfl
 simp[wpOpsS,go_sem,recoverD,hu,Exit.thenS];refine gy ?_;have hzg:=hg.lt;have hzh:=hh.lt;have r1:Row ((w.alloc (.cells #[.int .i64 n] 178)).alloc (.cells j1.toArray 78)) w.heap.size [.int .i64 n]:=(Row.new w [.int .i64 n] 178).alloc _;have r2:Row ((w.alloc (.cells #[.int .i64 n] 178)).alloc (.cells j1.toArray 78)) (w.heap.size+1) j1:=by have:=Row.new (w.alloc (.cells #[.int .i64 n] 178)) j1 78;rwa[World.size_alloc]at this
 have r3:Row ((w.alloc (.cells #[.int .i64 n] 178)).alloc (.cells j1.toArray 78)) g l:=(hg.alloc _).alloc _;have r4:Row ((w.alloc (.cells #[.int .i64 n] 178)).alloc (.cells j1.toArray 78)) h [.int .i64 m]:=(hh.alloc _).alloc _;have kk:ik (λk=>k=g∨k=h) w ((w.alloc (.cells #[.int .i64 n] 178)).alloc (.cells j1.toArray 78)):=((ik.refl _ _).alloc _).alloc _;rw[Tryz.n9]at r1 r2 r3 r4 kk;clear hg hh;go_wp2_with fail;generalize(w.alloc _).alloc _=w1 at r1 r2 r3 r4 kk|-;generalize w.heap.size=A at *;have hu:∀u:gI.Of (λu=>Row u A [.int .i64 n]/\Row u (A+1) j1),u.w.cell? ⟨A,0,none⟩=some (.int .i64 n):=λu=>u.h.1.cell 0;haveI apN:Nonempty (gI.Of (λu=>Row u A [.int .i64 n]/\Row u (A+1) j1)):=⟨⟨w1,r1,r2⟩⟩;refine gI.jl [0,1,2] 2 mixed κ rfl rfl θ ξ rfl (λu=>Row u A [.int .i64 n]/\Row u (A+1) j1) ⟨r1.drew,r2.drew⟩ ?_;show wpQuiet _ _ _ _ [_,_,_] _;refine rV (o:=⟨some 12,_,_,_,_,_⟩) rfl _ _ rfl (A+1) j1 rfl aFW _ fG (kj.trans (by rw[je])) _ rfl ?_;go_frame;repeat(go_big_quiet_step (fail))
 refine fe ?_;have r1:=r1.drew;have r2:=r2.drew;have r3:=r3.drew;have r4:=r4.drew;have kk:=kk.drew;generalize w1.drew=w2 at r1 r2 r3 r4 kk|-;refine gI.one 3 _ κ rfl rfl ?_;refine gJ rfl _ _ _ rfl g l j1 rfl rfl r3 (kj.trans (by rw[je])) (by rw[hl,je]) aFK ?_;have s1:=r1.gX (g:=g) ω j1.toArray;have s2:=r2.gX (g:=g) ω j1.toArray;have s3:=r3.setRow j1;have s4:=r4.gX (g:=g) (aG iZ) j1.toArray;have kk:=kk.setRow g j1.toArray (.inl rfl);exact t06
def lX{fn p u ty}(h:fn.results=#[.cell p ty,.cell u 37]) tmps w g k l n (hp:tmps.getD p undef=.pointer (some ⟨g,0,none⟩)) (hu:tmps.getD u undef=.pointer (some ⟨k,0,none⟩)) (hr:Row w g l) (hk:Row w k [.int .i64 n]) fs (ht:prog.underlying ty=some (.struct fs)) (hi:(prog.info? ty).map (·.size)=some l.length):(results fn tmps).run prog w=.ok (.tuple #[.agg l.toArray,.int .i64 n]) w:=by
 have h2:(loadVar ty ⟨g,0,none⟩).run prog w=.ok (.agg l.toArray) w:=run_loadVar_mid w g 0 _ l _ aF4 ht rfl hi;have hc:w.cell? ⟨k,0,none⟩=some (.int .i64 n):=hk.cell 0;have OJ:tmps[p]?.getD undef=.pointer (some ⟨g,0,none⟩):=by simpa using hp
 have JP:tmps[u]?.getD undef=.pointer (some ⟨k,0,none⟩):=by simpa using hu
 have h3:(loadVar 37 ⟨k,0,none⟩).run prog w=.ok (.int .i64 n) w:=by clear h2;simp[go_sem,hc]
 unfold results;rw[h];simp[asAddr,OJ,JP,h2,h3]
def abA:Wr.R (List UInt8)->Value
 |.ok t _=>.tuple #[Mi t,.int .i64 0]|.bad n=>.tuple #[.agg j1.toArray,.int .i64 n]
def KL l w(hT:km w)(hl:l.length<=9223372036854775807):Calls prog 68 #[.string (str l),.func (.func 69) #[] #[]] w λe w'=>e=.returned (abA (Wr.j2 l))/\Below w.heap.size w w':=by
 have hmf:=Vo;have yM:=hT.lt;have HT:=η hT;have EQ:=η (show Wr.j2 l=(Wr.tx l).bind λa r=>if r=[]then .ok a r else .bad 5 from rfl);have r1:Row (((w.alloc (.cells j1.toArray 78)).alloc (.cells #[.int .i64 0] 37)).alloc (.cells #[.string (str l)] 136)) w.heap.size j1:=((Row.new w j1 78).alloc _).alloc _;have r2:Row (((w.alloc (.cells j1.toArray 78)).alloc (.cells #[.int .i64 0] 37)).alloc (.cells #[.string (str l)] 136)) (w.heap.size+1) [.int .i64 0]:=by have:=Row.new (w.alloc (.cells j1.toArray 78)) [.int .i64 0] 37;exact t0104
 have r3:Row (((w.alloc (.cells j1.toArray 78)).alloc (.cells #[.int .i64 0] 37)).alloc (.cells #[.string (str l)] 136)) (w.heap.size+2) [.string (str l)]:=by have:=Row.new ((w.alloc (.cells j1.toArray 78)).alloc (.cells #[.int .i64 0] 37)) [.string (str l)] 136;exact t082
 have hB:Below w.heap.size w (((w.alloc (.cells j1.toArray 78)).alloc (.cells #[.int .i64 0] 37)).alloc (.cells #[.string (str l)] 136)):=(((Below.refl _ _).alloc ν _).alloc ζ _).alloc aFJ _;rw[Tryz.n9]at r1 r2 r3 hB;clear hT;go_enter_defers func68,ntmps68;go_wp2_with fail;generalize((w.alloc _).alloc _).alloc _=w1 at r1 r2 r3 hB|-;have HB:=η hB;have hz:=hB.size;have rn:=r3.lt;have R1:=η r1;have R2:=η r2;have T1:=η (EG (w.heap.size+2) l w1 (HT.o.below hB yM) ω r3 hl)
 clear r1 r2 r3 hB;refine T1.o.mono ?_;clear T1;cases hx:Wr.tx l with
 |bad n=>rintro e w2⟨rfl,h⟩;rw[hx]at EQ;have H1:=h.row R1.o R1.o.lt ω;have H2:=h.row R2.o R2.o.lt ω;refine fS (f:=111) (args:=#[.pointer (some ⟨w.heap.size,0,none⟩),.pointer (some ⟨w.heap.size+1,0,none⟩)]) ζ aGD ?_;refine(rS w.heap.size (w.heap.size+1) n 0 j1 w2 H1 H2 je ω).mono ?_;rintro e u' w3⟨rfl,rfl,h5,h6,h7⟩;refine⟨_,lX rfl _ _ w.heap.size (w.heap.size+1) j1 n rfl rfl h5 h6 _ fG (kj.trans (by rw[je])),?_,?_⟩;rw[show Wr.j2 l=.bad n from EQ.o];rfl;exact HB.o.trans ⟨h7.os.trans h.os,h7.tape.trans h.tape,h7.output.trans h.output,ak h.size h7.size,λk hk=>(h7.block k (by have:=h.size;omega) ω).trans (h.block k ω ω)⟩
 |ok t r=>
 rintro e w2⟨rfl,h3,h⟩;rw[hx]at EQ;have nE:=η (show Wr.j2 l=if r=[]then .ok t r else .bad 5 from EQ.o);have H1:=h.row R1.o R1.o.lt ω;have H2:=h.row R2.o R2.o.lt ω;have kS:=h.size;have B2:=η (show Below w.heap.size w w2 from HB.o.trans ⟨h.os,h.tape,h.output,h.size,λk hk=>h.block k ω ω⟩);have S1:=η (H1.setRow (gD t));have S2:=η (H2.gX (g:=w.heap.size) ω (gD t).toArray);have S3:=η (h3.gX (g:=w.heap.size) ω (gD t).toArray);have B3:=η (below_setRow B2.o ν (gD t).toArray);clear EQ h h3 H2 R1 R2 HB hx;go_wp2_with (with_reducible refine gJ (o:=⟨none,_,_,_,_,_⟩) rfl _ _ _ rfl w.heap.size j1 (gD t) rfl rfl H1 (kj.trans aGK) aH8 (iV t) ?_);clear H1;generalize w2.setRow _ _=w3 at S1 S2 S3 B3|-;refine(BW (w.heap.size+2) r w3 S3.o).mono ?_;by_cases hr:r=[]
 ·simp only[if_pos hr];rintro e w4⟨rfl,rfl⟩;have uW:=S1.o;have S4:=η (S2.o.gX (g:=w.heap.size) ω (gD t).toArray);have S5:=η (S1.o.setRow (gD t));have B5:=η (below_setRow B3.o ν (gD t).toArray);have SQ:=S4.o.free 0;have hc5:=S4.o.cell 0;go_wp2_with (first|(refine l0 (o:=⟨some 19,_,_,_,_,_⟩) rfl _ _ rfl w.heap.size (gD t) rfl uW _ fG (kj.trans aGK) _ rfl ?_)|(with_reducible refine gJ (o:=⟨none,_,_,_,_,_⟩) rfl _ _ _ rfl w.heap.size (gD t) (gD t) rfl rfl uW (kj.trans aGK) rfl (iV t) ?_));refine fS (f:=111) (args:=#[.pointer (some ⟨w.heap.size,0,none⟩),.pointer (some ⟨w.heap.size+1,0,none⟩)]) ζ aGD ?_;refine(LI w.heap.size (w.heap.size+1) _).mono ?_;rintro e u' w5⟨rfl,rfl,rfl⟩;refine⟨_,lX rfl _ _ w.heap.size (w.heap.size+1) (gD t) 0 rfl rfl (S5.o.other (show w.heap.size+1≠w.heap.size by omega) _) (S4.o.set 0 _) _ fG (kj.trans aGK),?_,?_⟩;rw[show Wr.j2 l=.ok t r from nE.o.trans (if_pos hr)];rfl;exact B5.o.setCell (show w.heap.size<=w.heap.size+1 by omega) _
 simp only[if_neg hr];rintro e w4⟨rfl,rfl⟩;refine fS (f:=111) (args:=#[.pointer (some ⟨w.heap.size,0,none⟩),.pointer (some ⟨w.heap.size+1,0,none⟩)]) ζ aGD ?_;refine(rS w.heap.size (w.heap.size+1) 5 0 (gD t) w4 S1.o S2.o (gQ t) ω).mono ?_;rintro e u' w5⟨rfl,rfl,h5,h6,h7⟩;refine⟨_,lX rfl _ _ w.heap.size (w.heap.size+1) j1 5 rfl rfl h5 h6 _ fG (kj.trans (by rw[je])),?_,?_⟩;rw[show Wr.j2 l=.bad 5 from nE.o.trans (if_neg hr)];rfl;exact B3.o.trans ⟨h7.os,h7.tape,h7.output,h7.size,λk hk=>h7.block k aIP ω⟩
def MN(n:Int):∀(w:World),(Instr.typeAssert (.iface 178 (.agg #[.int .i64 n])) 20 178 true).run prog w=.ok (.tuple #[.agg #[.int .i64 n],.bool true]) w:=λw=>by kernel_rfl
end
def t067{p:Prop}(h:p:=by cases x with|ok a r=>exact jo a r rfl h|bad e=>have h':st.2=e/\e≠0:=h;exact⟨by rw[Tq (by rw[h'.1];exact h'.2),h'.1],h'.2⟩):p:=h
def t066{p:Prop}(h:p:=by cases x with|ok a r=>exact jo a r rfl h|bad e=>have h':p.2.2=e/\e≠0:=h;exact⟨by rw[Tq (by rw[h'.1];exact h'.2),h'.1],h'.2⟩):p:=h
section
open iz
namespace Rf
open Wr
abbrev St:=List UInt8×Nat
def ki(e:Nat)(st:St):St:=if st.2=0 then(st.1,e)else st
def take(n:Nat)(st:St):List UInt8×St:=if st.2≠0 then([],st)else if st.1.length<n then([],(st.1,1))else(st.1.take n,(st.1.drop n,0))
def sH(b:UInt8)(st:St):Nat×St:=
 let p:=take (more b) st
 (iE.lu p.1,if p.2.2=0/\jT (iE.lu p.1)≠b::p.1 then ki 2 p.2 else p.2)
def size(st:St):Nat×St:=
 let p:=take 1 st
 if p.2.2≠0 then(0,p.2)else if nth p.1 0<253 then((nth p.1 0).toNat,p.2)else sH (nth p.1 0) p.2
def bound(lo hi:Nat)(p:Nat×St):St:=if p.2.2=0/\(p.1<lo∨hi<p.1)then ki 3 p.2 else p.2
def within(lo hi:Nat)(st:St):Nat×St:=
 let q:=bound lo hi (size st)
 if q.2≠0 then(0,q)else((size st).1,q)
def done(st:St):Nat:=if st.2=0/\st.1≠ []then 5 else st.2
def script(st:St):St:=(take (within 0 40 st).1 (within 0 40 st).2).2
def sk(st:St):St:=(take 4 (script (take 36 st).2)).2
def lR(st:St):St:=script (take 8 st).2
def rep(f:St->St):Nat->St->St
 |0,st=>st|n+1,st=>rep f n (f st)
def ins(st:St):St:=rep sk (within 1 4 st).1 (within 1 4 st).2
def outs(st:St):St:=rep lR (within 1 4 st).1 (within 1 4 st).2
def body(st:St):St:=(take 4 (outs (ins (take 4 st).2))).2
def tx(st:St):List UInt8×St:=(st.1.take (st.1.length-(body st).1.length),body st)
def jX:Nat->St->List (List UInt8)×St
 |0,st=>([],st)|n+1,st=>if st.2≠0 then([],st)else((tx st).1::(jX n (tx st).2).1,(jX n (tx st).2).2)
def index(next bound:Nat)(st:St):Nat×St:=
 let p:=size st;let q:=if p.2.2=0/\(bound<=p.1∨bound<=next+p.1)then ki 4 p.2 else p.2
 if q.2≠0 then(0,q)else(next+p.1,q)
def iG(bound:Nat):Nat->Nat->St->List (Nat×List UInt8)×St
 |0,_,st=>([],st)|n+1,next,st=>if st.2≠0 then([],st)else
  let p:=index next bound st
  let t:=tx p.2;let q:=iG bound n (p.1+1) t.2
  ((p.1,t.1)::q.1,q.2)
def jK(k:Nat):Nat->St->List (List UInt8)×St
 |0,st=>([],st)|n+1,st=>if st.2≠0 then([],st)else
  let p:=take k st;let q:=jK k n p.2
  (p.1::q.1,q.2)
def kO n st(h:st.2≠0):take n st=([],st):=by unfold take;rw[if_pos h]
def MS st(h:st.2≠0):size st=(0,st):=by unfold size;simp only[kO 1 st h];rw[if_pos h]
def nG lo hi st(h:st.2≠0):within lo hi st=(0,st):=by unfold within bound;simp only[MS st h];rw[if_neg (by omega:¬(st.2=0/\_)),if_pos h]
def tP st(h:st.2≠0):script st=st:=by unfold script;rw[nG _ _ st h,kO _ _ h]
def VB st(h:st.2≠0):sk st=st:=by unfold sk;rw[kO _ st h,tP st h,kO _ st h]
def N7 st(h:st.2≠0):lR st=st:=by unfold lR;rw[kO _ st h,tP st h]
def Vz st(h:st.2≠0):ins st=st:=by unfold ins;rw[nG _ _ st h];rfl
def Gc st(h:st.2≠0):outs st=st:=by unfold outs;rw[nG _ _ st h];rfl
theorem Ei f(hf:∀st,st.2≠0->f st=st):∀n st,st.2≠0->rep f n st=st
 |0,_,_=>rfl|n+1,st,h=>by rw[rep,hf st h,Ei f hf n st h]
def ad7 st(h:st.2≠0):body st=st:=by unfold body;rw[kO _ st h,Vz st h,Gc st h,kO _ st h]
def ajK st(h:st.2≠0):(tx st).2=st:=by unfold tx;rw[ad7 st h]
def Ee n st(h:st.2≠0):jX n st=([],st):=by cases n with|zero=>rfl|succ n=>rw[jX,if_pos h]
def qE b n next st(h:st.2≠0):iG b n next st=([],st):=by cases n with|zero=>rfl|succ n=>rw[iG,if_pos h]
def sG k n st(h:st.2≠0):jK k n st=([],st):=by cases n with|zero=>rfl|succ n=>rw[jK,if_pos h]
def Ag{α β:Type}(x:R α)(f:α->β)(p:β×St):Prop:=match x with
 |.ok a r=>p=(f a,(r,0))
 |.bad e=>p.2.2=e/\e≠0
def As{α:Type}(x:R α)(st:St):Prop:=match x with
 |.ok _ r=>st=(r,0)
 |.bad e=>st.2=e/\e≠0
def Ag.aFI{α β}{x:R α}{f}{p:β×St}(h:Ag x f p):As x p.2:=by cases x with|ok a r=>have:p=_:=h;rw[this];rfl|bad e=>exact h
def As.void{α}{x:R α}{st}(h:As x st):As x.void st:=by cases x<;>exact h
theorem Ag.bind{α β γ δ x f}{p:β×St}{k:α->List UInt8->R γ}{g}{q:δ×St}(h:Ag x f p) (jo:∀a r,x=.ok a r->p=(f a,(r,0))->Ag (k a r) g q) (Tq:p.2.2≠0->q.2.2=p.2.2):Ag (x.bind k) g q:=by exact t066
def Ag.vY{α β γ x f}{p:β×St}{k:α->List UInt8->R γ}{st}(h:Ag x f p) (jo:∀a r,x=.ok a r->p=(f a,(r,0))->As (k a r) st) (Tq:p.2.2≠0->st.2=p.2.2):As (x.bind k) st:=by exact t066
theorem As.bind{α γ δ x st}{k:α->List UInt8->R γ}{g}{q:δ×St}(h:As x st) (jo:∀a r,x=.ok a r->st=(r,0)->Ag (k a r) g q) (Tq:st.2≠0->q.2.2=st.2):Ag (x.bind k) g q:=by exact t067
def As.vY{α γ x st st'}{k:α->List UInt8->R γ}(h:As x st) (jo:∀a r,x=.ok a r->st=(r,0)->As (k a r) st') (Tq:st.2≠0->st'.2=st.2):As (x.bind k) st':=by exact t067
def nB n l:Ag (Wr.take n l) id (take n (l,0)):=by unfold Wr.take take;by_cases h:l.length<n;simp[h,Ag];simp[h,Ag]
def take_len{n l a r}(h:Wr.take n l=.ok a r):a.length=n:=by unfold Wr.take at h;split at h;cases h;cases h;rw[aJ];omega
def MU b(hb:¬b<253) l:Ag (Wr.rest b l) id (sH b (l,0)):=by unfold Wr.rest sH;refine(nB (more b) l).bind (λu r hu hp=>?_) (λh=>?_);rw[hp];have hl:=take_len hu;have he:=aa9 b u hb hl;dsimp only[id];by_cases h:iE.lu u<least b;rw[if_pos h,if_pos ⟨rfl,λe=>by have:=he.1 e;omega⟩];exact⟨rfl,by decide⟩;rw[if_neg h,if_neg (λhh=>hh.2 (he.2 ω))];rfl;dsimp only;rw[if_neg (λhh=>h hh.1)]
def UK l:Ag (Wr.size l) id (size (l,0)):=by
 unfold Wr.size size;refine(nB 1 l).bind (λt r ht hp=>?_) (λh=>?_);rw[hp];dsimp only[id];have e0:¬((0:Nat)≠0):=by simp
 rw[if_neg e0];by_cases h:nth t 0<253;rw[if_pos h,if_pos h];rfl;rw[if_neg h,if_neg h];exact MU _ h r;dsimp only;rw[if_pos h]
def qy lo hi l:Ag (Wr.kK lo hi l) id (within lo hi (l,0)):=by unfold Wr.kK within bound;refine(UK l).bind (λx r hx hp=>?_) (λh=>?_);rw[hp];dsimp only[id];by_cases h:x<lo∨hi<x;simp[h,ki,Ag];simp[h,Ag];simp[h]
def Jh l:As (Wr.script l) (script (l,0)):=by unfold Wr.script script;refine(qy 0 40 l).vY (λn r hx hp=>?_) (λh=>?_);rw[hp];exact(nB n r).aFI.void;rw[kO _ _ h]
def akD l:As (Wr.sk l) (sk (l,0)):=by unfold Wr.sk sk;refine(nB 36 l).vY (λa r hx hp=>?_) (λh=>?_);rw[hp];refine(Jh r).vY (λa r hx hp=>?_) (λh=>?_);rw[hp];exact(nB 4 r).aFI.void;rw[kO _ _ h];rw[tP _ h,kO _ _ h]
def agq l:As (Wr.lR l) (lR (l,0)):=by unfold Wr.lR lR;refine(nB 8 l).vY (λa r hx hp=>?_) (λh=>?_);rw[hp];exact Jh r;rw[tP _ h]
theorem Rj{p f}(hp:∀l,As (p l) (f (l,0)))(hf:∀st,st.2≠0->f st=st):∀n l,As (Wr.rep p n l) (rep f n (l,0))
 |0,_=>rfl|n+1,l=>by rw[Wr.rep,rep];refine(hp l).vY (λa r hx hs=>?_) (λh=>?_);rw[hs];exact Rj hp hf n r;rw[Ei f hf n _ h]
def ahO l:As (Wr.body l) (body (l,0)):=by
 unfold Wr.body body;refine(nB 4 l).vY (λa r hx hp=>?_) (λh=>?_);rw[hp];have h1:∀r,As ((Wr.kK 1 4 r).bind λn r=>Wr.rep Wr.sk n r) (ins (r,0)):=λr=>by refine(qy 1 4 r).vY (λn r' hx hp=>?_) (λh=>?_);unfold ins;rw[hp];exact Rj akD VB n r';unfold ins;rw[Ei sk VB _ _ h]
 have h2:∀r,As ((Wr.kK 1 4 r).bind λn r=>Wr.rep Wr.lR n r) (outs (r,0)):=λr=>by refine(qy 1 4 r).vY (λn r' hx hp=>?_) (λh=>?_);unfold outs;rw[hp];exact Rj agq N7 n r';unfold outs;rw[Ei lR N7 _ _ h]
 have h3:=h1 r;have e:((Wr.kK 1 4 r).bind λn r=>(Wr.rep Wr.sk n r).bind λ_ r=>(Wr.kK 1 4 r).bind λn r=>(Wr.rep Wr.lR n r).bind λ_ r=>(Wr.take 4 r).void) =
   ((Wr.kK 1 4 r).bind λn r=>Wr.rep Wr.sk n r).bind λ_ r=>((Wr.kK 1 4 r).bind λn r=>Wr.rep Wr.lR n r).bind λ_ r=>(Wr.take 4 r).void:=by
  rw[R.Cf];congr 1;funext n r;congr 1;funext _ r;rw[R.Cf]
 rw[e];refine h3.vY (λ_ r' hx hp=>?_) (λh=>?_);dsimp only[id];rw[hp];refine(h2 r').vY (λ_ r'' hx hp=>?_) (λh=>?_);rw[hp];exact(nB 4 r'').aFI.void;rw[kO _ _ h];dsimp only[id];rw[Gc _ h,kO _ _ h];rw[Vz _ h,Gc _ h,kO _ _ h]
def UF l:Ag (Wr.tx l) id (tx (l,0)):=by unfold Wr.tx tx;refine(ahO l).bind (λa r hx hp=>?_) (λh=>rfl);rw[hp];rfl
theorem aaL:∀n l,Ag (Wr.jX n l) id (jX n (l,0))
 |0,_=>rfl|n+1,l=>by
  rw[Wr.jX,jX,if_neg (show¬((l,0):St).2≠0 by simp)];refine(UF l).bind (λt r hx hp=>?_) (λh=>?_);rw[hp];have ih:=aaL n r;dsimp only[id];generalize Wr.jX n r=x at ih;cases x with|ok a r'=>have:jX n (r,0)=_:=ih;rw[this];rfl|bad e=>exact ih
  rw[Ee _ _ h]
def acu next b l:Ag (Wr.index next b l) id (index next b (l,0)):=by
 unfold Wr.index index;refine(UK l).bind (λx r hx hp=>?_) (λh=>?_)
 ·rw[hp];dsimp only[id];by_cases h:b<=x∨b<=next+x
  simp[h,ki,Ag];simp[h,Ag]
 simp[h]
theorem NU b:∀n next l,Ag (Wr.iG b n next l) id (iG b n next (l,0))
 |0,_,_=>rfl|n+1,next,l=>by
  rw[Wr.iG,iG,if_neg (show¬((l,0):St).2≠0 by simp)];refine(acu next b l).bind (λi r hx hp=>?_) (λh=>?_);rw[hp];dsimp only[id];refine(UF r).bind (λt r2 hx hp=>?_) (λh=>?_);rw[hp];have ih:=NU b n (i+1) r2;dsimp only[id];generalize Wr.iG b n (i+1) r2=x at ih;cases x with|ok a r'=>have:iG b n (i+1) (r2,0)=_:=ih;rw[this];rfl|bad e=>exact ih
  rw[qE _ _ _ _ h];dsimp only;rw[ajK _ h,qE _ _ _ _ h]
theorem MJ k:∀n l,Ag (Wr.jK k n l) id (jK k n (l,0))
 |0,_=>rfl|n+1,l=>by
  rw[Wr.jK,jK,if_neg (show¬((l,0):St).2≠0 by simp)];refine(nB k l).bind (λi r hx hp=>?_) (λh=>?_);rw[hp];have ih:=MJ k n r;dsimp only[id];generalize Wr.jK k n r=x at ih;cases x with|ok a r'=>have:jK k n (r,0)=_:=ih;rw[this];rfl|bad e=>exact ih
  dsimp only;rw[sG _ _ _ h]
theorem Ac{α β}{x:R α}{f}{p:β×St}(h:Ag x f p):match fin x with
  |.ok a _=>done p.2=0/\p.1=f a
  |.bad e=>done p.2=e/\e≠0:=by
 cases x with
 |ok a r=>
  have h':p=_:=h;rw[h'];unfold fin done;dsimp only[R.bind];by_cases hr:r=[]
  ·rw[if_pos hr];dsimp only;exact⟨by rw[if_neg (λhh=>hh.2 hr)],rfl⟩
  ·rw[if_neg hr];dsimp only;exact⟨by rw[if_pos ⟨rfl,hr⟩],by decide⟩
 |bad e=>
  have h':p.2.2=e/\e≠0:=h;unfold fin done;dsimp only[R.bind];exact⟨by rw[if_neg (λhh=>h'.2 (by rw[<-h'.1];exact hh.1)),h'.1],h'.2⟩
end Rf
end
section
open Go.RowKit iz
def Yz x:∃(cs:List Value)(n:Int),abA x=.tuple #[.agg cs.toArray,.int .i64 n]/\cs.length=33/\cs.all (·.oneCell')=true:=by cases x with|ok t r=>exact⟨gD t,0,rfl,gQ t,iV t⟩|bad n=>exact⟨j1,n,rfl,je,by decide +kernel⟩
def jE{fn p u ty}(h:fn.results=#[.cell p ty,.tmp u]) tmps w g l v (hp:tmps.getD p undef=.pointer (some ⟨g,0,none⟩)) (hu:tmps.getD u undef=v) (hr:Row w g l) fs (ht:prog.underlying ty=some (.struct fs)) (hi:(prog.info? ty).map (·.size)=some l.length):(results fn tmps).run prog w=.ok (.tuple #[.agg l.toArray,v]) w:=by have h2:(loadVar ty ⟨g,0,none⟩).run prog w=.ok (.agg l.toArray) w:=run_loadVar_mid w g 0 _ l _ aF4 ht rfl hi;exact t044
def Ii l w(hT:km w)(hl:l.length<=9223372036854775807):Calls prog 35 #[.string (str l)] w λe w'=>e=.returned (abA (Wr.j2 l))/\Below w.heap.size w w':=by
 obtain⟨cs,n,hE,tu,qZ⟩:=Yz (Wr.j2 l);rw[hE];have yM:=hT.lt;have r1:Row (w.alloc (.cells j1.toArray 78)) w.heap.size j1:=Row.new w j1 78;have hB:Below w.heap.size w (w.alloc (.cells j1.toArray 78)):=(Below.refl _ _).alloc ν _;rw[Tryz.n9]at r1 hB;go_enter func35,ntmps35;go_wp2_with fail;generalize w.alloc _=w1 at r1 hB|-;have HB:=η hB;have R1:=η r1;have hz:=r1.lt;have T1:=η (KL l w1 (hT.below hB yM) hl);rw[hE]at T1;clear hT hB r1 hE;refine T1.o.mono ?_;clear T1;rintro e w2⟨rfl,h2⟩;have H1:=R1.o.below h2 hz;have B2:=η (HB.o.trans (h2.mono ω))
 have S1:=η (H1.setRow cs);have B3:=η (below_setRow B2.o ν cs.toArray);clear h2 R1 HB;go_wp2_with (with_reducible refine gJ (o:=⟨none,_,_,_,_,_⟩) rfl _ _ _ rfl w.heap.size j1 cs rfl rfl H1 (kj.trans (by rw[tu])) (by rw[tu,je]) qZ ?_);exact bodyPost_ret (v:=.tuple #[.agg cs.toArray,.int .i64 n]) (jE rfl _ _ w.heap.size cs (.int .i64 n) rfl rfl S1.o _ fG (kj.trans (by rw[tu]))) rfl ⟨rfl,B3.o⟩
def mz t:(Mk.gC t).length=32:=gP.kI _
def Ff{l n}(h:Wr.j2 l=.bad n):n≠0:=by have:=Rf.Ac (Rf.UF l);rw[show Wr.fin (Wr.tx l)=.bad n from h]at this;exact this.2
end
