import Derived.Test.YtlpcjiollnnmgaaGreatDoorM07
import Derived.OrdersHeld
import Derived.Test.YtlpcjiollnnmgaaGreatDoorProg
set_option maxRecDepth 100000
set_option maxHeartbeats 8000000
set_option linter.all false
namespace Go.Proofs.YtlpcjiollnnmgaaGreatDoor
namespace Ph
open Go.Conc Rn
open Go.ConcN (sumTo upd sumTo_upd upd_ne upd_same le_sumTo)
open Tp (MoveRe Term Ld)
variable{α:Type}{C:Cfg α}
section
variable{all:List α}{gs gs':Array Goroutine}{w w':World}{t u:Trace}{D D':Nat->Pd α}{cj cr cj' cr':Bool}{sent rcvd sent' rcvd':Nat}{sl:Option (Nat×Nat)}
def Pro.allOld{s}(h:Pro C all s cj cr sent rcvd)(hp:0<C.n)(h3:3<=sent){i}(hi:i<C.n+4)(hr:C.rl i=1):∃q,s i=.old 1 q:=by
 have h1:=sum_workers (C:=C) hp;have h2:=sumTo_eq (f:=λi=>(s i).said) (g:=λi=>if C.rl i=1 then 1 else 0) (C.n+4) (λi hi=>by have:=said_le (s i);rwa[h.role i hi]at this) (by rw[h1,<-h.said];omega) i hi;replace h2:(s i).said=if C.rl i=1 then 1 else 0:=h2
 rw[if_pos hr]at h2;cases hs:s i with
 |old r q=>
  rw[hs]at h2;match r,h2 with
  |0,h2=>cases h2
  |1,_=>exact⟨q,rfl⟩
  |r+2,h2=>cases h2
 |_=>rw[hs]at h2;cases h2
def grp_cases(hp:0<C.n){i}(hi:C.grp i):i=0∨C.rl i=1∨i=C.n+3:=by rcases hi with h|⟨h1,h2⟩;exact .inl h;by_cases h3:i=C.n+3;exact .inr (.inr h3);refine .inr (.inl ?_);unfold Cfg.rl;rw[if_neg (by omega),if_neg (by omega),if_pos (by omega)]
def shut_new(I:Inv C all gs w t D cj cr sent rcvd)(T:Tr C t D sent rcvd)(hi:∀r q,(D (C.n+3)).st≠.old r q)(h3:rcvd=3) fn pos:ShutAt C (t++closeOps (C.n+3) fn pos C.N.R):=by
 have hp:=I.pos;let z1:MemOp:={g:=C.n+3,fn:=fn,pos:=pos,act:=.access ⟨.obj C.N.R,false,true⟩};let z2:MemOp:={g:=C.n+3,fn:=fn,pos:=pos,act:=.close C.N.R};have hu:closeOps (C.n+3) fn pos C.N.R=#[z1,z2]:=rfl;have hpos1:(t++closeOps (C.n+3) fn pos C.N.R)[t.size]? =some z1:=by rw[hu,Array.getElem?_append_right (Nat.le_refl _),Nat.sub_self];rfl
 have hpos2:(t++closeOps (C.n+3) fn pos C.N.R)[t.size+1]? =some z2:=by rw[hu,Array.getElem?_append_right (by omega),show t.size+1-t.size=1 by omega];rfl
 have hgrp:C.grp (C.n+3):=.inr ⟨by omega,by omega⟩;have hd:=T.deaf _ hgrp hi;have hheard:(t++closeOps (C.n+3) fn pos C.N.R).heard (t.size+1):=by refine⟨C.n+3,by rw[Trace.g?,hpos2];rfl,?_⟩;rw[deaf_succ hpos1,deaf_old (Nat.le_refl _)];show deafStep _ (Deaf t _) z1=0;rw[hd];rfl
 refine⟨t.size+1,z2,hpos2,rfl,rfl,hheard,λp y a hpy hg h0 ha=>?_⟩;rcases grp_cases hp hg with h|h|h;exact absurd h h0;have hlt:=I.grp_lt hg;obtain⟨q,hq⟩:=I.pro.allOld hp (by have:=I.pro.le;omega) hlt h;obtain⟨s,k,z,s1,s2,s3,s4,s5,s6,s7⟩:=T.said y.g q hlt hq;have hsent:sent<=3:=by have h1:=sum_workers (C:=C) hp;have h2:=sumTo_le (f:=λi=>(sts D i).said) (g:=λi=>if C.rl i=1 then 1 else 0) (C.n+4) (λi hi=>by have:=said_le (sts D i);rwa[I.pro.role i hi]at this);rw[h1,<-I.pro.said]at h2;exact h2
 have hk:=s7 (by omega);have hsc:HappensBefore (t++closeOps (C.n+3) fn pos C.N.R) s (t.size+1):=hk.hb_new (by omega) hpos2 rfl;have hslt:=lt_size_of_getElem? s1;have hps:p<s:=by rcases getElem?_append_cases hpy with⟨_,hp'⟩|⟨_,hyu⟩;exact s6 p y a hp' rfl ha;have:=(closeOps_mem hyu).1;rw[this]at h;unfold Cfg.rl at h;rw[if_neg (by omega),if_neg (by omega),if_neg (by omega)]at h;omega
 have hs1:(t++closeOps (C.n+3) fn pos C.N.R)[s]? =some z:=by rw[getElem?_append_old hslt];exact s1
 exact .inr ((hb_po hps hpy hs1 s2.symm).trans hsc);have hlt2:p<t.size+1:=by rcases getElem?_append_cases hpy with⟨hp',_⟩|⟨hp',hyu⟩;omega;have h2:=lt_size_of_getElem? hpy;rw[hu]at h2;simp at h2;by_cases hpe:p=t.size+1;subst hpe;rw[hpos2]at hpy;cases hpy;cases ha;omega
 exact .inr (hb_po hlt2 hpy hpos2 h)
def move_closeR(L:Law C)(hbase:∀i,C.n<=i->i<C.n+4->C.R i=[base C.P])(I:Inv C all gs w t D cj cr sent rcvd)(T:Tr C t D sent rcvd){i}(hi:i<C.n+4)(hst:(D i).st=.live .closeR)(hA:C.N.A .closeR (D i).g (D i).v):Goes C all gs w sl t D i:=by
 obtain⟨g',hx,hlt,hgr⟩:=at_of L I hi hst;obtain⟨s,r,hc⟩:=I.chR;have e1:sts D i=.live .closeR:=hst;have hstage:cj=true/\cr=false/\rcvd=3:=by have:=I.pro.stage i hi;rw[e1]at this;exact this
 obtain⟨rfl,rfl,hr3⟩:=hstage;obtain⟨hmay,hact⟩:=L.actClose .closeR C.N.R _ _ _ _ _ (.inr ⟨rfl,rfl⟩) hA hgr;have hstep:=hact (i==0) w s r hc;have hi0:i≠0:=I.notzero hi hst (by simp[Ctl.role]);have hi3:=feeder_is I hi (by rw[e1];rfl);have hgrp:C.grp i:=I.grp hi (by rw[hst];exact role_pos (α:=α) .closeR);rw[hbase i (by omega) hi]at hgr;obtain⟨q,hq⟩:=L.nCloseR _ _ _ _ hA hgr;have hno1:∀r q,(D i).st≠.old r q:=λr q e=>by rw[hst]at e;cases e
 have hd0:Deaf t i=0:=T.deaf i hgrp hno1;have hrun:=runT_crowd_go (P:=C.P) (sl:=sl) hx hstep;rw[ofEvents_close]at hrun;have hlt2:C.N.R<w.heap.size:=(Array.getElem?_eq_some_iff.1 hc).1;have hR1:(w.heap.setIfInBounds C.N.R (.chan 0 #[] true s r false))[C.N.R]? =some (.chan 0 #[] true s r false):=Array.getElem?_setIfInBounds_self_of_lt hlt2;have hJ1:∃s2 r2,(w.heap.setIfInBounds C.N.R (.chan 0 #[] true s r false))[C.N.J]? =some (.chan 0 #[] true s2 r2 false):=by obtain⟨s2,r2,h2⟩:=I.chJ;exact⟨s2,r2,by rw[Array.getElem?_setIfInBounds_ne (Ne.symm I.ne.1)];exact h2⟩
 have hD1:(w.heap.setIfInBounds C.N.R (.chan 0 #[] true s r false))[C.N.D]? =_:=(Array.getElem?_setIfInBounds_ne I.ne.2.2).trans I.chD;have hother:∀j,j<C.n+4->j≠i->(sts D j).role≠2:=λj hj hji e=>hji ((feeder_is I hj e).trans hi3.symm);have hworker:∀j,j<C.n+4->(sts D j).role=1->∃q,sts D j=.old 1 q:=λj hj e=>I.pro.allOld I.pos (by have:=I.pro.le;omega) hj (by rw[<-I.pro.role j hj];exact e);have hsts:=sts_wake kR i ((D i).to (.old 2 q) (D i).g) D;have hpro:=close_pro (cj':=true) (cr':=true) I hi kR (.old 2 q) (by rw[e1];rfl) (λp=>by rw[e1];rfl) (by rw[e1];rfl) (λc e=>by cases e) ⟨rfl,rfl,hr3⟩ (λj hj hji=>by
 have h1:=I.pro.stage j hj;have h2:=hother j hj hji;refine Stage.wake (λc e hk=>?_) (λhk=>?_);cases c<;>first|exact(Bool.noConfusion hk)|exact trivial
 cases hs:sts D j with
 |old r q=>
  rw[hs]at h1 h2;match r,h1,h2 with
  |0,_,_=>exact trivial
  |1,_,_=>exact rfl
  |2,_,h2=>exact absurd rfl h2
  |r+3,_,_=>exact trivial
 |unborn c=>
 have h3:=hworker j hj;rw[hs]at h1 h2 h3;cases c<;>first|exact absurd rfl h2|exact h1.elim|skip
 obtain⟨_,h3⟩:=h3 rfl;cases h3
 |born c=>
 have h3:=hworker j hj;rw[hs]at h1 h2 h3;cases c<;>first|exact absurd rfl h2|exact h1.elim|skip
 obtain⟨_,h3⟩:=h3 rfl;cases h3
 |live c=>
 have h3:=hworker j hj;rw[hs]at h1 h2 h3;cases c<;>first|exact absurd rfl h2|exact trivial|skip
 all_goals (obtain⟨_,h3⟩:=h3 rfl;cases h3)
 |park c=>
 have h3:=hworker j hj;rw[hs]at h1 h2 h3;cases c<;>first|exact absurd rfl h2|exact h1.elim|skip
 obtain⟨_,h3⟩:=h3 rfl;cases h3;obtain⟨_,h3⟩:=h3 rfl;cases h3;exact absurd (hk _ hs) (by simp[kR])) (by rw[e1];rfl)
 have hno:∀g,C.grp g->C.N.R∉ (D g).X:=λg hg hm=>(I.sees g (I.grp_lt hg)).nochan C hm hc;refine⟨_,_,_,λj=>if j=i then(D i).to (.old 2 q) (D i).g else(D j).to (wake kR (D j).st) (D j).g,true,true,sent,rcvd,hrun,?_,?_,close_less I hi kR (.old 2 q) (by rw[e1];show(0:Nat)<1;omega) hsts,kept_chan (λl=>(by split<;>first|(rename_i e;subst e;rfl)|rfl)) (.inr (.inl rfl)) rfl rfl rfl rfl⟩;refine close_at (c:=.closeR) (ch:=C.N.R) L I hi hi0 hx hmay kR ((D i).to (.old 2 q) (D i).g) ⟨rfl,rfl⟩ (.tuple #[]) rfl ⟨⟨_,rfl,by rw[hd0];exact hq⟩,λ_=>hA⟩ (λj hj h=>?_) (λj c g2 hj hji e hk=>?_) (λj c g2 hj hji e hk=>?_) (λc hk n e=>by subst e;cases hk) hJ1 ⟨s,r,hR1⟩ hD1 (λop hop=>(closeOps_mem hop).2.1) (by rw[hsts];exact hpro);exact h.chan C hc (.chan 0 #[] true s r false) w.drawn;cases c<;>first|exact(Bool.noConfusion hk)|skip
 exact⟨again_recv_closed hR1,rfl⟩;have h1:=I.pro.stage j hj;rw[show sts D j=_ from e]at h1;have h2:=hother j hj hji;have h3:=hworker j hj;rw[show sts D j=_ from e]at h2 h3;cases c with
 |recvJ=>obtain⟨_,h3⟩:=h3 rfl;cases h3
 |sendR a=>obtain⟨_,h3⟩:=h3 rfl;cases h3
 |recvR got=>cases hk
 |sendJ a rem=>exact absurd rfl h2|recvD k=>exact absurd rfl h2
 |_=>exact h1.elim
 refine T.close hgrp (.inr rfl) hno (λc e=>by rw[hst]at e;cases e) (λg=>?_) (λj c e=>?_) (λj r q e=>?_) (λj q e=>?_) (λq e=>?_);split;rename_i hg;subst hg;rfl;rfl;refine⟨c,?_⟩;rw[if_neg (λhji=>by subst hji;rw[hst]at e;cases e)];show wake kR (D j).st=_;rw[e];rfl;refine⟨r,q,?_⟩;rw[if_neg (λhji=>by subst hji;rw[hst]at e;cases e)];show wake kR (D j).st=_;rw[e];rfl;split at e;cases e;rename_i hji;refine⟨hji,?_⟩;change wake kR (D j).st=_ at e;cases hs:(D j).st with
 |park c=>rw[hs,wake_park]at e;split at e<;>cases e
 |_=>rw[hs]at e;exact e
 subst hi3;exact shut_new I T hno1 hr3 _ _
end
end Ph
namespace Ph
open Go.Conc Rn
open Go.ConcN (sumTo upd sumTo_upd upd_ne upd_same le_sumTo fork_knows)
open Tp (MoveRe Term Ld)
variable{α:Type}{C:Cfg α}
section
variable{all:List α}{gs gs':Array Goroutine}{w w':World}{t u:Trace}{D D':Nat->Pd α}{cj cr cj' cr':Bool}{sent rcvd sent' rcvd':Nat}{sl:Option (Nat×Nat)}
def ok_none{i d}(h:Ok C t i none d):∃c,d.st=.unborn c/\C.R i=[base C.P]/\GR C.P C.E d.X (C.R i) d.g (C.first i)/\Term C.P (C.N.Stop c) d.g d.v:=by
 unfold Ok at h;cases hs:d.st with
 |old r q=>rw[hs]at h;obtain⟨⟨y,h,_⟩,_⟩:=h;cases h
 |unborn c=>rw[hs]at h;exact⟨c,rfl,h.2⟩|born c=>rw[hs]at h;cases h.1
 |live c=>rw[hs]at h;obtain⟨y,h,_⟩:=h;cases h
 |park c=>rw[hs]at h;obtain⟨y,h,_⟩:=h;cases h
def move_spawn(L:Law C)(I:Inv C all gs w t D cj cr sent rcvd)(T:Tr C t D sent rcvd){k}(hst:(D 0).st=.live (.spawn k))(hA:C.N.A (.spawn k) (D 0).g (D 0).v)(hX:C.ok0 (D 0).X):Goes C all gs w sl t D 0:=by
 have hp:=I.pos;have h0:0<C.n+4:=by omega
 obtain⟨g',hx,hlt,hgr⟩:=at_of L I h0 hst;obtain⟨hk3,hsz⟩:k<=3/\gs.size=C.n+k:=by rcases I.main with⟨k',h1,h2,h3⟩|⟨⟨_,h|h⟩,_⟩;rw[hst]at h2;cases h2;exact⟨h1,h3⟩;rw[hst]at h;cases h;rw[hst]at h;cases h
 have hstep:=L.actSpawn k _ _ _ _ _ hk3 hX hA hgr true w;have hrun:=runT_crowd_spawn (P:=C.P) (sl:=sl) (i:=0) hx hstep;rw[ofEvents_nil]at hrun;have hj:C.n+k<C.n+4:=by omega
 have hnone:gs[C.n+k]? =none:=Array.getElem?_eq_none (by omega);have hokj:=I.ok (C.n+k) hj;rw[hnone]at hokj;obtain⟨c,hjst,hR,hgrj,htermj⟩:=ok_none hokj;have hnext:∃ci:Ctl α,Term C.P (C.N.Stop ci) (doneG (D 0).g undef) (D 0).v/\ci.role=3/\(∀p,ci.tok p=0)/\Stage cj cr rcvd (.live ci)/\ci.ev<5-k/\((∃k',k'<=3/\(St.live ci:St α)=.live (.spawn k')/\C.n+k+1=C.n+k')∨((∃got,(St.live ci:St α)=.live (.recvR got)∨(St.live ci:St α)=.park (.recvR got))/\C.n+k+1=C.n+4)):=by by_cases h3:k=3;subst h3;exact⟨.recvR [],L.nSpawn3 _ _ hA,rfl,λ_=>rfl,trivial,by simp[Ctl.ev],.inr ⟨⟨[],.inl rfl⟩,rfl⟩⟩;refine⟨.spawn (k+1),L.nSpawn k _ _ (by omega) hA,rfl,λ_=>rfl,trivial,?_,.inl ⟨k+1,by omega,rfl,rfl⟩⟩;show 5-(k+1)<5-k;omega
 obtain⟨ci,c1,c2,c3,c4,c5,c6⟩:=hnext;have hij:0≠C.n+k:=by omega
 have hS:=same_upd2 D 0 (C.n+k) (.live ci) (.born c) (doneG (D 0).g undef) (D (C.n+k)).g;have hval:∀l,upd (upd D 0 ((D 0).to (.live ci) (doneG (D 0).g undef))) (C.n+k) ((D (C.n+k)).to (.born c) (D (C.n+k)).g) l=if l=C.n+k then(D (C.n+k)).to (.born c) (D (C.n+k)).g else if l=0 then(D 0).to (.live ci) (doneG (D 0).g undef)else D l:=λl=>rfl
 have hsts:sts (upd (upd D 0 ((D 0).to (.live ci) (doneG (D 0).g undef))) (C.n+k) ((D (C.n+k)).to (.born c) (D (C.n+k)).g))=upd (upd (sts D) 0 (.live ci)) (C.n+k) (.born c):=by rw[sts_upd,sts_upd];rfl
 generalize hD':upd (upd D 0 ((D 0).to (.live ci) (doneG (D 0).g undef))) (C.n+k) ((D (C.n+k)).to (.born c) (D (C.n+k)).g)=D' at hS hval hsts;have hv0:D' 0=(D 0).to (.live ci) (doneG (D 0).g undef):=by rw[hval,if_neg hij,if_pos rfl]
 have hvj:D' (C.n+k)=(D (C.n+k)).to (.born c) (D (C.n+k)).g:=by rw[hval,if_pos rfl]
 have hvo:∀l,l≠0->l≠C.n+k->D' l=D l:=λl h1 h2=>by rw[hval,if_neg h2,if_neg h1]
 have e0:sts D 0=.live (.spawn k):=hst;have ej:sts D (C.n+k)=.unborn c:=hjst;have hg0:((gs.setIfInBounds 0 (doneG g' undef)).push (bornOf C.P (C.d (C.n+k))))[0]? =some (doneG g' undef):=by rw[Array.getElem?_push_lt (by simpa using hlt)];simp
 have hgj:((gs.setIfInBounds 0 (doneG g' undef)).push (bornOf C.P (C.d (C.n+k))))[C.n+k]? =some (bornOf C.P (C.d (C.n+k))):=by rw[Array.getElem?_push,if_pos (by simp;omega)]
 have hgo:∀l,l≠0->l≠C.n+k->((gs.setIfInBounds 0 (doneG g' undef)).push (bornOf C.P (C.d (C.n+k))))[l]? =gs[l]?:=λl h1 h2=>by rw[Array.getElem?_push,if_neg (by simp;omega),Array.getElem?_setIfInBounds_ne (Ne.symm h1)]
 let z1:MemOp:={g:=0,fn:=g'.frame.fn,pos:=g'.frame.place,act:=.go gs.size};let z2:MemOp:={g:=gs.size,fn:=(bornOf C.P (C.d (C.n+k))).frame.fn,pos:=g'.frame.place,act:=.start};have hu:Quiet #[z1,z2]:=λop hop=>by
  have:op=z1∨op=z2:=by simpa using hop
  rcases this with rfl|rfl<;>exact⟨rfl,λm=>by simp[z1,z2]⟩
 have hd0:Deaf t 0=0:=T.deaf 0 (.inl rfl) λr q e=>by rw[hst]at e;cases e
 have hdj:Deaf t (C.n+k)=0:=T.deaf _ (.inr ⟨by omega,hj⟩) λr q e=>by rw[hjst]at e;cases e
 refine⟨_,w,#[z1,z2],D',cj,cr,sent,rcvd,hrun,I.quiet hS hu (λl hl=>?_) (by simp;omega) (λ_ _ h=>h) ?_ I.chJ I.chR I.chD ?_,T.mute (λop hop=>(hu op hop).1) (λl=>(hS l).1) (λl hl hc=>?_) I.zero (λl hl hc=>⟨λr q e=>?_,hu.deaf t l⟩) (λl q hl e=>?_) (λq e=>?_) (λl _=>hu.deaf t l),.inl ?_,kept_eq (λl=>(hS l).1) rfl rfl rfl rfl⟩;by_cases h1:l=0;subst h1;refine .inr ?_;rw[hv0,hg0];exact⟨_,rfl,gr_finish hgr (V.ofTuple (VA.empty _)) rfl rfl,c1⟩;by_cases h2:l=C.n+k;subst h2;refine .inr ?_;rw[hvj,hgj];exact⟨rfl,hR,hgrj,htermj⟩;exact .inl ⟨hvo l h1 h2,hgo l h1 h2⟩;rw[hv0];have:((gs.setIfInBounds 0 (doneG g' undef)).push (bornOf C.P (C.d (C.n+k)))).size=C.n+k+1:=by simp;omega
 rw[this];exact c6;rw[hsts];refine I.pro.two h0 hj hij (.live ci) (.born c) (by rw[e0];exact c2) (by rw[ej];rfl) (λp=>?_) (by rw[e0,ej];rfl) I.pro.le (λl hl _ _=>I.pro.stage l hl) c4 ?_ (λc e=>by cases e) (λc e=>by cases e) (λl q hl _ _ h=>I.pro.p3 l q hl h);rw[e0,ej];show ci.tok p+c.tok p=0+c.tok p;rw[c3];have:=I.pro.stage _ hj;rw[ej]at this;exact this;by_cases h1:l=0;subst h1;exact .inl λc' e=>by rw[hst]at e;cases e
 by_cases h2:l=C.n+k;subst h2;refine .inr λp hpk=>?_;exact fork_knows (x:=z1) (y:=z2) ⟨rfl,by rw[<-hsz]⟩ ⟨hsz,rfl⟩ hd0 hdj hpk;rw[hvo l h1 h2]at hc;exact .inl hc;by_cases h1:l=0;subst h1;rw[hst]at e;cases e;by_cases h2:l=C.n+k;subst h2;rw[hjst]at e;cases e;exact hc r q (by rw[hvo l h1 h2];exact e);by_cases h1:l=0;subst h1;rw[hv0]at e;cases e;by_cases h2:l=C.n+k;subst h2;rw[hvj]at e;cases e;rw[hvo l h1 h2]at e;exact(T.said l q hl e).app (λop hop _=>(hu op hop).1) (Nat.le_refl _);by_cases h2:C.n+3=C.n+k;rw[h2,hvj]at e;cases e;rw[hvo _ (by omega) h2]at e;exact(T.shut q e).app λop hop _ _=>(hu op hop).1;rw[hsts];have:=evs_two (C:=C) (s:=sts D) h0 hj hij (.live ci) (.born c);have f1:(sts D 0).ev=5-k:=by rw[e0];rfl
 have f2:(St.live ci).ev=ci.ev:=rfl;have f3:(sts D (C.n+k)).ev=c.ev+2:=by rw[ej];rfl
 have f4:(St.born c).ev=c.ev+1:=rfl;omega
end
end Ph
namespace Ph
open Go.Conc Rn
open Go.ConcN (sumTo upd sumTo_upd upd_ne upd_same le_sumTo fork_knows)
open Tp (MoveRe Term Ld)
variable{α:Type}{C:Cfg α}
section
variable{all:List α}{gs gs':Array Goroutine}{w w':World}{t u:Trace}{D D':Nat->Pd α}{cj cr cj' cr':Bool}{sent rcvd sent' rcvd':Nat}{sl:Option (Nat×Nat)}
def rl_ge j(hp:0<C.n):(j<3->C.rl (C.n+j)=1)/\C.rl (C.n+3)=2:=by refine⟨λhj=>?_,?_⟩;unfold Cfg.rl;rw[if_neg (by omega),if_neg (by omega),if_pos (by omega)];unfold Cfg.rl;rw[if_neg (by omega),if_neg (by omega),if_neg (by omega)]
def Inv.someone(I:Inv C all gs w t D cj cr sent rcvd):∃(i:Nat)(g:Goroutine),gs[i]? =some g/\g.status=.running:=by
 apply Classical.byContradiction;intro hno;have hp:=I.pos;have hnr:∀(i:Nat)(g:Goroutine),gs[i]? =some g->g.status≠.running:=λi g h e=>hno ⟨i,g,h,e⟩;have hlive:∀i c,i<C.n+4->sts D i≠.live c:=λi c hi e=>by have:=I.ok i hi;unfold Ok at this;rw[show(D i).st=.live c from e]at this;obtain⟨g',h1,h2,_⟩:=this;exact hnr i g' h1 h2.run.2
 have hborn:∀i c,i<C.n+4->sts D i≠.born c:=λi c hi e=>by have:=I.ok i hi;unfold Ok at this;rw[show(D i).st=.born c from e]at this;exact hnr i _ this.1 rfl
 obtain⟨got,hgot,hsz⟩:∃got,sts D 0=.park (.recvR got)/\gs.size=C.n+4:=by rcases I.main with⟨k,_,h,_⟩|⟨⟨got,h|h⟩,h2⟩;exact absurd h (hlive 0 _ (by omega));exact absurd h (hlive 0 _ (by omega));exact⟨got,h,h2⟩
 have hunborn:∀i c,i<C.n+4->sts D i≠.unborn c:=λi c hi e=>by have:=I.ok i hi;unfold Ok at this;rw[show(D i).st=.unborn c from e]at this;have h1:=this.1;rw[Array.getElem?_eq_getElem (by omega)]at h1;cases h1
 have hcr:cr=false:=by have:=I.pro.stage 0 (by omega);rw[hgot]at this;exact this
 have hw:∀j,j<C.n+4->C.rl j=1->(∃q,sts D j=.old 1 q/\cj=true)∨(sts D j=.park .recvJ/\cj=false):=λj hj hr=>by
  have h1:=I.pro.role j hj;have h2:=I.pro.stage j hj;rw[hr]at h1;cases hs:sts D j with
  |old r q=>rw[hs]at h1 h2;obtain rfl:r=1:=h1;exact .inl ⟨q,rfl,h2⟩
  |unborn c=>exact absurd hs (hunborn j c hj)|born c=>exact absurd hs (hborn j c hj)
  |live c=>exact absurd hs (hlive j c hj)|park c=>rw[hs]at h1 h2;cases c with|recvJ=>exact .inr ⟨rfl,h2.1⟩|sendR a=>exact absurd hgot (I.pro.p2 j 0 hj (by omega) a got hs)|sendD=>exact h2.elim|_=>cases h1
 have hf:C.n+3<C.n+4:=by omega
 have h1:=I.pro.role _ hf;have h2:=I.pro.stage _ hf;rw[(rl_ge 0 hp).2]at h1;cases hs:sts D (C.n+3)with
 |old r q=>rw[hs]at h1 h2;obtain rfl:r=2:=h1;have:cr=true:=h2.2.1;rw[hcr]at this;cases this
 |unborn c=>exact hunborn _ c hf hs|born c=>exact hborn _ c hf hs
 |live c=>exact hlive _ c hf hs|park c=>
 rw[hs]at h1 h2;cases c with
 |sendJ a rem=>have hcj:cj=false:=h2.1;rcases hw (C.n+0) (by omega) ((rl_ge 0 hp).1 (by omega))with⟨_,_,h⟩|⟨h,_⟩;rw[hcj]at h;cases h;exact I.pro.p1 _ _ (by omega) hf h a rem hs
 |recvD k=>obtain⟨hcj,_,hrk,hk3⟩:cj=true/\_/\rcvd=k/\k<3:=h2;have hsr:=I.pro.p3 _ _ hf hs;obtain⟨j,hj,hlt⟩:=sumTo_lt (f:=λi=>(sts D i).said) (g:=λi=>if C.rl i=1 then 1 else 0) (C.n+4) (by rw[sum_workers hp,<-I.pro.said];omega);by_cases hr:C.rl j=1;rw[if_pos hr]at hlt;rcases hw j hj hr with⟨q,h,_⟩|⟨_,h⟩;rw[h]at hlt;have:(St.old 1 q:St α).said=1:=rfl;omega;rw[hcj]at h;cases h;rw[if_neg hr]at hlt;omega
 |recvJ=>cases h1
 |sendR a=>cases h1
 |recvR g=>cases h1
 |_=>exact h2.elim
def Inv.awake(I:Inv C all gs w t D cj cr sent rcvd):∀g∈gs,awake g:=by intro g hg;obtain⟨i,hi,rfl⟩:=Array.mem_iff_getElem.1 hg;obtain⟨hlt,h⟩:=I.status (Array.getElem?_eq_getElem hi);rcases h with(h|h)|⟨c,hc⟩;exact awake_of (.inl h);exact awake_of (.inr (.inr h));have:=I.ok i hlt;unfold Ok at this;rw[hc,Array.getElem?_eq_getElem hi]at this;obtain⟨g',h1,_⟩:=this;rw[Option.some.inj h1];exact awake_of (.inr (.inl rfl))
theorem Inv.at(I:Inv C all gs w t D cj cr sent rcvd) d:Inv C all gs (w.at d) t D cj cr sent rcvd:=⟨I.pos,I.ok,I.size,λi hi=>(I.sees i hi).drawn C d,I.disj,I.main,I.chJ,I.chR,I.chD,I.ne,I.pro⟩
def Ends(C:Cfg α)(all:List α)(gs:Array Goroutine)(w:World)(t:Trace)(D:Nat->Pd α):Prop:=∃cj sent rcvd got,Inv C all gs w t D cj true sent rcvd/\Tr C t D sent rcvd/\(D 0).st=.live (.recvR got)/\C.N.A (.recvR got) (D 0).g (D 0).v
def turn(L:Law C)(hbase:∀i,C.n<=i->i<C.n+4->C.R i=[base C.P])(I:Inv C all gs w t D cj cr sent rcvd)(T:Tr C t D sent rcvd)(hX:C.ok0 (D 0).X){i g}(hx:gs[i]? =some g)(hr:g.status=.running):Goes C all gs w sl t D i∨(i=0/\Ends C all gs w t D):=by
 obtain⟨hi,hst⟩:=I.status hx;have hok:=I.ok i hi;unfold Ok at hok;cases hs:(D i).st with
 |old r q=>
 have hi0:0<i:=by apply Nat.pos_of_ne_zero;rintro rfl;rcases I.main with⟨_,_,h,_⟩|⟨⟨_,h|h⟩,_⟩<;>rw[hs]at h<;>cases h
 obtain⟨gs',w',u,D',h1,h2,h3,h4,h5,h6⟩:=move_old (sl:=sl) I T hi hi0 hs hx hr;exact .inl ⟨gs',w',u,D',_,_,_,_,h1,h2,h3,.inr ⟨sumTo_congr _ λj _=>h5 (λs=>s.ev) (λ_ _ _=>rfl) j,.inr ⟨sumTo_congr _ λj _=>h5 (λs=>s.up) (λ_ _ _=>rfl) j,h4⟩⟩,h6⟩
 |unborn c=>rw[hs,hx]at hok;cases hok.1
 |born c=>
 obtain⟨gs',w',u,D',h1,h2,h3,h4⟩:=move_born (sl:=sl) L I T hi hs;refine .inl ⟨gs',w',u,D',_,_,_,_,h1,h2,h3,.inl ?_,h4.2⟩;rw[h4.1];have:=evs_one (C:=C) (s:=sts D) hi (.live c);have f1:(sts D i).ev=c.ev+1:=by rw[show sts D i=_ from hs];rfl
 have f2:(St.live c).ev=c.ev:=rfl;omega|park c=>rw[hs,hx]at hok;obtain⟨g',h1,_⟩:=hok;rw[Option.some.inj h1]at hr;cases hr
 |live c=>
 by_cases hstop:C.N.Stop c (D i).g (D i).v;have hstage:=I.pro.stage i hi;rw[show sts D i=_ from hs]at hstage;cases c with
 |recvJ=>exact .inl (move_recvJ L I T hi hs hstop λhcj=>move_endJ L I T hi hs hstop hcj)|sendR a=>exact .inl (move_sendR L I T hi hs hstop)
 |sendD=>exact .inl (move_sendD L hbase I T hi hs hstop)|feed rem=>rcases hstop with⟨a,rem',hperm,hA⟩|⟨rfl,hA⟩;exact .inl (move_sendJ L I T hi hs hperm hA);exact .inl (move_closeJ L I T hi hs hA)
 |sendJ a rem=>exact hstage.elim|closeJ=>exact hstage.elim
 |recvD k=>exact .inl (move_recvD L I T hi hs hstop)|closeR=>exact .inl (move_closeR L hbase I T hi hs hstop)
 |spawn k=>
 have hi0:i=0:=by refine rl_inj I.pos hi (by have:=I.pos;omega) ?_ (.inr ?_);rw[<-I.pro.role i hi,show sts D i=_ from hs];simp[Cfg.rl,St.role,Ctl.role];rw[<-I.pro.role i hi,show sts D i=_ from hs];rfl
 subst hi0;exact .inl (move_spawn L I T hs hstop hX)|recvR got=>
  have hi0:i=0:=by refine rl_inj I.pos hi (by have:=I.pos;omega) ?_ (.inr ?_);rw[<-I.pro.role i hi,show sts D i=_ from hs];simp[Cfg.rl,St.role,Ctl.role];rw[<-I.pro.role i hi,show sts D i=_ from hs];rfl
  subst hi0;cases hcr:cr with|false=>exact .inl (by subst hcr;exact move_recvR L I T hi hs hstop rfl)|true=>subst hcr;exact .inr ⟨rfl,_,_,_,got,I,T,hs,hstop⟩
 obtain⟨gs',w',u,D',h1,h2,h3,h4,h5,h6⟩:=move_seg (sl:=sl) L I T hi hs hstop;exact .inl ⟨gs',w',u,D',_,_,_,_,h1,h2,h3,.inr ⟨sumTo_congr _ λj _=>congrArg St.ev (h5 j),.inr ⟨sumTo_congr _ λj _=>congrArg St.up (h5 j),h4⟩⟩,h6⟩
def sumTo_only{f m}(hm:0<m)(h:∀i,i<m->i≠0->f i=0):sumTo m f=f 0:=by
 have e1:sumTo m f=sumTo m (λi=>if i=0 then f 0 else 0):=sumTo_congr m λi hi=>by by_cases h0:i=0;subst h0;rw[if_pos rfl];rw[if_neg h0];exact h i hi h0
 have e2:=sumTo_one (f:=λ_=>0) (g:=λi=>if i=0 then f 0 else 0) (m:=m) (i:=0) hm (λj hj=>if_neg hj);have e3:∀m,sumTo m (λ_=>0)=0:=by intro m;induction m with|zero=>rfl|succ m ih=>show sumTo m _+0=0;rw[ih]
 rw[e3]at e2;simp at e2;rw[e1];exact e2
structure Fin(C:Cfg α)(all:List α)(gs:Array Goroutine)(w:World)(t:Trace)(D:Nat->Pd α):Prop where
 start:∃got a,gs[0]? =some a/\GR C.P C.E (D 0).X (C.R 0) (Go.Conc.served (D 0).g (.tuple #[C.N.zR,.bool false])) a/\a.offers=none/\C.N.A (.recvR got) (D 0).g (D 0).v/\∀p,got.countP p=all.countP p
 sees:∀i,i<C.n+4->Sees C w (D i)
 feeder:C.N.A .closeR (D (C.n+3)).g (D (C.n+3)).v
 leave:∃q,Leavers C.P t gs q
 past:Tp.Past2 t
 chans:(∃cap buf cl s r tm,w.heap[C.N.J]? =some (.chan cap buf cl s r tm))/\(∃cap buf cl s r tm,w.heap[C.N.R]? =some (.chan cap buf cl s r tm))/\∃cap buf cl s r tm,w.heap[C.N.D]? =some (.chan cap buf cl s r tm)
def ends_step(L:Law C)(h:Ends C all gs w t D):∃gs' u,runT C.P (crowd gs w sl) 0=(.next (crowd gs' w sl),u)/\Fin C all gs' w (t++u) D:=by
 obtain⟨cj,sent,rcvd,got,I,T,hst,hA⟩:=h;have hp:=I.pos;have h0:0<C.n+4:=by omega
 have hf:C.n+3<C.n+4:=by omega
 obtain⟨g',hx,hlt,hgr⟩:=at_of L I h0 hst;have hact:=L.act (.recvR got) _ _ _ _ _ rfl hA hgr true w;obtain⟨s,r,hc⟩:=I.chR;obtain⟨qf,hqf⟩:∃q,sts D (C.n+3)=.old 2 q:=by
  have h1:=I.pro.role _ hf;have h2:=I.pro.stage _ hf;rw[(rl_ge 0 hp).2]at h1;cases hs:sts D (C.n+3)with
  |old r q=>rw[hs]at h1;obtain rfl:r=2:=h1;exact⟨q,rfl⟩
  |unborn c=>rw[hs]at h1 h2;cases c<;>first|exact h2.elim|(cases h2.2.1)|cases h1
  |born c=>rw[hs]at h1 h2;cases c<;>first|exact h2.elim|(cases h2.2.1)|cases h1
  |live c=>rw[hs]at h1 h2;cases c<;>first|exact h2.elim|(cases h2.2.1)|cases h1
  |park c=>rw[hs]at h1 h2;cases c<;>first|exact h2.elim|(cases h2.2.1)|cases h1
 have hr3:rcvd=3:=by have:=I.pro.stage _ hf;rw[hqf]at this;exact this.2.2
 have hall:∀j,j<C.n+4->j≠0->∃r q,sts D j=.old r q:=λj hj hj0=>by
  by_cases h3:j=C.n+3;subst h3;exact⟨2,qf,hqf⟩;by_cases h1:C.rl j=1;obtain⟨q,hq⟩:=I.pro.allOld hp (by have:=I.pro.le;omega) hj h1;exact⟨1,q,hq⟩;have hr0:C.rl j=0:=by unfold Cfg.rl at h1|-;rw[if_neg hj0]at h1|-;split;rfl;rename_i hn;rw[if_neg hn,if_pos (by omega)]at h1;exact absurd rfl h1
  have h4:=I.pro.role j hj;rw[hr0]at h4;cases hs:sts D j with|old r q=>exact⟨r,q,rfl⟩|unborn c=>rw[hs]at h4;exact absurd h4 (role_pos c)|born c=>rw[hs]at h4;exact absurd h4 (role_pos c)|live c=>rw[hs]at h4;exact absurd h4 (role_pos c)|park c=>rw[hs]at h4;exact absurd h4 (role_pos c)
 have hpn:partners (gs.setIfInBounds 0 ph) C.N.R true=[]:=I.nopartner λj c hj hcc e=>by by_cases hj0:j=0;subst hj0;rw[hst]at hcc;cases hcc;obtain⟨r,q,hq⟩:=hall j hj hj0;rw[show(D j).st=_ from hq]at hcc;cases hcc
 have hrun:=crowd_recv_closed (P:=C.P) (sl:=sl) (i:=0) hx hact hc hpn;simp only[Net.shape,finishComm_recv,ofEvents_nil,Array.empty_append,recvd,if_true]at hrun;let z:MemOp:={g:=0,fn:=g'.frame.fn,pos:=g'.frame.place,act:=.recvClosed C.N.R};have hu:Quiet #[z]:=λop hop=>by
  have:op=z:=by simpa using hop
  subst this;exact⟨rfl,λm=>by simp[z]⟩
 have hd0:Deaf t 0=0:=T.deaf 0 (.inl rfl) λr q e=>by rw[hst]at e;cases e
 have hzpos:(t++#[z])[t.size]? =some z:=by rw[Array.getElem?_append_right (Nat.le_refl _),Nat.sub_self];rfl
 have hzh:(t++#[z]).heard t.size:=⟨0,by rw[Trace.g?,hzpos];rfl,by rw[deaf_old (Nat.le_refl _)];exact hd0⟩;obtain⟨c,zc,c1,c2,c3,c4,c5⟩:=T.shut qf hqf;have hclt:=lt_size_of_getElem? c1;have hcz:HappensBefore (t++#[z]) c t.size:=.single (.inr ⟨.closed (c:=C.N.R) (by rw[act?_of (show(t++#[z])[c]? =some zc by rw[getElem?_append_old hclt];exact c1),c3]) (by rw[act?_of hzpos]),(heard_old hclt).2 c4,hzh⟩);have hknown:∀i a,touchAt (t++#[z]) i=some a->a.loc.isMemory=true->Knows (t++#[z]) 0 i:=λi a ha hm=>by obtain⟨x,hx',hxa⟩:=touch_of ha;rcases getElem?_append_cases hx' with⟨hi,hx2⟩|⟨_,hxu⟩;rcases T.touch i a (by rw[touchAt_of hx2];exact hxa) hm with hk|⟨op,h1,h2,_⟩;exact(hk 0 (.inl rfl) I.zero).app _;rw[hx2]at h1;cases h1;by_cases hg0:x.g=0;have:=knows_own hx';rwa[hg0]at this;exact⟨t.size,z,hzpos,rfl,.inr (((c5 i x a hx2 h2 hg0 hxa).app #[z]).hb hcz)⟩;rw[(hu x hxu).1]at hxa;cases hxa
 refine⟨_,#[z],hrun,?_⟩;refine⟨⟨got,_,Array.getElem?_setIfInBounds_self_of_lt hlt,gr_served (gr_clear hgr) (V.pair L.vals.2.2.2.2 false),rfl,hA,λp=>?_⟩,I.sees,?_,⟨λj=>match(D j).st with|.old _ q=>q|_=>0,⟨λj x hj hjx=>?_,λj hj=>?_⟩⟩,⟨λsaid=>noRace_mute (T.clean said) (λop hop=>(hu op hop).1),hknown,λi g hg hne hcnt=>?_,by rw[hu.deaf];exact hd0⟩,?_⟩;have h1:=I.pro.tok p;rw[sumTo_only h0 (λi hi hi0=>by obtain⟨r,q,hq⟩:=hall i hi hi0;rw[hq];rfl)]at h1;rw[show sts D 0=_ from hst]at h1;exact h1;have:=I.ok _ hf;unfold Ok at this;rw[show(D (C.n+3)).st=_ from hqf]at this;exact this.2 rfl;rw[Array.getElem?_setIfInBounds_ne (by omega)]at hjx;have hjlt:=(I.status hjx).1;obtain⟨r,q,hq⟩:=hall j hjlt (by omega);have:=I.ok j hjlt;unfold Ok at this;rw[show(D j).st=_ from hq]at this;obtain⟨⟨y,hy,hqd⟩,_⟩:=this;rw[hjx]at hy;cases hy;rw[show(D j).st=_ from hq,hu.deaf];exact hqd;rw[hu.deaf];rw[Array.size_setIfInBounds]at hj;have hsz:gs.size=C.n+4:=by rcases I.main with⟨k,_,h,_⟩|⟨_,h⟩;rw[hst]at h;cases h;exact h
 exact T.above j (by omega);obtain⟨a,ha,hm,_⟩:=hcnt;obtain⟨q,y,h1,h2,h3⟩:=hknown i a ha hm;rcases h3 with rfl|h3;rw[Trace.g?,h1]at hg;simp at hg;exact absurd (hg.symm.trans h2) hne;exact⟨q,by rw[Trace.g?,h1];simp[h2],h3⟩;obtain⟨s1,r1,e1⟩:=I.chJ;exact⟨⟨_,_,_,_,_,_,e1⟩,⟨_,_,_,_,_,_,hc⟩,⟨_,_,_,_,_,_,I.chD⟩⟩
def Inv.acc(I:Inv C all gs w t D cj cr sent rcvd):Acc (RelN (Dn C.P C.N) (C.n+4)) D:=relN_acc _ _ _ λi hi=>dn_acc _ λc hc=>by have:=I.ok i hi;unfold Ok at this;rw[hc]at this;obtain⟨_,_,_,h⟩:=this;exact h
def phase(L:Law C)(hbase:∀i,C.n<=i->i<C.n+4->C.R i=[base C.P])(I:Inv C all gs w t D cj cr sent rcvd)(T:Tr C t D sent rcvd)(hX:C.ok0 (D 0).X):∃(N:Nat)(gs':Array Goroutine)(w':World)(sl':Option (Nat×Nat))(t':Trace)(D':Nat->Pd α),runNT C.P N (crowd gs w sl) t=(.next (crowd gs' w' sl'),t')/\Kept C w w' D D'/\Fin C all gs' w' t' D':=by
 have key:∀(e p:Nat)(D:Nat->Pd α),Acc (RelN (Dn C.P C.N) (C.n+4)) D->evs C (sts D)=e->ups C (sts D)=p->∀(gs:Array Goroutine)(w:World)(sl:Option (Nat×Nat))(t:Trace)(cj cr:Bool)(sent rcvd:Nat),Inv C all gs w t D cj cr sent rcvd->Tr C t D sent rcvd->C.ok0 (D 0).X->∃(N:Nat)(gs':Array Goroutine)(w':World)(sl':Option (Nat×Nat))(t':Trace)(D':Nat->Pd α),runNT C.P N (crowd gs w sl) t=(.next (crowd gs' w' sl'),t')/\Kept C w w' D D'/\Fin C all gs' w' t' D':=by
  intro e;induction e using Nat.strongRecOn with|_ e ihe=>
  intro p;induction p using Nat.strongRecOn with|_ p ihp=>
  intro D hacc;induction hacc with
  |intro D _ ihD=>
  intro he hp gs w sl t cj cr sent rcvd I T hX;obtain⟨i,g,d,sl1,hx,hr,hpick⟩:=crowd_pick (P:=C.P) (w:=w) (sl:=sl) I.awake I.someone;have hkat:Kept C w (w.at d) D D:=kept_eq (λ_=>rfl) rfl rfl rfl rfl;rcases turn (sl:=sl1) L hbase (I.at d) T hX hx hr with⟨gs1,w1,u,D1,cj1,cr1,sent1,rcvd1,hrun,I1,T1,hless,hkept⟩|⟨rfl,hends⟩;have hrec:∃(N:Nat)(gs':Array Goroutine)(w':World)(sl':Option (Nat×Nat))(t':Trace)(D':Nat->Pd α),runNT C.P N (crowd gs1 w1 sl1) (t++u)=(.next (crowd gs' w' sl'),t')/\Kept C w1 w' D1 D'/\Fin C all gs' w' t' D':=by
   have hX1:C.ok0 (D1 0).X:=by obtain⟨Y,hY,_⟩:=hkept.grow 0;rw[hY];exact L.app0 _ _ hX
   rcases hless with h|⟨h1,h|⟨h2,h3⟩⟩;exact ihe _ (by omega) _ D1 I1.acc rfl rfl gs1 w1 sl1 _ _ _ _ _ I1 T1 hX1;exact ihp _ (by omega) D1 I1.acc (by omega) rfl gs1 w1 sl1 _ _ _ _ _ I1 T1 hX1;exact ihD D1 h3 (by omega) (by omega) gs1 w1 sl1 _ _ _ _ _ I1 T1 hX1
  obtain⟨N,gs',w',sl',t',D',r1,r2,r3⟩:=hrec;exact⟨N+1,gs',w',sl',t',D',by simp only[runNT,hpick,hrun];exact r1,(hkat.trans hkept).trans r2,r3⟩;obtain⟨gs',u,hrun,hfin⟩:=ends_step (sl:=sl1) L hends;exact⟨1,gs',w.at d,sl1,t++u,D,by simp only[runNT,hpick,hrun],hkat,hfin⟩
 exact key _ _ D I.acc rfl rfl gs w sl t cj cr sent rcvd I T hX
end
end Ph
namespace Tp
open Go.Conc
def Arr(P:Program)(Stop:Goroutine->World->Prop)(fr:Frame)(cs:List Frame)(w:World):Prop:=∃N gS wS,runN P N (lone fr cs w)=.next (solo gS wS)/\Good0 gS/\Stop gS wS
section
variable{P:Program}{Stop:Goroutine->World->Prop}{fr fr' b:Frame}{cs cs':List Frame}{w w':World}{a:Act}{k:List Item}
def arr_stop(h:Stop {frame:=fr,callers:=cs,status:=.running,dying:=none} w):Arr P Stop fr cs w:=⟨0,_,w,rfl,⟨rfl,rfl⟩,h⟩
def arr_step(h:step P (lone fr cs w)=.next (lone fr' cs' w'))(h':Arr P Stop fr' cs' w'):Arr P Stop fr cs w:=by obtain⟨N,gS,wS,h1,h2,h3⟩:=h';exact⟨N+1,gS,wS,by simp only[runN,h];exact h1,h2,h3⟩
def arr_steps(h:Steps P (lone fr cs w) (lone fr' cs' w'))(h':Arr P Stop fr' cs' w'):Arr P Stop fr cs w:=by obtain⟨N,gS,wS,h1,h2,h3⟩:=h';obtain⟨n,hn⟩:=h;exact⟨n+N,gS,wS,by rw[runN_add,hn];exact h1,h2,h3⟩
def arr_seq{x y}(h:Arr P Stop (b.at a (.code x::.code y::k)) cs w):Arr P Stop (b.at a (.code (.seq x y)::k)) cs w:=arr_step step_seq h
def arr_loop{c}(h:Arr P Stop (b.at a (.code c::.inLoop c::k)) cs w):Arr P Stop (b.at a (.code (.loop c)::k)) cs w:=arr_step step_loop h
def arr_inLoop{c}(h:Arr P Stop (b.at a (.code c::.inLoop c::k)) cs w):Arr P Stop (b.at a (.inLoop c::k)) cs w:=arr_step step_inLoop h
def arr_block{id c}(h:Arr P Stop (b.at a (.code c::.inBlock id::k)) cs w):Arr P Stop (b.at a (.code (.block id c)::k)) cs w:=arr_step step_block h
def arr_inBlock{id}(h:Arr P Stop (b.at a k) cs w):Arr P Stop (b.at a (.inBlock id::k)) cs w:=arr_step step_inBlock h
def arr_skip(h:Arr P Stop (b.at a k) cs w):Arr P Stop (b.at a (.code .skip::k)) cs w:=arr_step step_skip h
def arr_exit{id k'}(hk:exitTo id k=some k')(h:Arr P Stop (b.at a k') cs w):Arr P Stop (b.at a (.code (.exit id)::k)) cs w:=arr_step (step_exit hk) h
def arr_cond{c x y t}(hc:a.eval c=.bool t)(h:Arr P Stop (b.at a (.code (if t then x else y)::k)) cs w):Arr P Stop (b.at a (.code (.cond c x y)::k)) cs w:=arr_step (step_cond hc) h
def runs_of_arr(h:∀τ n,Arr P Stop fr cs (w.re τ n)):Runs P Stop {frame:=fr,callers:=cs,status:=.running,dying:=none} w:=h
def arr_regionEnd{ops}(h:Arr P Stop (b.at a k) cs w):Arr P Stop (b.at a (.inRegion ops []::k)) cs w:=arr_step step_region_end h
def wanted_of{o}(h:o.guard=none) y:Region.wanted o y=true:=by unfold Region.wanted;rw[h]
def arr_value{ops i rest o v}(ho:ops[i]? =some o)(hg:o.guard=none)(hr:(execOp a.eval o).run P w=.ok (.value v) w')(h:Arr P Stop (b.at (a.put o.dst v) (.inRegion ops rest::k)) cs w'):Arr P Stop (b.at a (.inRegion ops (i::rest)::k)) cs w:=by
 have hf:(b.at a (.inRegion ops (i::rest)::k)).finish v=b.at (a.put o.dst v) (.inRegion ops rest::k):=by rw[Frame.finish_at,ho];rfl
 have hs:step P (lone (b.at a (.inRegion ops (i::rest)::k)) cs w)=.next (lone ((b.at a (.inRegion ops (i::rest)::k)).finish v) cs w'):=step_lone_go (by rw[stepG_op ho (wanted_of hg _)];unfold stepG.apply;simp only[if_true,Sem.runT_eq,hr];rfl);rw[hf]at hs;exact arr_step hs h
end
end Tp
namespace Tp
open Go.Conc
abbrev gor(fr:Frame)(cs:List Frame):Goroutine:={frame:=fr,callers:=cs,status:=.running,dying:=none}
def Fit(a:Goroutine):Prop:=Ld a/\a.dying=none
def BesA(P:Program)(Stop:Goroutine->World->Prop)(a:Goroutine)(w:World):Prop:=Fit a->∀τ n,Bes P (λg u=>Fit g/\Stop g u) a (w.re τ n)
section
variable{P:Program}{Stop Stop':Goroutine->World->Prop}{a:Goroutine}{w:World}
def BesA.re(h:BesA P Stop a w) τ n:BesA P Stop a (w.re τ n):=λhf τ' n'=>h hf τ' n'
def BesA.self(h:BesA P Stop a w)(hf:Fit a):Bes P (λg u=>Fit g/\Stop g u) a w:=h hf w.tape w.drawn
theorem BesA.stop(hS:∀τ n,Stop a (w.re τ n)):BesA P Stop a w:=λhf τ n=>.stop ⟨hf,hS τ n⟩
def BesA.trans(h:BesA P Stop a w)(h':∀a' w',Stop a' w'->BesA P Stop' a' w'):BesA P Stop' a w:=λhf τ n=>(h hf τ n).trans λa' w' s=>(h' a' w' s.2).self s.1
theorem run_fit(hB:Bodied P):∀N {g gS:Goroutine}{w wS:World},Fit g->runN P N (solo g w)=.next (solo gS wS)->Good0 gS->Fit gS
 |0,g,gS,w,wS,hf,hr,_=>by injection hr with hr;obtain⟨rfl,rfl⟩:=solo_inj hr;exact hf
 |N+1,g,gS,w,wS,hf,hr,hg=>by obtain⟨g',w',ops,k,h1,h2,_,h4⟩:=good_step hB hf.1 hf.2 hr hg;exact run_fit hB N ⟨h1,h2⟩ h4 hg
def besA_of_runs(hB:Bodied P)(h:Runs P (BesA P Stop) a w):BesA P Stop a w:=λhf τ n=>by
 have h1:Runs P (λg u=>Fit g/\BesA P Stop g u) a (w.re τ n):=λτ' n'=>by obtain⟨N,gS,wS,h1,h2,h3⟩:=h τ' n';exact⟨N,gS,wS,h1,h2,run_fit hB N hf h1 h2,h3⟩
 have h2:Bes P (λg u=>Fit g/\BesA P Stop g u) a (w.re τ n):=bes_of_runs hB (λg u τ n h=>⟨h.1,h.2.re τ n⟩) hf.1 hf.2 h1;exact h2.trans λa' w' s=>s.2.self s.1
def besA_steps(hB:Bodied P){fr cs}(h:∀τ n,∃fr' cs' w',Steps P (lone fr cs (w.re τ n)) (lone fr' cs' w')/\BesA P Stop (gor fr' cs') w'):BesA P Stop (gor fr cs) w:=besA_of_runs hB λτ n=>by obtain⟨fr',cs',w',⟨N,h1⟩,h2⟩:=h τ n;exact⟨N,gor fr' cs',w',h1,⟨rfl,rfl⟩,h2⟩
end
def CallsB(P:Program)(f:FuncId)(args:Array Value)(w:World)(R:Value->World->Prop):Prop:=∀(c:Frame)(cs:List Frame)(Stop:Goroutine->World->Prop),(∀v w',R v w'->BesA P Stop (gor (c.finish v) cs) w')->BesA P Stop (gor (Frame.enter P f args .normal) (c::cs)) w
section
variable{P:Program}{Q Q':Exit->Act->World->Prop}{a:Act}{w:World}
def CallsB.mono{f args R R'}(h:CallsB P f args w R)(hr:∀v w',R v w'->R' v w'):CallsB P f args w R':=λc cs Stop K=>h c cs Stop λv w' r=>K v w' (hr v w' r)
def callsB_lift(hB:Bodied P){f args R}(h:∀τ n,Calls P f args (w.re τ n) λ|.returned v,w'=>R v w'|_,_=>False):CallsB P f args w R:=λc cs Stop K=>by refine besA_steps hB λτ n=>?_;obtain⟨e,w',fr,hR,hc,_,hl⟩:=h τ n (c::cs);cases e with|returned v=>exact⟨_,_,w',Steps.trans hc (.one (step_leave_returned hl)),K v w' hR⟩|panicked _=>exact hR.elim|outgrown=>exact hR.elim
end
end Tp
namespace Ph
open Go.Conc Rn
open Go.ConcN (sumTo upd sumTo_upd upd_ne upd_same le_sumTo fork_knows)
open Tp (MoveRe Term Ld Bes BesA Past2)
variable{α:Type}
structure Setup(α:Type) where
 P:Program
 E:Env
 Sh:Nat->Prop
 N:Net α
 cs:List Frame
 fw:FuncId
 ff:FuncId
 aw:Array Value
 af:Array Value
 all:List α
 g0:Goroutine
 gw:Goroutine
 gf:Goroutine
 v0:World
 vw:World
 vf:World
 vn:World
 X0:List Nat
 Xw:List Nat
 Xf:List Nat
def Setup.cfg(S:Setup α)(n:Nat):Cfg α:=⟨S.P,S.E,S.Sh,S.N,n,λi=>if i=0 then S.cs else [base S.P],λi=>if i<n+3 then S.fw else S.ff,λi=>if i<n+3 then S.aw else S.af,λX=>∃Y,X=S.X0++Y,S.all.length⟩
def Setup.D(S:Setup α)(n:Nat)(q:Nat->Nat)(i:Nat):Pd α:=if i=0 then⟨.live (.spawn 0),S.g0,S.v0,S.X0⟩else if i<n then⟨.old 0 (q i),S.g0,S.vn,[]⟩else if i<n+3 then⟨.unborn .recvJ,S.gw,S.vw,S.Xw⟩else if i=n+3 then⟨.unborn (.feed S.all),S.gf,S.vf,S.Xf⟩else⟨.old 0 0,S.g0,S.vn,[]⟩
def started(P:Program)(f:FuncId)(a:Array Value):Goroutine:={frame:=Frame.enter P f a .deferred,callers:=[base P],status:=.running,dying:=none}
structure Ready(S:Setup α)(a:Goroutine)(w:World):Prop where
 law:∀n,Law (S.cfg n)
 gr0:GR S.P S.E S.X0 S.cs S.g0 a
 term0:Term S.P (S.N.Stop (.spawn 0)) S.g0 S.v0
 grw:GR S.P S.E S.Xw [base S.P] S.gw (started S.P S.fw S.aw)
 termw:Term S.P (S.N.Stop .recvJ) S.gw S.vw
 grf:GR S.P S.E S.Xf [base S.P] S.gf (started S.P S.ff S.af)
 termf:Term S.P (S.N.Stop (.feed S.all)) S.gf S.vf
 wr0:WR S.E S.Sh S.X0 (S.v0.re w.tape w.drawn) w
 wrw:WR S.E S.Sh S.Xw (S.vw.re w.tape w.drawn) w
 wrf:WR S.E S.Sh S.Xf (S.vf.re w.tape w.drawn) w
 wrn:WR S.E S.Sh [] (S.vn.re w.tape w.drawn) w
 d0w:∀b∈S.X0,b∈S.Xw->S.Sh b
 d0f:∀b∈S.X0,b∈S.Xf->S.Sh b
 dww:∀b∈S.Xw,S.Sh b
 chJ:∃s r,w.heap[S.N.J]? =some (.chan 0 #[] false s r false)
 chR:∃s r,w.heap[S.N.R]? =some (.chan 0 #[] false s r false)
 chD:w.heap[S.N.D]? =some (.chan 3 #[] false 0 0 false)
 ne:S.N.J≠S.N.R/\S.N.J≠S.N.D/\S.N.R≠S.N.D
def After(S:Setup α)(w:World)(a':Goroutine)(w':World):Prop:=∃(got:List α)(X:List Nat)(g:Goroutine)(v:World)(Xf:List Nat)(gf:Goroutine)(vf:World),GR S.P S.E X S.cs (Go.Conc.served g (.tuple #[S.N.zR,.bool false])) a'/\a'.offers=none/\S.N.A (.recvR got) g v/\(∀p,got.countP p=S.all.countP p)/\WR S.E S.Sh X (v.re w'.tape w'.drawn) w'/\(∃Y,X=S.X0++Y/\∀b∈Y,w.heap.size<=b)/\S.N.A .closeR gf vf/\WR S.E S.Sh Xf (vf.re w'.tape w'.drawn) w'/\(∃Y,Xf=S.Xf++Y)/\w.heap.size<=w'.heap.size/\(∀b,b<w.heap.size->b≠S.N.J->b≠S.N.R->b≠S.N.D->((b∉S.X0/\b∉S.Xw/\b∉S.Xf)∨S.Sh b)->w'.heap[b]? =w.heap[b]?)/\w'.os=w.os/\w'.output=w.output/\w'.tape=w.tape
def sumTo_at{f m j}(hj:j<m)(h:∀i,i<m->i≠j->f i=0):sumTo m f=f j:=by
 have e1:sumTo m f=sumTo m (λi=>if i=j then f j else 0):=sumTo_congr m λi hi=>by by_cases h0:i=j;subst h0;rw[if_pos rfl];rw[if_neg h0];exact h i hi h0
 have e2:=sumTo_one (f:=λ_=>0) (g:=λi=>if i=j then f j else 0) (m:=m) (i:=j) hj (λk hk=>if_neg hk);have e3:∀m,sumTo m (λ_=>0)=0:=by intro m;induction m with|zero=>rfl|succ m ih=>show sumTo m _+0=0;rw[ih]
 rw[e3]at e2;simp at e2;rw[e1];exact e2
theorem sumTo_zero{f}:∀ {m:Nat},(∀i,i<m->f i=0)->sumTo m f=0
 |0,_=>rfl|m+1,h=>by show sumTo m f+f m=0;rw[sumTo_zero (λi hi=>h i (by omega)),h m (by omega)]
section
variable{S:Setup α}{a:Goroutine}{w:World}{gs:Array Goroutine}{t:Trace}{q:Nat->Nat}
def Setup.cases(S:Setup α) n q{i}(hi:i<n+4){p:Pd α->Prop}(h0:i=0->p ⟨.live (.spawn 0),S.g0,S.v0,S.X0⟩)(h1:0<i->i<n->p ⟨.old 0 (q i),S.g0,S.vn,[]⟩)(h2:n<=i->i<n+3->p ⟨.unborn .recvJ,S.gw,S.vw,S.Xw⟩)(h3:i=n+3->p ⟨.unborn (.feed S.all),S.gf,S.vf,S.Xf⟩):p (S.D n q i):=by unfold Setup.D;split;exact h0 ‹_›;split;exact h1 (by omega) ‹_›;split;exact h2 (by omega) ‹_›;split;exact h3 ‹_›;omega
def start_inv(h:Ready S a w)(h0:gs[0]? =some a)(hL:Leavers S.P t gs q):Inv (S.cfg gs.size) S.all gs w t (S.D gs.size q) false false 0 0:=by
 have hp:0<gs.size:=(Array.getElem?_eq_some_iff.1 h0).1;have hcase:=λ(i:Nat) (hi:i<gs.size+4) (p:Pd α->Prop)=>@Setup.cases α S gs.size q i hi p;refine⟨hp,λi hi=>?_,by show gs.size<=gs.size+4;omega,λi hi=>?_,λi j hi hj hij b=>?_,.inl ⟨0,by omega,?_,rfl⟩,h.chJ,h.chR,?_,h.ne,?_⟩;refine hcase i hi (λd=>Ok (S.cfg gs.size) t i gs[i]? d) ?_ ?_ ?_ ?_;rintro rfl;exact⟨a,h0,h.gr0,h.term0⟩;intro h1 h2;refine⟨⟨gs[i],Array.getElem?_eq_getElem h2,hL.old i _ h1 (Array.getElem?_eq_getElem h2)⟩,λe=>by cases e⟩;intro h1 h2;have e:i≠0:=by omega
 refine⟨Array.getElem?_eq_none (by omega),if_neg e,?_,h.termw⟩;show GR S.P S.E S.Xw (if i=0 then S.cs else [base S.P]) S.gw (started S.P (if i<gs.size+3 then S.fw else S.ff) (if i<gs.size+3 then S.aw else S.af));rw[if_neg e,if_pos h2,if_pos h2];exact h.grw;intro h3;have e:i≠0:=by omega
 have e2:¬i<gs.size+3:=by omega
 refine⟨Array.getElem?_eq_none (by omega),if_neg e,?_,h.termf⟩;show GR S.P S.E S.Xf (if i=0 then S.cs else [base S.P]) S.gf (started S.P (if i<gs.size+3 then S.fw else S.ff) (if i<gs.size+3 then S.aw else S.af));rw[if_neg e,if_neg e2,if_neg e2];exact h.grf;exact hcase i hi (λd=>Sees (S.cfg gs.size) w d) (λ_=>h.wr0) (λ_ _=>h.wrn) (λ_ _=>h.wrw) (λ_=>h.wrf);show b∈(S.D gs.size q i).X->b∈(S.D gs.size q j).X->S.Sh b;refine hcase i hi (λd=>b∈d.X->b∈(S.D gs.size q j).X->S.Sh b) ?_ ?_ ?_ ?_;intro hi0 hb;refine hcase j hj (λd=>b∈d.X->S.Sh b) (λhj0=>absurd (hi0.trans hj0.symm) hij) (λ_ _ hb=>by cases hb) (λ_ _=>h.d0w b hb) (λ_=>h.d0f b hb);intro _ _ hb;cases hb;intro _ _ hb _;exact h.dww b hb;intro hi3 hb;refine hcase j hj (λd=>b∈d.X->S.Sh b) (λ_ hb'=>h.d0f b hb' hb) (λ_ _ hb=>by cases hb) (λ_ _ hb'=>h.dww b hb') (λhj3=>absurd (hi3.trans hj3.symm) hij);show(S.D gs.size q 0).st=_;unfold Setup.D;rw[if_pos rfl];show w.heap[S.N.D]? =some (.chan 3 (Array.replicate (0-0) S.N.dv) false 0 0 false);exact h.chD;have hn:(S.cfg gs.size).n=gs.size:=rfl;refine⟨λi hi=>?_,λp=>?_,Nat.le_refl _,?_,λi hi=>?_,λi j hi hj=>?_,λi j hi hj=>?_,λi k hi=>?_,Nat.le_refl _⟩;unfold Cfg.rl;rw[hn];refine hcase i hi (λd=>d.st.role=if i=0 then 3 else if i<gs.size then 0 else if i<gs.size+3 then 1 else 2) ?_ ?_ ?_ ?_;intro e;rw[if_pos e];rfl;intro e1 e2;rw[if_neg (by omega),if_pos e2];rfl;intro e1 e2;rw[if_neg (by omega),if_neg (by omega),if_pos e2];rfl;intro e;rw[if_neg (by omega),if_neg (by omega),if_neg (by omega)];rfl;have hj:gs.size+3<gs.size+4:=by omega
 refine(sumTo_at (j:=gs.size+3) hj λi hi hne=>?_).trans ?_;refine hcase i hi (λd=>d.st.tok p=0) (λ_=>rfl) (λ_ _=>rfl) (λ_ _=>rfl) (λe=>absurd e hne);refine hcase _ hj (λd=>d.st.tok p=S.all.countP p) (λe=>by omega) (λ_ e=>by omega) (λ_ e=>by omega) (λ_=>rfl);refine(sumTo_zero λi hi=>?_).symm;refine hcase i hi (λd=>d.st.said=0) (λ_=>rfl) (λ_ _=>rfl) (λ_ _=>rfl) (λ_=>rfl);refine hcase i hi (λd=>Stage false false 0 d.st) (λ_=>trivial) (λ_ _=>trivial) (λ_ _=>rfl) (λ_=>⟨rfl,rfl,rfl⟩);refine hcase i hi (λd=>d.st=.park .recvJ->_) ?_ ?_ ?_ ?_<;>(intros;simp_all);intro a g;refine hcase i hi (λd=>d.st=.park (.sendR a)->_) ?_ ?_ ?_ ?_<;>(intros;simp_all);refine hcase i hi (λd=>d.st=.park (.recvD k)->_) ?_ ?_ ?_ ?_<;>(intros;simp_all)
def start_tr(h0:gs[0]? =some a)(hL:Leavers S.P t gs q)(hP:Past2 t):Tr (S.cfg gs.size) t (S.D gs.size q) 0 0:=by
 have hp:0<gs.size:=(Array.getElem?_eq_some_iff.1 h0).1;have hcase:=λ(i:Nat) (hi:i<gs.size+4) (p:Pd α->Prop)=>@Setup.cases α S gs.size q i hi p;have hlt:∀i,(S.cfg gs.size).grp i->i<gs.size+4:=λi hi=>by rcases hi with rfl|⟨_,hi⟩;omega;exact hi
 refine⟨hP.clean,λp a ha hm=>.inl λi hi hu=>?_,λi hi _=>?_,λi q' hi=>?_,λq'=>?_,λj hj=>hL.above j (by have:(S.cfg gs.size).n=gs.size:=rfl;omega)⟩;have:i=0:=by revert hu;refine hcase i (hlt i hi) (λd=>(∀c,d.st≠.unborn c)->i=0) (λe _=>e) (λe1 e2 _=>?_) (λ_ _ hu=>absurd rfl (hu _)) (λ_ hu=>absurd rfl (hu _));rcases hi with hi|⟨hi,_⟩;exact hi;have:(S.cfg gs.size).n=gs.size:=rfl;omega
 subst this;exact hP.known p a ha hm;rcases hi with rfl|⟨hi,_⟩;exact hP.hears;exact hL.above i hi;refine hcase i hi (λd=>d.st=.old 1 q'->_) ?_ ?_ ?_ ?_<;>(intros;simp_all);refine hcase (gs.size+3) (by omega) (λd=>d.st=.old 2 q'->_) ?_ ?_ ?_ ?_<;>(intros;simp_all)
def bes_phase(h:Ready S a w):Bes S.P (After S w) a w:=by
 intro gs sl t q h0 hL hP;have hp:0<gs.size:=(Array.getElem?_eq_some_iff.1 h0).1;have hbase:∀i,(S.cfg gs.size).n<=i->i< (S.cfg gs.size).n+4->(S.cfg gs.size).R i=[base (S.cfg gs.size).P]:=λi hi _=>by have:(S.cfg gs.size).n=gs.size:=rfl;exact if_neg (by omega)
 obtain⟨N,gs',w',sl',t',D',hrun,hk,hf⟩:=phase (sl:=sl) (h.law gs.size) hbase (start_inv h h0 hL) (start_tr h0 hL hP) ⟨[],by unfold Setup.D;rw[if_pos rfl];exact(List.append_nil _).symm⟩;obtain⟨got,a',h1,h2,h2o,h3,h4⟩:=hf.start;obtain⟨q',hq'⟩:=hf.leave;have hz:(0:Nat)<gs.size+4:=by omega
 have hf3:gs.size+3<gs.size+4:=by omega
 have e0:(S.D gs.size q 0).X=S.X0:=by unfold Setup.D;rw[if_pos rfl]
 have e3:(S.D gs.size q (gs.size+3)).X=S.Xf:=by refine S.cases gs.size q hf3 (p:=λd=>d.X=S.Xf) (λe=>by omega) (λ_ e=>by omega) (λ_ e=>by omega) (λ_=>rfl)
 obtain⟨Y,hY,hY2⟩:=hk.grow 0;obtain⟨Z,hZ,_⟩:=hk.grow (gs.size+3);rw[e0]at hY;rw[e3]at hZ;have s0:WR S.E S.Sh (D' 0).X ((D' 0).v.re w'.tape w'.drawn) w':=hf.sees 0 hz;have s3:WR S.E S.Sh (D' (gs.size+3)).X ((D' (gs.size+3)).v.re w'.tape w'.drawn) w':=hf.sees (gs.size+3) hf3;refine⟨N,gs',a',w',sl',t',q',hrun,h1,hq',hf.past,got,(D' 0).X,(D' 0).g,(D' 0).v,(D' (gs.size+3)).X,(D' (gs.size+3)).g,(D' (gs.size+3)).v,h2,h2o,h3,h4,s0,⟨Y,hY,hY2⟩,hf.feeder,s3,⟨Z,hZ⟩,hk.size,λb hb n1 n2 n3 hx=>?_,hk.os,hk.output,hk.tape⟩;refine hk.heap b hb n1 n2 n3 (hx.imp (λhx i hi=>?_) id);exact S.cases gs.size q hi (p:=λd=>b∉d.X) (λ_=>hx.1) (λ_ _=>by simp) (λ_ _=>hx.2.1) (λ_=>hx.2.2)
end
end Ph
namespace Tp
open Go.Conc
def anyOrd(ops:Array Oper)(p:List Nat->Bool):Nat->Array Bool->List Nat->Bool
 |0,_,acc=>p acc.reverse|fuel+1,listed,acc=>match Region.ready .any ops listed with
  |[]=>p acc.reverse
  |x::r=>(x::r).all λi=>anyOrd ops p fuel (listed.setIfInBounds i true) (i::acc)
theorem anyOrd_go{ops p}:∀fuel t listed acc,anyOrd ops p fuel listed acc=true->p (Region.linearise.go .any ops fuel t listed acc)=true
 |0,t,listed,acc,h=>h|fuel+1,t,listed,acc,h=>by
  simp only[Region.linearise.go];change p (match(Region.ready .any ops listed)[t % (Region.ready .any ops listed).length]? with
   |some i=>Region.linearise.go .any ops fuel (t/(Region.ready .any ops listed).length) (listed.setIfInBounds i true) (i::acc)
   |none=>acc.reverse)=true
  unfold anyOrd at h;cases hr:Region.ready .any ops listed with|nil=>rw[hr]at h;exact h|cons x r=>rw[hr]at h;cases hi:(x::r)[t % (x::r).length]? with|none=>have hlt:t % (x::r).length< (x::r).length:=Nat.mod_lt _ (by simp);rw[List.getElem?_eq_none_iff]at hi;omega|some i=>dsimp only at h|-;rw[List.all_eq_true]at h;exact anyOrd_go fuel _ _ _ (h i (List.mem_of_getElem? hi))
def sched_all{P:Program}{ops p}(hm:P.follows .mixedOrders=true)(h:anyOrd ops p ops.size (Array.replicate ops.size false) []=true) t:p (Region.schedule (P.follows .mixedOrders) ops t)=true:=by simp only[Region.schedule,hm,Bool.true_or,if_true];exact anyOrd_go ops.size t _ _ h
def lastB(s:Nat)(l:List Nat):Bool:=l.getLast?==some s&& !l.dropLast.contains s
def lastB_ok{s l}(h:lastB s l=true):∃l1,l=l1++[s]/\s∉l1:=by unfold lastB at h;rw[Bool.and_eq_true,beq_iff_eq,Bool.not_eq_true',<-Bool.not_eq_true,List.contains_iff_mem]at h;obtain⟨l1,rfl⟩:=List.getLast?_eq_some_iff.1 h.1;exact⟨l1,rfl,by simpa using h.2⟩
def ready_same{ops ops'}(hs:ops'.size=ops.size)(ha:∀i:Nat,(ops'[i]?).map (λo:Oper=>o.after)=(ops[i]?).map (λo:Oper=>o.after)) listed:Region.ready .any ops' listed=Region.ready .any ops listed:=by
 unfold Region.ready;rw[hs];refine List.filter_congr λi _=>?_;have h:=ha i;cases h1:ops'[i]? with
 |none=>rw[h1]at h;cases h2:ops[i]? with|none=>rfl|some o=>rw[h2]at h;cases h
 |some o'=>rw[h1]at h;cases h2:ops[i]? with
 |none=>rw[h2]at h;cases h
 |some o=>rw[h2]at h;have:o'.after=o.after:=Option.some.inj h;simp only[Option.map_some,this]
theorem go_same{ops ops'}(hs:ops'.size=ops.size)(ha:∀i:Nat,(ops'[i]?).map (λo:Oper=>o.after)=(ops[i]?).map (λo:Oper=>o.after)):∀fuel t listed acc,Region.linearise.go .any ops' fuel t listed acc=Region.linearise.go .any ops fuel t listed acc
 |0,_,_,_=>rfl|fuel+1,t,listed,acc=>by
  simp only[Region.linearise.go];change (match(Region.ready .any ops' listed)[t % (Region.ready .any ops' listed).length]? with
   |some i=>Region.linearise.go .any ops' fuel (t/(Region.ready .any ops' listed).length) (listed.setIfInBounds i true) (i::acc)
   |none=>acc.reverse)=(match(Region.ready .any ops listed)[t % (Region.ready .any ops listed).length]? with
   |some i=>Region.linearise.go .any ops fuel (t/(Region.ready .any ops listed).length) (listed.setIfInBounds i true) (i::acc)
   |none=>acc.reverse)
  rw[ready_same hs ha];cases(Region.ready .any ops listed)[t % (Region.ready .any ops listed).length]? with|none=>rfl|some i=>exact go_same hs ha fuel _ _ _
def sched_same{P:Program}{ops ops'}(hm:P.follows .mixedOrders=true)(hs:ops'.size=ops.size)(ha:∀i:Nat,(ops'[i]?).map (λo:Oper=>o.after)=(ops[i]?).map (λo:Oper=>o.after)) t:Region.schedule (P.follows .mixedOrders) ops' t=Region.schedule (P.follows .mixedOrders) ops t:=by simp only[Region.schedule,hm,Bool.true_or,if_true];unfold Region.linearise;rw[hs];exact go_same hs ha _ _ _ _
section
variable{P:Program}{ops ops':Array Oper}{Q:Exit->Act->World->Prop}
theorem ops_steps(hQ:∀e a w,Q e a w->e=.normal):∀l a w,wpOps P ops Q l a w->∀r (b:Frame)(k)(cs),∃a' w',Q .normal a' w'/\Steps P (lone (b.at a (.inRegion ops (l++r)::k)) cs w) (lone (b.at a' (.inRegion ops r::k)) cs w')
 |[],a,w,h,r,b,k,cs=>⟨a,w,h,.refl _ _⟩|i::l,a,w,h,r,b,k,cs=>by
  have ih:=λa w h=>ops_steps hQ l a w h r b k cs;rw[List.cons_append];simp only[wpOps]at h;cases ho:ops[i]? with
  |none=>simp only[ho]at h;obtain⟨a',w',hq,hst⟩:=ih a w h;have hs:=step_op_skip (P:=P) (b:=b) (a:=a) (k:=k) (cs:=cs) (w:=w) (ops:=ops) (i:=i) (rest:=l++r) (by simp[ho]);simp only[ho,Option.bind_none,Act.put]at hs;exact⟨a',w',hq,.head hs hst⟩
  |some o=>
  simp only[ho]at h;by_cases hw:Region.wanted o (yielded ops a.tmps)=true
  ·simp only[hw,if_true]at h;rcases h with h|⟨_,a₀,w₀,hq⟩;case inr=>have:=hQ _ _ _ hq;cases this
   simp only[Oper.wp,Oper.upon]at h;have hg:=stepG_op (P:=P) (b:=b) (k:=k) (cs:=cs) (w:=w) (rest:=l++r) ho hw;have hfin:∀v,(b.at a (.inRegion ops (i::(l++r))::k)).finish v=b.at (a.put o.dst v) (.inRegion ops (l++r)::k):=by intro v;rw[Frame.finish_at,ho];rfl
   split at h;rename_i v w' hr;obtain⟨a',w'',hq,hst⟩:=ih _ _ h;refine⟨a',w'',hq,.head (step_lone_go ?_) hst⟩;rw[hg,<-hfin];simp[stepG.apply,hr];rename_i w' hr;obtain⟨a',w'',hq,hst⟩:=ih _ _ h;refine⟨a',w'',hq,.head (step_lone_go ?_) hst⟩;rw[hg,<-hfin];simp[stepG.apply,hr];rename_i d w' hr;obtain⟨a',w'',hq,hst⟩:=ih _ _ h;refine⟨a',w'',hq,.head (step_lone_go ?_) hst⟩;have:({b.at a (.inRegion ops (i::(l++r))::k)with defers:=d::a.defers}:Frame).finish undef =
     b.at ({a with defers:=d::a.defers}.put o.dst undef) (.inRegion ops (l++r)::k):=by
    have:=Frame.finish_at b {a with defers:=d::a.defers} ops i (l++r) k undef
    rw[ho]at this;exact this
   rw[hg];simp only[stepG.apply,Sem.runT_eq,hr,GStep.bare_after];exact congrArg (λfr=>GStep.go {frame:=fr,callers:=cs,status:=.running,dying:=none} w') this;rename_i f args w' hr;obtain⟨e,w'',fr,hR,hsteps,_,hleave⟩:=h (b.at a (.inRegion ops (i::(l++r))::k)::cs);have henter:step P (lone (b.at a (.inRegion ops (i::(l++r))::k)) cs w)=.next (lone (Frame.enter P f args .normal) (b.at a (.inRegion ops (i::(l++r))::k)::cs) w'):=
    step_lone_go (by rw[hg];simp[stepG.apply,hr,Frame.at])
   cases e with
   |returned v=>obtain⟨a',w₃,hq,hst⟩:=ih _ _ hR;refine⟨a',w₃,hq,.head henter (Steps.trans hsteps (.head ?_ hst))⟩;rw[<-hfin];exact step_leave_returned hleave
   |panicked chain=>have:=hQ _ _ _ hR;cases this
   |outgrown=>obtain⟨a₀,w₀,hq⟩:=hR;have:=hQ _ _ _ hq;cases this
   rename_i row args w' hr;obtain⟨v,w'',hR,hsteps⟩:=h (b.at a (.inRegion ops (i::(l++r))::k)) cs;have henter:step P (lone (b.at a (.inRegion ops (i::(l++r))::k)) cs w)=.next (lone (Frame.ofRow P row args .normal) (b.at a (.inRegion ops (i::(l++r))::k)::cs) w'):=
    step_lone_go (by rw[hg];simp[stepG.apply,hr,Frame.at])
   obtain⟨a',w₃,hq,hst⟩:=ih _ _ hR;exact⟨a',w₃,hq,.head henter (Steps.trans (by rw[<-hfin];exact hsteps) hst)⟩;have:=hQ _ _ _ h;cases this;exact h.elim
  simp only[hw,if_false,Bool.false_eq_true]at h;obtain⟨a',w',hq,hst⟩:=ih _ _ h;have hs:=step_op_skip (P:=P) (b:=b) (a:=a) (k:=k) (cs:=cs) (w:=w) (ops:=ops) (i:=i) (rest:=l++r) (by simp[ho];simpa using hw);simp only[ho,Option.bind_some]at hs;exact⟨a',w',hq,.head hs hst⟩
def fakeOp(o:Oper):Oper:={o with op:=.move (.const undef),dst:=none}
def fake(ops:Array Oper)(s:Nat):Array Oper:=match ops[s]? with
 |some o=>ops.setIfInBounds s (fakeOp o)
 |none=>ops
def fake_ne{s j}(h:j≠s):(fake ops s)[j]? =ops[j]?:=by unfold fake;split;rw[Array.getElem?_setIfInBounds_ne (Ne.symm h)];rfl
def fake_size s:(fake ops s).size=ops.size:=by unfold fake;split<;>simp
def fake_after(s i:Nat):((fake ops s)[i]?).map (λo:Oper=>o.after)=(ops[i]?).map (λo:Oper=>o.after):=by by_cases h:i=s;subst h;unfold fake;split;rename_i o ho;have hlt:i<ops.size:=(Array.getElem?_eq_some_iff.1 ho).1;rw[Array.getElem?_setIfInBounds_self_of_lt hlt,ho];rfl;rfl;rw[fake_ne h]
def noGuard(ops:Array Oper):Prop:=∀(i:Nat) o,ops[i]? =some o->o.guard=none
def noGuardB(ops:Array Oper):Bool:=ops.toList.all λo=>o.guard.isNone
def noGuardB_ok(h:noGuardB ops=true):noGuard ops:=λi o ho=>by unfold noGuardB at h;rw[List.all_eq_true]at h;have:=h o (by simpa using Array.mem_of_getElem? ho);simpa using this
theorem wpOps_fake{s o}(hg:noGuard ops)(ho:ops[s]? =some o)(hQ:∀e a w,Q e a w->e=.normal):∀l a w,s∉l->wpOps P (fake ops s) Q (l++[s]) a w->wpOps P ops Q l a w
 |[],a,w,_,h=>by
  have hlt:s<ops.size:=(Array.getElem?_eq_some_iff.1 ho).1;have hf:(fake ops s)[s]? =some (fakeOp o):=by unfold fake;rw[ho];exact Array.getElem?_setIfInBounds_self_of_lt hlt
  rw[List.nil_append]at h;simp only[wpOps,hf]at h;rw[wanted_of (show(fakeOp o).guard=none from hg s o ho)]at h;simp only[if_true]at h;rcases h with h|⟨_,_,_,hq⟩;exact h;have:=hQ _ _ _ hq;cases this
 |i::l,a,w,hs,h=>by rw[List.cons_append]at h;have hi:i≠s:=λe=>hs (by rw[e];exact List.mem_cons_self);have ih:=λa w=>wpOps_fake hg ho hQ l a w (λhm=>hs (List.mem_cons_of_mem _ hm));simp only[wpOps,fake_ne hi]at h|-;cases hoi:ops[i]? with|none=>simp only[hoi]at h|-;exact ih a w h|some oi=>simp only[hoi]at h|-;rw[wanted_of (hg i oi hoi)]at h|-;simp only[if_true]at h|-;rcases h with h|⟨h1,h2⟩;exact .inl (Oper.wp_mono ih h);exact .inr ⟨h1,h2⟩
def wpOps_held{S}(hm:P.follows .mixedOrders=true){a w}(h:wpAnyH P .any ops Q S ops.size (Array.replicate ops.size false) a w) t:wpOps P ops Q (Region.schedule (P.follows .mixedOrders) ops t) a w:=by simp only[Region.schedule,hm,Bool.true_or,if_true];exact wpAny_sound ops.size t _ a _ (wpAny_of_held _ _ _ _ h)
def region_cut{S id s o}(hm:P.follows .mixedOrders=true)(hl:anyOrd ops (lastB s) ops.size (Array.replicate ops.size false) []=true)(hg:noGuardB ops=true)(ho:ops[s]? =some o)(hQ:∀e a w,Q e a w->e=.normal){a w} (h:wpAnyH P .any (fake ops s) Q S (fake ops s).size (Array.replicate (fake ops s).size false) a {w with drawn:=w.drawn+1}) (b:Frame) k cs:∃a' w',Q .normal a' w'/\Steps P (lone (b.at a (.code (.region id ops true)::k)) cs w) (lone (b.at a' (.inRegion ops [s]::k)) cs w'):=by have h1:=wpOps_held hm h (w.tape w.drawn (.order b.fn id));rw[sched_same hm (fake_size s) (fake_after s)]at h1;obtain⟨l,hls,hs⟩:=lastB_ok (sched_all hm hl (w.tape w.drawn (.order b.fn id)));have hst:=step_region_draw (P:=P) (b:=b) (a:=a) (k:=k) (cs:=cs) (w:=w) (ops:=ops) (id:=id);rw[hls]at h1 hst;obtain⟨a',w',hq,h2⟩:=ops_steps hQ l a _ (wpOps_fake (noGuardB_ok hg) ho hQ l a _ hs h1) [s] b k cs;exact⟨a',w',hq,.head hst h2⟩
def region_cut0{id s r}(hr:List.range ops.size=List.range s++r)(hQ:∀e a w,Q e a w->e=.normal){a w}(h:wpOps P ops Q (List.range s) a w)(b:Frame) k cs:∃a' w',Q .normal a' w'/\Steps P (lone (b.at a (.code (.region id ops false)::k)) cs w) (lone (b.at a' (.inRegion ops r::k)) cs w'):=by have hst:=step_region (P:=P) (b:=b) (a:=a) (k:=k) (cs:=cs) (w:=w) (ops:=ops) (id:=id);rw[hr]at hst;obtain⟨a',w',hq,h2⟩:=ops_steps hQ _ a w h r b k cs;exact⟨a',w',hq,.head hst h2⟩
def onlyN(K:Act->World->Prop):Exit->Act->World->Prop
 |.normal,a,w=>K a w|_,_,_=>False
def onlyN_ok{K}:∀e a w,onlyN K e a w->e=.normal:=λe a w h=>by cases e<;>first|rfl|exact h.elim
end
end Tp
namespace Ph
open Go.Conc Rn
def base_quits{P} off:QuitsD P 1 0 ⟨base P,[],.running,none,off⟩:=by
 refine .inr ⟨rfl,⟨base P,[],.finished,none,none⟩,#[],by simp,λw=>?_,⟨rfl,rfl⟩⟩;have e1:stepG P false ⟨base P,[],.running,none,off⟩ w=unwind P false (base P) [] none w:=rfl;rw[e1];unfold unwind;have h1:(base P).defers=[]:=rfl;have h2:(base P).mode=.panicking [goexitEntry]:=rfl;have h3:(base P).catches P=false:=by unfold Frame.catches;have:(base P).todo=[]:=rfl;rw[this];split<;>first|rfl|(rename_i h;cases h)
 simp only[h1,h2,h3];rfl
def quits_tail{P fr fn ops off}(hf:P.funcs[fr.fn]? =some fn)(hr:fn.results=#[])(hm:fr.mode=.run)(ht:fr.todo=[.inRegion ops []])(hd:fr.defers=[])(hro:fr.roundOf=none)(hk:fr.kind=.deferred):QuitsD P 4 0 ⟨fr,[base P],.running,none,off⟩:=by
 refine .inr ⟨rfl,⟨{fr with todo:=[]},[base P],.running,none,none⟩,#[],by simp,λw=>?_,?_⟩;have e1:stepG P false ⟨fr,[base P],.running,none,off⟩ w=stepG.exec P false true fr [base P] none w:=by unfold stepG;simp only[hm]
 rw[e1];unfold stepG.exec;simp only[ht];refine .inr ⟨rfl,⟨{fr with todo:=[],mode:=.returning},[base P],.running,none,none⟩,#[],by simp,λw=>?_,?_⟩;have e1:stepG P false ⟨{fr with todo:=[]},[base P],.running,none,none⟩ w=stepG.exec P false true {fr with todo:=[]} [base P] none w:=by unfold stepG;simp only[hm]
 rw[e1];unfold stepG.exec;simp only[hro];rfl;refine .inr ⟨rfl,⟨base P,[],.running,none,none⟩,#[],by simp,λw=>?_,base_quits none⟩;have e1:stepG P false ⟨{fr with todo:=[],mode:=.returning},[base P],.running,none,none⟩ w=unwind P false {fr with todo:=[],mode:=.returning} [base P] none w:=rfl;rw[e1];unfold unwind;have hres:(results fn fr.tmps).runT P w #[]=(.ok (.tuple #[]) w,#[]):=by rw[Sem.runT_eq,results_none hr _ P w];exact congrArg (Prod.mk _) (events_results_none hr _ _)
 simp only[hd,hf,hres];unfold doReturn;simp only[hk];rfl
end Ph
namespace Ph
open Go.Conc Rn
open Tp (Bodied Term Ld Arr arr_stop arr_step arr_steps gor Fit fineS fineL fineC)
def cl:Code->Code
 |.seq x _=>x|c=>c
def cr:Code->Code
 |.seq _ y=>y|c=>c
def ci:Code->Code
 |.block _ c=>c|.loop c=>c|c=>c
def co:Code->Array Oper
 |.region _ o _=>o|_=>#[]
def cb(f:Func):Code:=f.body.getD .skip
def Pre(v:World)(l:List Obj):Prop:=∀(i:Nat)(o:Obj),l[i]? =some o->v.heap[i]? =some o
def Pre.alloc{v l}(h:Pre v l) o:Pre (v.alloc o) l:=λi x hx=>by have h1:=h i x hx;have hlt:=(Array.getElem?_eq_some_iff.1 h1).1;show(v.heap.push o)[i]? =some x;rw[Array.getElem?_push_lt hlt];rw[Array.getElem?_eq_getElem hlt]at h1;exact h1
def Pre.mk l v(h:v.heap=l.toArray):Pre v l:=λi o ho=>by rw[h];simpa using ho
def Pre.keep{v w l}(h:Pre v l)(hk:∀b,b<l.length->w.heap[b]? =v.heap[b]?):Pre w l:=λi o ho=>by rw[hk i (List.getElem?_eq_some_iff.1 ho).1];exact h i o ho
def Pre.le{v l}(h:Pre v l):l.length<=v.heap.size:=by rcases Nat.lt_or_ge v.heap.size l.length with hlt|hge;have:=h v.heap.size l[v.heap.size] (List.getElem?_eq_getElem hlt);rw[Array.getElem?_eq_none (Nat.le_refl _)]at this;cases this;exact hge
def junk:Obj:=.cells #[] 0 (0,0)
def fz(c:List Value)(t:TypeId):Obj:=.cells c.toArray t (0,c.length)
def Pre.row{v l}(h:Pre v l){i c t}(hi:l[i]? =some (fz c t)) j:v.cell? ⟨i,j,none⟩=c[j]?:=by have h1:=h i _ hi;unfold World.cell?;simp only[h1,fz];simp
def fineB:Item->Bool
 |.code _|.inBlock _|.inLoop _|.inRegion _ _=>true|_=>false
def fineB_ok{l}(h:l.all fineB=true):fineL l:=λit hi=>by rw[List.all_eq_true]at h;have:=h it hi;cases it<;>first|trivial|cases this
def fine_wall:fineC [wall]:=λc hc=>by rw[List.mem_singleton]at hc;subst hc;exact fineB_ok rfl
def fine_lone{fr}(h:fr.todo.all fineB=true):fineS none fr [wall]:=⟨fineB_ok h,fine_wall,λhd=>by cases hd⟩
section
variable{P:Program}{Stop:Goroutine->World->Prop}{b:Frame}{a:Act}{k:List Item}{cs:List Frame}{v w w':World}
def term_of_arr(hB:Bodied P)(hS:∀g w τ n,Stop g w->Stop g (w.re τ n)){fr}(hf:fr.todo.all fineB=true)(h:∀τ n,Arr P Stop fr [wall] (v.re τ n)):Term P Stop (gor fr [wall]) v:=Tp.term_of_runs hB hS ⟨rfl,(λd hd=>by cases hd),fine_lone hf⟩ rfl (Tp.runs_of_arr h)
def arr_wp{c}(h:c.wp P (Tp.onlyN λa' w'=>Arr P Stop (b.at a' k) cs w') a w):Arr P Stop (b.at a (.code c::k)) cs w:=by obtain⟨e,a',w',q,r⟩:=h b k cs;have he:=Tp.onlyN_ok _ _ _ q;subst he;exact arr_steps r q
def arr_cut0{id s r ops}(hr:List.range ops.size=List.range s++r)(h:wpOps P ops (Tp.onlyN λa' w'=>Arr P Stop (b.at a' (.inRegion ops r::k)) cs w') (List.range s) a w):Arr P Stop (b.at a (.code (.region id ops false)::k)) cs w:=by obtain⟨a',w',q,hs⟩:=Tp.region_cut0 (id:=id) hr Tp.onlyN_ok h b k cs;exact arr_steps hs q
def arr_cut{S id s o ops}(hm:P.follows .mixedOrders=true)(hl:Tp.anyOrd ops (Tp.lastB s) ops.size (Array.replicate ops.size false) []=true)(hg:Tp.noGuardB ops=true)(ho:ops[s]? =some o) (h:wpAnyH P .any (Tp.fake ops s) (Tp.onlyN λa' w'=>Arr P Stop (b.at a' (.inRegion ops [s]::k)) cs w') S (Tp.fake ops s).size (Array.replicate (Tp.fake ops s).size false) a {w with drawn:=w.drawn+1}):Arr P Stop (b.at a (.code (.region id ops true)::k)) cs w:=by obtain⟨a',w',q,hs⟩:=Tp.region_cut (id:=id) hm hl hg ho Tp.onlyN_ok h b k cs;exact arr_steps hs q
def arr_seqE{c x y}(h:c=.seq x y)(h':Arr P Stop (b.at a (.code x::.code y::k)) cs w):Arr P Stop (b.at a (.code c::k)) cs w:=by subst h;exact Tp.arr_seq h'
def arr_blockE{c x id}(h:c=.block id x)(h':Arr P Stop (b.at a (.code x::.inBlock id::k)) cs w):Arr P Stop (b.at a (.code c::k)) cs w:=by subst h;exact Tp.arr_block h'
def arr_loopE{c x}(h:c=.loop x)(h':Arr P Stop (b.at a (.code x::.inLoop x::k)) cs w):Arr P Stop (b.at a (.code c::k)) cs w:=by subst h;exact Tp.arr_loop h'
def arr_condE{c x y q t}(h:c=.cond q x y)(hc:a.eval q=.bool t)(h':Arr P Stop (b.at a (.code (if t then x else y)::k)) cs w):Arr P Stop (b.at a (.code c::k)) cs w:=by subst h;exact Tp.arr_cond hc h'
def arr_skipE{c}(h:c=.skip)(h':Arr P Stop (b.at a k) cs w):Arr P Stop (b.at a (.code c::k)) cs w:=by subst h;exact Tp.arr_skip h'
def arr_exitE{c id}(h:c=.exit id){k'}(hk:exitTo id k=some k')(h':Arr P Stop (b.at a k') cs w):Arr P Stop (b.at a (.code c::k)) cs w:=by subst h;exact Tp.arr_exit hk h'
def arr_wpE{c c'}(e:c=c')(h:c'.wp P (Tp.onlyN λa' w'=>Arr P Stop (b.at a' k) cs w') a w):Arr P Stop (b.at a (.code c::k)) cs w:=by subst e;exact arr_wp h
def arr_cut0E{c id s r ops}(e:c=.region id ops false)(hr:List.range ops.size=List.range s++r)(h:wpOps P ops (Tp.onlyN λa' w'=>Arr P Stop (b.at a' (.inRegion ops r::k)) cs w') (List.range s) a w):Arr P Stop (b.at a (.code c::k)) cs w:=by subst e;exact arr_cut0 hr h
theorem wpOps_of_list{ops Q}:∀l os,l.map (λi=>ops[i]?)=os.map some->∀a w,wpList P ops Q os a w->wpOps P ops Q l a w
 |[],os,h,a,w,hw=>by
  have:os=[]:=by simpa using h.symm
  subst this;exact hw|i::l,os,h,a,w,hw=>by cases os with|nil=>simp at h|cons o os=>simp only[List.map_cons,List.cons.injEq]at h;unfold wpList at hw;simp only[wpOps,h.1];split at hw;rename_i hg;rw[if_pos hg];exact hw.imp (λx=>Oper.wp_mono (λa' w' h'=>wpOps_of_list l os h.2 a' w' h') x) id;rename_i hg;rw[if_neg hg];exact wpOps_of_list l os h.2 _ _ hw
def range_take{L:List Oper} n(h:n<=L.length):(List.range n).map (λi=>L.toArray[i]?)=(L.take n).map some:=by apply List.ext_getElem?;intro i;by_cases hi:i<n;simp[hi,List.getElem?_take_of_lt hi,List.getElem?_eq_getElem (show i<L.length by omega)];simp[hi];omega
def arr_pre{c id} s r{L:List Oper}(e:c=.region id L.toArray false)(hr:List.range L.length=List.range s++r)(hs:s<=L.length)(h:wpList P L.toArray (Tp.onlyN λa' w'=>Arr P Stop (b.at a' (.inRegion L.toArray r::k)) cs w') (L.take s) a w):Arr P Stop (b.at a (.code c::k)) cs w:=by subst e;exact arr_cut0 (by simpa using hr) (wpOps_of_list _ _ (range_take s hs) _ _ h)
def arr_cutE{c S id s o ops fo}(e:c=.region id ops true)(hm:P.follows .mixedOrders=true)(hl:Tp.anyOrd ops (Tp.lastB s) ops.size (Array.replicate ops.size false) []=true)(hg:Tp.noGuardB ops=true)(ho:ops[s]? =some o)(hf:Tp.fake ops s=fo) (h:wpAnyH P .any fo (Tp.onlyN λa' w'=>Arr P Stop (b.at a' (.inRegion ops [s]::k)) cs w') S fo.size (Array.replicate fo.size false) a {w with drawn:=w.drawn+1}):Arr P Stop (b.at a (.code c::k)) cs w:=by subst e;subst hf;exact arr_cut hm hl hg ho h
def served_at{ops i r o}(ho:ops[i]? =some o) x:Go.Conc.served (gor (b.at a (.inRegion ops (i::r)::k)) cs) x=gor (b.at (a.put o.dst x) (.inRegion ops r::k)) cs:=by unfold Go.Conc.served;dsimp only;rw[Frame.finish_at,ho];rfl
def doneG_at{ops i r o}(ho:ops[i]? =some o) x:doneG (gor (b.at a (.inRegion ops (i::r)::k)) cs) x=gor (b.at (a.put o.dst x) (.inRegion ops r::k)) cs:=by unfold doneG;dsimp only;rw[Frame.finish_at,ho];rfl
end
end Ph
namespace Rn
def cleanB:Nat->Value->Bool
 |0,_=>false|n+1,v=>match v with
  |.bool _|.int _ _|.string _|.pointer none|.slice none _ _|.map none|.chan none|.nilFunc|.nilIface=>true
  |.agg a|.tuple a=>a.toList.all (cleanB n)
  |_=>false
theorem cleanB_ok:∀n v,cleanB n v=true->Clean v
 |0,_,h=>by cases h
 |n+1,v,h=>by
  have key:∀a:Array Value,a.toList.all (cleanB n)=true->∀(i:Nat) x,a[i]? =some x->Clean x:=λa ha i x hx=>by rw[List.all_eq_true]at ha;exact cleanB_ok n x (ha x (by have:=Array.mem_of_getElem? hx;simpa using this))
  cases v with
  |bool b=>exact .bool b|int k n=>exact .int k n
  |string s=>exact .string s|pointer a=>cases a with|none=>exact .ptrN|some a=>cases h
  |slice a n c=>cases a with|none=>exact .sliceN n c|some a=>cases h
  |map a=>cases a with|none=>exact .mapN|some a=>cases h
  |chan a=>cases a with|none=>exact .chanN|some a=>cases h
  |nilFunc=>exact .nilFunc|nilIface=>exact .nilIface
  |agg a=>exact .agg a (key a h)|tuple a=>exact .tuple a (key a h)
  |_=>cases h
section
variable(P:Program)(fl:List Nat)
def zeroB(t:TypeId):Bool:=match P.info? t with
 |some i=>match i.zero with
  |some z=>cleanB 100 z
  |none=>true
 |none=>true
def zeroB_ok{t}(h:zeroB P t=true):ZeroOK P t:=λi z hi hz=>by unfold zeroB at h;rw[hi]at h;dsimp only at h;rw[hz]at h;exact cleanB_ok _ _ h
def elemB(t:TypeId):Bool:=match P.underlying t with
 |some (.slice e)=>zeroB P e
 |_=>true
def elemB_ok{t}(h:elemB P t=true):∀e,P.underlying t=some (.slice e)->ZeroOK P e:=λe he=>by unfold elemB at h;rw[he]at h;exact zeroB_ok P h
def sizesB(t:TypeId):Bool:=match P.underlying t with
 |some (.struct fs)=>fs.toList.all λf=>match P.info? f.type with
  |some i=>i.size != 0
  |none=>true
 |_=>true
def sizesB_ok{t}(h:sizesB P t=true):SizesOK P t:=λfs f i n hu hf hi=>by unfold sizesB at h;rw[hu]at h;dsimp only at h;rw[List.all_eq_true]at h;have:=h f (by have:=Array.mem_of_getElem? hf;simpa using this);rw[hi]at this;simpa using this
def convB(s d:TypeId):Bool:=match P.underlying d,P.underlying s with
 |some (.int _),some (.int _)=>true
 |some .string,some (.slice e)=>match P.underlying e with
  |some (.int .u8)=>true
  |_=>false
 |_,_=>false
def convB_ok{s d}(h:convB P s d=true):ConvOK P s d:=by unfold convB at h;split at h;rename_i k j h1 h2;exact .inl ⟨k,j,h1,h2⟩;rename_i e h1 h2;split at h;rename_i h3;exact .inr ⟨h1,e,h2,h3⟩;cases h;cases h
def mapB(t:TypeId):Bool:=match P.underlying t with
 |some (.map k e)=>(match P.underlying k with|some .string=>true|_=>false)&&zeroB P e
 |_=>false
def mapB_ok{t}(h:mapB P t=true):MapOK P t:=by unfold mapB at h;split at h;rename_i k e h1;rw[Bool.and_eq_true]at h;obtain⟨h2,h3⟩:=h;split at h2;rename_i h4;exact⟨k,e,h1,h4,zeroB_ok P h3⟩;cases h2;cases h
def rangeB(t:TypeId):Bool:=match P.underlying t with
 |some (.map _ _)=>true
 |_=>false
def rangeB_ok{t}(h:rangeB P t=true):∀d,P.underlying t=some d->∃k e,d=.map k e:=λd hd=>by unfold rangeB at h;rw[hd]at h;cases d<;>first|exact⟨_,_,rfl⟩|cases h
def binB:BinOp->Bool
 |.add|.sub|.mul|.and|.or|.xor|.shl|.shr|.lss|.geq=>true|_=>false
def binB_ok{op}(h:binB op=true):BinOK op:=by cases op<;>first|exact trivial|cases h
def lenB(t:TypeId):Bool:=match P.underlying t with
 |some (.map _ _)|some (.chan _ _)=>false
 |_=>true
def lenB_ok{t}(h:lenB P t=true):∀d,P.underlying t=some d->(∀k e,d≠.map k e)/\∀a b,d≠.chan a b:=λd hd=>by unfold lenB at h;rw[hd]at h;refine⟨λk e e1=>?_,λa b e1=>?_⟩<;>subst e1<;>cases h
def appB(t u:TypeId):Bool:=elemB P t&&match P.underlying u with
 |some (.int _)=>false
 |some _=>true
 |none=>false
def appB_ok{t u}(h:appB P t u=true):AppOK P t u:=by unfold appB at h;rw[Bool.and_eq_true]at h;refine⟨elemB_ok P h.1,?_⟩;have h2:=h.2;split at h2;cases h2;rename_i d hne hd;exact⟨d,hd,λk e=>by subst e;exact hne k rfl⟩;cases h2
def qB:Operand->Bool
 |.tmp _=>true|.const v=>cleanB 100 v|.func f=>fl.contains f|.global _=>false
def qB_ok{E}(hF:∀f∈fl,E.F f){x}(h:qB fl x=true):QX E x:=by cases x with|tmp t=>exact trivial|const v=>exact cleanB_ok _ _ h|func f=>exact hF f (by simpa[qB]using h)|global g=>cases h
def qoB:Option Operand->Bool
 |none=>true|some x=>qB fl x
def callB(c:Call):Bool:=c.args.toList.all (qB fl)&&match c.callee with
 |.value f=>qB fl f
 |.builtin .len=>match c.argTypes.toList,c.args.toList with
  |[t],[_]=>lenB P t
  |_,_=>false
 |.builtin .append=>match c.argTypes.toList,c.args.toList with
  |[t,u],[_,_]=>appB P t u
  |_,_=>false
 |_=>false
def opB(o:Oper):Bool:=match o.op with
 |.move x|.assign x|.nilCheck x|.load _ x|.box _ x|.extract x _|.entry x=>qB fl x
 |.pick c a b=>qB fl c&&qB fl a&&qB fl b
 |.alloc e=>zeroB P e
 |.build t l=>zeroB P t&&l.toList.all λx=>qB fl x.2
 |.buildSlice t _ l=>elemB P t&&l.toList.all λx=>qB fl x.2
 |.store _ a x=>qB fl a&&qB fl x
 |.binOp op _ x y _=>binB op&&qB fl x&&qB fl y
 |.convert s d x=>convB P s d&&qB fl x
 |.makeFunc (.func f) a c=>fl.contains f&&a.toList.all (qB fl)&&c.toList.all (qB fl)
 |.makeMap _ none=>true
 |.makeSlice t l c=>elemB P t&&qB fl l&&qB fl c
 |.slice _ x a b c=>qB fl x&&qoB fl a&&qoB fl b&&qoB fl c
 |.fieldAddr t x _=>sizesB P t&&qB fl x
 |.indexAddr _ x i|.index _ x i=>qB fl x&&qB fl i
 |.lookup t x i _=>mapB P t&&qB fl x&&qB fl i
 |.mapUpdate t m k x=>mapB P t&&qB fl m&&qB fl k&&qB fl x
 |.range t x=>rangeB P t&&qB fl x
 |.next x s=> !s&&qB fl x
 |.call c=>callB P fl c
 |_=>false
def talkB(o:Oper):Bool:=match o.op with
 |.send ch x=>qB fl ch&&qB fl x
 |.recv _ ch _=>qB fl ch
 |.call c=>(match c.callee with|.builtin .close=>true|_=>false)&&match c.args.toList with
  |[x]=>qB fl x
  |_=>false
 |.go c=>(match c.callee with|.value x=>qB fl x|_=>false)&&c.args.toList.isEmpty
 |_=>false
def opxB(o:Oper):Bool:=o.guard.isNone&& (opB P fl o || talkB fl o)
def codeB:Code->Bool
 |.region _ ops _=>ops.toList.all (opxB P fl)|.seq a b=>codeB a&&codeB b|.cond c a b=>qB fl c&&codeB a&&codeB b|.block _ b|.loop b=>codeB b|.exit _|.ret|.skip|.refuse _=>true|_=>false
def list1{β a}{x:β}(h:a.toList=[x]):a=#[x]:=by apply Array.ext';simpa using h
def list2{β a}{x y:β}(h:a.toList=[x,y]):a=#[x,y]:=by apply Array.ext';simpa using h
def allB_ok{E}(hF:∀f∈fl,E.F f){a:Array Operand}(h:a.toList.all (qB fl)=true):∀x∈a,QX E x:=λx hx=>by rw[List.all_eq_true]at h;exact qB_ok fl hF (h x (by simpa using hx))
def partsB_ok{E}(hF:∀f∈fl,E.F f){a:Array (Nat×Operand)}(h:(a.toList.all λx=>qB fl x.2)=true):∀x∈a,QX E x.2:=λx hx=>by rw[List.all_eq_true]at h;exact qB_ok fl hF (h x (by simpa using hx))
def qoB_ok{E}(hF:∀f∈fl,E.F f){x}(h:qoB fl x=true):QO (QX E) x:=by cases x with|none=>exact trivial|some x=>exact qB_ok fl hF h
def callB_ok{E}(hF:∀f∈fl,E.F f){c}(h:callB P fl c=true):CallOK P (QX E) c:=by
 unfold callB at h;rw[Bool.and_eq_true]at h;obtain⟨h1,h2⟩:=h;refine⟨allB_ok fl hF h1,?_⟩;cases hc:c.callee with
 |value f=>rw[hc]at h2;exact qB_ok fl hF h2|builtin b=>
  rw[hc]at h2;cases b with
  |len=>dsimp only at h2|-;split at h2;rename_i t x e1 e2;exact⟨t,x,list1 e1,list1 e2,lenB_ok P h2⟩;cases h2
  |append=>dsimp only at h2|-;split at h2;rename_i t u x y e1 e2;exact⟨t,u,x,y,list2 e1,list2 e2,appB_ok P h2⟩;cases h2
  |_=>cases h2
 |invoke r n=>rw[hc]at h2;cases h2
def opB_ok{E}(hF:∀f∈fl,E.F f){o}(h:opB P fl o=true):OpOK P E (QX E) o:=by
 obtain⟨dst,op,type,pos,after,guard⟩:=o;have q:=λ{x:Operand} (h:qB fl x=true)=>qB_ok (E:=E) fl hF h;cases op with
 |makeFunc fn a c=>cases fn with|func f=>simp only[opB,Bool.and_eq_true]at h;exact⟨hF f (by simpa using h.1.1),allB_ok fl hF h.1.2,allB_ok fl hF h.2⟩|_=>cases h
 |makeMap t r=>cases r with|none=>exact trivial|some r=>cases h
 |call c=>exact callB_ok P fl hF h|move x=>exact q h
 |assign x=>exact q h|nilCheck x=>exact q h
 |load t x=>exact q h|box t x=>exact q h
 |extract x i=>exact q h|entry x=>exact q h
 |pick c a b=>simp only[opB,Bool.and_eq_true]at h;exact⟨q h.1.1,q h.1.2,q h.2⟩|alloc e=>exact zeroB_ok P h
 |build t l=>simp only[opB,Bool.and_eq_true]at h;exact⟨zeroB_ok P h.1,partsB_ok fl hF h.2⟩|buildSlice t n l=>simp only[opB,Bool.and_eq_true]at h;exact⟨elemB_ok P h.1,partsB_ok fl hF h.2⟩
 |store t a x=>simp only[opB,Bool.and_eq_true]at h;exact⟨q h.1,q h.2⟩|binOp op t x y t2=>simp only[opB,Bool.and_eq_true]at h;exact⟨binB_ok h.1.1,q h.1.2,q h.2⟩
 |convert s d x=>simp only[opB,Bool.and_eq_true]at h;exact⟨convB_ok P h.1,q h.2⟩|makeSlice t l c=>simp only[opB,Bool.and_eq_true]at h;exact⟨elemB_ok P h.1.1,q h.1.2,q h.2⟩
 |slice t x a b c=>simp only[opB,Bool.and_eq_true]at h;exact⟨q h.1.1.1,qoB_ok fl hF h.1.1.2,qoB_ok fl hF h.1.2,qoB_ok fl hF h.2⟩|fieldAddr t x i=>simp only[opB,Bool.and_eq_true]at h;exact⟨sizesB_ok P h.1,q h.2⟩
 |indexAddr t x i=>simp only[opB,Bool.and_eq_true]at h;exact⟨q h.1,q h.2⟩|index t x i=>simp only[opB,Bool.and_eq_true]at h;exact⟨q h.1,q h.2⟩
 |lookup t x i ok=>simp only[opB,Bool.and_eq_true]at h;exact⟨mapB_ok P h.1.1,q h.1.2,q h.2⟩|mapUpdate t m k x=>simp only[opB,Bool.and_eq_true]at h;exact⟨mapB_ok P h.1.1.1,q h.1.1.2,q h.1.2,q h.2⟩
 |range t x=>simp only[opB,Bool.and_eq_true]at h;exact⟨rangeB_ok P h.1,q h.2⟩|next x s=>simp only[opB,Bool.and_eq_true]at h;exact⟨by simpa using h.1,q h.2⟩
 |_=>cases h
def talkB_ok{E}(hF:∀f∈fl,E.F f){o}(h:talkB fl o=true):Talk E o:=by
 obtain⟨dst,op,type,pos,after,guard⟩:=o;cases op with
 |send ch x=>simp only[talkB,Bool.and_eq_true]at h;exact⟨qB_ok fl hF h.1,qB_ok fl hF h.2⟩|recv t ch ok=>exact qB_ok fl hF h
 |call c=>simp only[talkB,Bool.and_eq_true]at h;obtain⟨h1,h2⟩:=h;refine⟨?_,?_⟩;split at h1;rename_i e;exact e;cases h1;split at h2;rename_i x e;exact⟨x,list1 e,qB_ok fl hF h2⟩;cases h2
 |go c=>simp only[talkB,Bool.and_eq_true]at h;obtain⟨h1,h2⟩:=h;refine⟨?_,by simpa using h2⟩;split at h1;rename_i x e;exact⟨x,e,qB_ok fl hF h1⟩;cases h1
 |_=>cases h
theorem codeB_ok{E}(hF:∀f∈fl,E.F f):∀ {c:Code},codeB P fl c=true->CodeOK P E c
 |.region _ ops _,h=>λo ho=>by unfold codeB at h;rw[List.all_eq_true]at h;have:=h o (by simpa using ho);unfold opxB at this;rw[Bool.and_eq_true,Bool.or_eq_true]at this;exact⟨by simpa using this.1,this.2.imp (opB_ok P fl hF) (talkB_ok fl hF)⟩|.seq a b,h=>by unfold codeB at h;rw[Bool.and_eq_true]at h;exact⟨codeB_ok hF h.1,codeB_ok hF h.2⟩|.cond c a b,h=>by unfold codeB at h;rw[Bool.and_eq_true,Bool.and_eq_true]at h;exact⟨qB_ok fl hF h.1.1,codeB_ok hF h.1.2,codeB_ok hF h.2⟩|.block _ b,h=>codeB_ok (c:=b) hF (by unfold codeB at h;exact h)|.loop b,h=>codeB_ok (c:=b) hF (by unfold codeB at h;exact h)|.exit _,_=>trivial|.ret,_=>trivial|.skip,_=>trivial|.refuse _,_=>trivial|.scope _,h=>by cases h
 |.label _,h=>by cases h
 |.goto _,h=>by cases h
 |.rangeFunc ..,h=>by cases h
end
end Rn
namespace Tp
section
variable{P:Program}
def ex_bounds4 k k2 k3 x y c sg:Pl P (Extern.RuntimeError.boundsError #[.agg #[.int k x,.int k2 y,.bool sg,.int k3 c]]):=by show Pl P (match(if sg&&x<0 then Extern.RuntimeError.boundsNegErrorFmts else Extern.RuntimeError.boundsErrorFmts)[c.toNat]? with|some fmt=>_|none=>_);split<;>exact trivial
def ex_bounds a:Pl P (Extern.RuntimeError.boundsError a):=by
 obtain⟨l⟩:=a;rcases l with _|⟨x,_|⟨_,_⟩⟩;exact trivial;cases x with
 |agg b=>
  obtain⟨m⟩:=b;rcases m with _|⟨x,_|⟨y,_|⟨sg,_|⟨c,_|⟨_,_⟩⟩⟩⟩⟩;exact trivial;cases x<;>exact trivial;cases x<;>first|exact trivial|(cases y<;>exact trivial)
  cases x<;>first|exact trivial|(cases y<;>first|exact trivial|(cases sg<;>exact trivial))
  cases x with
  |int k x=>cases y with
   |int k2 y=>cases sg with
    |bool sg=>cases c with|int k3 c=>exact ex_bounds4 k k2 k3 x y c sg|_=>exact trivial
    |_=>exact trivial
   |_=>exact trivial
  |_=>exact trivial
  cases x<;>first|exact trivial|(cases y<;>first|exact trivial|(cases sg<;>first|exact trivial|(cases c<;>exact trivial)))
 |_=>exact trivial
 cases x<;>exact trivial
def ex_described v:Pl P (Extern.RuntimeError.described v):=by unfold Extern.RuntimeError.described;refine pl_program ?_;split;exact trivial;exact pl_bind (pl_typeStr _) λ_=>pl_bind (pl_typeInfo _) λ_=>trivial;exact trivial
def ex_pkgpathOf i:Pl P (Extern.RuntimeError.pkgpathOf i):=by unfold Extern.RuntimeError.pkgpathOf;split;exact trivial;refine pl_bind (pl_typeInfo _) λ_=>?_;split<;>exact trivial;all_goals exact trivial
def ex_assert a:Pl P (Extern.RuntimeError.typeAssertionError a):=by
 unfold Extern.RuntimeError.typeAssertionError;refine pl_bind (pl_asAddr _) λa=>pl_bind (pl_load _ _) λx=>pl_bind (ex_described _) λd=>?_;refine pl_bind (pl_load _ _) λx=>pl_bind (ex_described _) λd=>pl_bind (pl_load _ _) λx=>pl_bind (ex_described _) λd=>?_
 (repeat' (first|exact trivial|with_reducible apply pl_runtimePanic|with_reducible apply ex_pkgpathOf|with_reducible apply pl_asString|with_reducible exact pl_load _ _|refine pl_bind ?_ (λ_=>?_)|with_reducible apply pl_ite|split|intro _|dsimp only))
def ex_unhashable1 t:Pl P (Extern.RuntimeError.unhashableTypeError #[.agg #[t]]):=by show Pl P (Extern.RuntimeError.described t >>= λx=>match x with|some t=>Extern.RuntimeError.text ("hash of unhashable type: " ++t.str)|_=>runtimePanic .nilDeref);refine pl_bind (ex_described _) λx=>?_;split;exact trivial;exact pl_runtimePanic _
def ex_unhashable a:Pl P (Extern.RuntimeError.unhashableTypeError a):=by
 obtain⟨l⟩:=a;rcases l with _|⟨x,_|⟨_,_⟩⟩;exact trivial;cases x with
 |agg b=>obtain⟨m⟩:=b;rcases m with _|⟨x,_|⟨_,_⟩⟩;exact trivial;exact ex_unhashable1 x;exact trivial
 |_=>exact trivial
 cases x<;>exact trivial
def rows_pl:∀p∈Extern.RuntimeError.rows,∀args,Pl P (p.2 args):=by intro p hp args;unfold Extern.RuntimeError.rows at hp;simp only[List.mem_cons,List.not_mem_nil,or_false]at hp;rcases hp with rfl|rfl|rfl|rfl|rfl|rfl|rfl|rfl|rfl|rfl|rfl|rfl|rfl|rfl|rfl;exact pl_bind (pl_asString _) λ_=>trivial;exact pl_bind (pl_asString _) λ_=>trivial;exact pl_bind (pl_asAgg _) λ_=>pl_bind (pl_asString _) λ_=>trivial;exact pl_bind (pl_asAgg _) λ_=>pl_bind (pl_asInt _) λ_=>trivial;exact ex_bounds _;exact ex_assert _;exact trivial;exact ex_unhashable _;all_goals exact trivial
def kind_pl:∀e,Extern.ReflectliteType.rows.lookup "(internal/abi.Kind).String" =some e->∀args,Pl P (e args):=by intro e he args;simp[Extern.ReflectliteType.rows,List.lookup]at he;subst he;exact pl_bind (pl_asInt _) λ_=>trivial
end
def rtNames:List String:=Extern.RuntimeError.rows.map (·.1)
def rt_lookup:∀n∈rtNames,Extern.allRows.lookup n=Extern.RuntimeError.rows.lookup n/\(Extern.allGenericRows.lookup n).isNone=true/\(Extern.allTypedRows.lookup n).isNone=true/\(Extern.RuntimeError.rows.lookup n).isSome=true:=by intro n hn;unfold rtNames Extern.RuntimeError.rows at hn;simp only[List.map_cons,List.map_nil,List.mem_cons,List.not_mem_nil,or_false]at hn;rcases hn with rfl|rfl|rfl|rfl|rfl|rfl|rfl|rfl|rfl|rfl|rfl|rfl|rfl|rfl|rfl;all_goals (refine⟨?_,?_,?_,?_⟩<;>kernel_rfl)
def kind_lookup:Extern.allRows.lookup "(internal/abi.Kind).String" =Extern.ReflectliteType.rows.lookup "(internal/abi.Kind).String" /\(Extern.allGenericRows.lookup "(internal/abi.Kind).String").isNone=true/\(Extern.allTypedRows.lookup "(internal/abi.Kind).String").isNone=true/\(Extern.ReflectliteType.rows.lookup "(internal/abi.Kind).String").isSome=true:=by refine⟨?_,?_,?_,?_⟩<;>kernel_rfl
def find_of{fn n e0}(hn:fn.name=n)(h1:Extern.allGenericRows.lookup n=none)(h2:Extern.allTypedRows.lookup n=none)(h3:Extern.allRows.lookup n=some e0):Extern.find fn=some e0:=by unfold Extern.find;simp only[hn,h1,h2,h3];rfl
def bodB(fn:Func):Bool:= !(fn.name== "runtime.NumGoroutine")&& (!fn.body.isNone ||((Extern.findNext fn).isNone&& ((Extern.find fn).isNone || rtNames.contains fn.name || fn.name== "(internal/abi.Kind).String")))
theorem lookup_mem{β}:∀ {l:List (String×β)}{n:String}{e:β},l.lookup n=some e->∃m,(m,e)∈l
 |[],_,_,h=>by cases h
 |(m,b)::l,n,e,h=>by rw[List.lookup_cons]at h;split at h;cases h;exact⟨m,List.mem_cons_self⟩;obtain⟨m',h'⟩:=lookup_mem h;exact⟨m',List.mem_cons_of_mem _ h'⟩
def bodied_of{P}(h:P.funcs.toList.all bodB=true):Bodied P:=by
 intro f fn hf;rw[List.all_eq_true]at h;have:=h fn (by have:=Array.mem_of_getElem? hf;simpa using this);unfold bodB at this;rw[Bool.and_eq_true,Bool.or_eq_true,Bool.and_eq_true,Bool.or_eq_true,Bool.or_eq_true]at this;obtain⟨h1,h2⟩:=this;refine⟨by simpa using h1,?_⟩;rcases h2 with h2|⟨h2,h3⟩;exact .inl (by simpa using h2);refine .inr ⟨by simpa using h2,λe he args=>?_⟩;rcases h3 with(h3|h3)|h3;rw[he]at h3;cases h3;have hm:fn.name∈rtNames:=by simpa using h3
 obtain⟨a1,a2,a3,a4⟩:=rt_lookup _ hm;cases hl:Extern.RuntimeError.rows.lookup fn.name with
 |none=>rw[hl]at a4;cases a4
 |some e0=>have:=find_of (fn:=fn) rfl (by simpa using a2) (by simpa using a3) (a1.trans hl);rw[he]at this;cases this;obtain⟨m,hmem⟩:=lookup_mem hl;exact rows_pl _ hmem args
 have hn:fn.name= "(internal/abi.Kind).String" :=by simpa using h3
 obtain⟨a1,a2,a3,a4⟩:=kind_lookup;cases hl:Extern.ReflectliteType.rows.lookup "(internal/abi.Kind).String" with
 |none=>rw[hl]at a4;cases a4
 |some e0=>have:=find_of (fn:=fn) hn (by simpa using a2) (by simpa using a3) (a1.trans hl);rw[he]at this;cases this;exact kind_pl _ hl args
end Tp
namespace Tp
def bodied:Bodied Tryz.prog:=Tp.bodied_of (by kernel_rfl)
end Tp
