import Derived.Test.YtlpcjiollnnmgabGreatDoorM03
import Derived.OrdersHeld
set_option maxRecDepth 100000
set_option maxHeartbeats 8000000
set_option linter.all false
namespace Go.Proofs.YtlpcjiollnnmgabGreatDoor
def t0126{p:Prop}(h:p:=by intro op jy;simp at jy;rcases jy with rfl|rfl<;>exact⟨rfl,λm=>by simp⟩):p:=h
def t075{p:Prop}(h:p:=by rw[CW]at h1 h2;refine⟨?_,λq e=>by cases e;exact absurd h2.symm qX⟩;cases c<;>first|exact h1|exact absurd h2.symm qX):p:=h
def t048{p:Prop}(h:p:=by
 rw[CW]at h1 h2;refine⟨?_,λq e=>by cases e⟩;match r,h1,h2 with
 |0,_,_=>exact trivial
 |1,h1,_=>exact h1
 |2,_,h2=>exact absurd h2.symm qX
 |r+3,_,_=>exact trivial):p:=h
def t09{p:Prop}(h:p:=by rw[CW]at h1 h2;refine⟨?_,λq e=>by cases e⟩;cases c<;>first|exact h1|exact absurd h2.symm qX):p:=h
namespace Ph
open Go.Conc Rn
open Go.ConcN (sumTo upd sumTo_upd upd_ne upd_same le_sumTo)
open Tp (jN Term Ld)
variable{α:Type}{C:pJ α}
section
variable{all:List α}{gs gs':Array Goroutine}{w w':World}{t u:Trace}{D D':Nat->Pd α}{cj cr cj' cr':Bool}{gB gN sent' rcvd':Nat}{sl:Option (Nat×Nat)}
def oD.recv{j}(h:oD C t j gB gN){u z}(hg:z.g=C.n+3)(hz:z.act=.recvDone C.N.D gN)(hd:Deaf t (C.n+3)=0)(hu:Quiet u)(hle:gN<=gB):oD C (t++(u++#[z])) j gB (gN+1):=by
 have hq:∀op∈u++#[z],op.g=j->op.act.touch? =none:=by
  intro op jy _;rcases dM.1 jy with h1|h1;exact(hu op h1).1;have:op=z:=by simpa using h1
  subst this;rw[hz];rfl
 obtain⟨s,k,y,h1,h2,h3,h4,h5,h6,h7⟩:=h;have gV:=lt_size_of_getElem? h1;obtain⟨s',k',y',g1,g2,g3,g4,g5,g6,g7⟩:=oD.app (C:=C) (t:=t) (u:=u++#[z]) (i:=j) (sent':=gB) ⟨s,k,y,h1,h2,h3,h4,h5,h6,h7⟩ hq ν;have Gx:(t++(u++#[z]))[s]? =some y:=by rw[getElem?_append_old gV];exact h1
 refine⟨s,k,y,Gx,h2,h3,h4,(heard_old gV).2 h5,λp y2 a hp hy ha=>?_,λhk=>?_⟩;rcases getElem?_append_cases hp with⟨_,OJ⟩|⟨_,hyu⟩;exact h6 p y2 a OJ hy ha;rw[hq y2 hyu hy]at ha;cases ha;by_cases hkr:k<gN;exact(h7 hkr).app _;have OW:k=gN:=by omega
 subst OW;have pT:(t++(u++#[z]))[t.size+u.size]? =some z:=by rw[<-eG,cH ζ];simp
 have hh:(t++(u++#[z])).heard (t.size+u.size):=by refine⟨C.n+3,by rw[Trace.g?,pT];simp[hg],?_⟩;rw[<-eG];have:t.size+u.size=(t++u).size:=ζ;rw[this,deaf_old ν];exact(hu.deaf t (C.n+3)).trans hd
 refine⟨t.size+u.size,z,pT,hg,.inr (.single (.inr ⟨.handOver (c:=C.N.D) (k:=k) (by rw[act?_of Gx,h3]) (by rw[act?_of pT,hz]),(heard_old gV).2 h5,hh⟩))⟩
def aiv(I:Inv C all gs w t D cj cr gB gN)(T:Tr C t D gB gN){i}(hi:i<C.n+4)(h0:i≠0){c0}(ig:(D i).st=.live c0){xi} ci{gi} (hgi:gs'[i]? =some xi) (hgo:∀k,k≠i->gs'[k]? =gs[k]?) (pL:gs'.size=gs.size) (Ta:GR C.P C.E (D i).X (C.R i) gi xi/\Term C.P (C.N.Stop ci) gi (D i).v) (hu:Quiet u) (hw:∀k,k<C.n+4->oC C w (D k)->oC C w' (D k)) (hJ:∃s r,w'.heap[C.N.J]? =some (.chan 0 #[] cj' s r false)) (hR:∃s r,w'.heap[C.N.R]? =some (.chan 0 #[] cr' s r false)) (hD:w'.heap[C.N.D]? =some (.chan 3 (Array.replicate (sent'-rcvd') C.N.dv) false sent' rcvd' false)) (hs:∀k q,k<C.n+4->(D k).st=.old 1 q->oD C (t++u) k sent' rcvd') (jU:Ew C all (upd (iD D) i (.live ci)) cj' cr' sent' rcvd') (mm:ci.ev<c0.ev):∃D',Inv C all gs' w' (t++u) D' cj' cr' sent' rcvd'/\Tr C (t++u) D' sent' rcvd'/\Z8 C D' D/\∀k,(D' k).X=(D k).X:=by
 have hS:=vk D i (.live ci) gi;have qW:=ly D i ((D i).to (.live ci) gi);refine⟨_,I.quiet hS hu (λk hk=>?_) (by rw[pL];exact I.size) hw ?_ hJ hR hD (by rw[qW];exact jU),T.quiet I hS hu (λk c' e=>?_) (λk r q e=>?_) (λk q hk e=>?_) (λq e=>?_),.inl ?_,λk=>(hS k).1⟩;by_cases h1:k=i;subst h1;refine .inr ?_;rw[upd_same,hgi];exact⟨_,rfl,Ta.1,Ta.2⟩;exact .inl ⟨upd_ne D _ h1,hgo k h1⟩;rw[upd_ne D _ (aG h0),pL];exact I.main;by_cases h1:k=i;subst h1;rw[ig]at e;cases e;exact⟨c',by rw[upd_ne D _ h1];exact e⟩;by_cases h1:k=i;subst h1;rw[ig]at e;cases e;exact⟨r,q,by rw[upd_ne D _ h1];exact e⟩;by_cases h1:k=i;subst h1;rw[upd_same]at e;cases e;rw[upd_ne D _ h1]at e;exact hs k q hk e;by_cases h1:C.n+3=i;rw[h1,upd_same]at e;cases e;rw[upd_ne D _ h1]at e;exact⟨q,e⟩;rw[qW];have:=ux (C:=C) (s:=iD D) hi (.live ci);have e1:(iD D i).ev=c0.ev:=by rw[show iD D i=_ from ig];rfl
 have e2:(St.live ci).ev=ci.ev:=rfl;show Pv C (upd (iD D) i (.live ci))<_;omega
def YT(L:Eb C)(I:Inv C all gs w t D cj cr gB gN)(T:Tr C t D gB gN){i}(hi:i<C.n+4)(ig:(D i).st=.live .iC)(hA:C.N.A .iC (D i).g (D i).v)(Lp:cj=true):Goes C all gs w sl t D i:=by
 obtain⟨g',hx,gV,oX⟩:=vZ L I hi ig;have rF:=L.act .iC _ _ _ _ _ rfl hA oX (i==0) w;obtain⟨s,r,hc⟩:=I.Ig;have qH:cr=false:=by exact t025
 subst Lp;subst qH;have hp:partners (gs.setIfInBounds i ph) C.N.J true=[]:=I.BC λj c hj hc e=>by have jM:=I.jU.jG j hj;rw[show iD D j=_ from hc]at jM;cases c<;>simp only[Net.chan,bY,cU,Bool.false_eq_true,and_false,reduceCtorEq,and_true]at e;exact I.ne.1 e.symm;exact jM.elim;exact absurd jM.1 ζ
 have jm:=crowd_recv_closed (P:=C.P) (sl:=sl) hx rF hc hp;simp only[Net.shape,finishComm_recv,j8,bM,recvd,if_true]at jm;have e1:iD D i=.live .iC:=ig;obtain⟨D',b1,b2,b3,b4⟩:=aiv (gs':=gs.setIfInBounds i (Go.Conc.served g' (.tuple #[C.N.zJ,.bool false]))) (w':=w) (u:=#[{g:=i,fn:=g'.frame.fn,pos:=g'.frame.place,act:=.recvClosed C.N.J}]) (cj':=true) (cr':=false) (sent':=gB) (rcvd':=gN) I T hi (I.rP hi ig aGG) ig .lS
  (by rw[aj gV]) (λk hk=>ah (aG hk)) ζ
  ⟨nV (pF oX) (V.pair L.Qy.2.2.2.1 false),L.aiF _ _ hA⟩
  aGs (λ_ _ h=>h) I.Ig I.IW I.LH
  (λk q hk e=>(T.said k q hk e).app (λop jy _=>by simp at jy;subst jy;rfl) ν)
  (I.jU.one hi _ aFO aGq aFO ⟨rfl,rfl⟩ aFS) (by simp[pI.ev])
 exact⟨_,_,_,D',_,_,_,_,jm,b1,b2,b3,wU b4 rfl rfl rfl rfl⟩
def Sv(L:Eb C)(I:Inv C all gs w t D cj cr gB gN)(T:Tr C t D gB gN){i}(hi:i<C.n+4){k}(ig:(D i).st=.live (.iK k))(hA:C.N.A (.iK k) (D i).g (D i).v):Goes C all gs w sl t D i:=by
 obtain⟨g',hx,gV,oX⟩:=vZ L I hi ig;have rF:=L.act (.iK k) _ _ _ _ _ rfl hA oX (i==0) w;have hc:=I.LH;have jM:cj=true/\cr=false/\gN=k/\k<3:=by exact t025
 obtain⟨rfl,rfl,rfl,II⟩:=jM;have e1:iD D i=.live (.iK gN):=ig;have hi3:i=C.n+3:=by
  have h1:=I.jU.role i hi;have h2:C.rl (C.n+3)=2:=by unfold pJ.rl;rw[if_neg ω,if_neg ω,if_neg ω]
  refine tU I.pos hi ω ?_ (.inl ?_);rw[h2,<-h1,e1];rfl;rw[<-h1,e1];rfl
 have hp:partners (gs.setIfInBounds i ph) C.N.D true=[]:=I.BC λj c hj hc e=>by have jM:=I.jU.jG j hj;rw[show iD D j=_ from hc]at jM;cases c<;>simp only[Net.chan,bY,cU,Bool.false_eq_true,and_false,reduceCtorEq,and_true]at e;exact I.ne.2.2 e;exact jM.elim;exact I.ne.2.1 e
 by_cases hs:gB=gN;subst hs;obtain⟨gs',w',u,D',h1,h2,h3,h4⟩:=tb (sl:=sl) L I T hi ig hA rfl rfl (λp=>rfl) (λcc xC=>by
 have:cc=rcase C.N.D C.N.zD:=by simpa[Net.cases]using xC
 subst this;refine ways_recv_none (cap:=3) (s:=gB) (r:=gB) (tm:=false) ?_ hp;rw[hc];simp) ⟨rfl,rfl,rfl,II⟩ aGF aHE (λa' e=>by cases e) (λg e=>by cases e) (λk e=>rfl) (λe=>absurd e (I.rP hi ig aGG))
 exact t038;have hle:=I.jU.le;have pL:0< (Array.replicate (gB-gN) C.N.dv).size:=by simp;omega
 have jm:=crowd_recv_buf (P:=C.P) (sl:=sl) hx rF hc pL hp;have sq:(Array.replicate (gB-gN) C.N.dv).getD 0 undef=C.N.dv:=by rw[aN,Array.getElem?_replicate,if_pos ω];rfl
 have avF:(Array.replicate (gB-gN) C.N.dv).extract 1 (Array.replicate (gB-gN) C.N.dv).size=Array.replicate (gB-(gN+1)) C.N.dv:=by rw[Array.extract_replicate];congr 1;simp;omega
 simp only[Net.shape,finishComm_recv,j8,bM,sq,avF]at jm;have vM:recvd false C.N.dv true=C.N.dv:=rfl;rw[vM]at jm;have yL:C.N.D<w.heap.size:=(ae.1 hc).1;have zX:∃ci:pI α,Term C.P (C.N.Stop ci) (Go.Conc.served (D i).g C.N.dv) (D i).v/\ci.role=2/\(∀p,ci.tok p=0)/\aer true false (gN+1) ci/\lV true false (gN+1) (.live ci)/\ci.ev<5-gN:=by by_cases h2:gN=2;subst h2;exact⟨.jV,L.K9 _ _ hA,rfl,λ_=>rfl,⟨rfl,rfl,rfl⟩,⟨rfl,rfl,rfl⟩,by simp[pI.ev]⟩;refine⟨.iK (gN+1),L.Sl gN _ _ ω hA,rfl,λ_=>rfl,⟨rfl,rfl,rfl,by omega⟩,⟨rfl,rfl,rfl,by omega⟩,?_⟩;show 5-(gN+1)<5-gN;omega
 obtain⟨ci,c1,c2,c3,c4,c5,c6⟩:=zX;have hu:Quiet #[{g:=i,fn:=g'.frame.fn,pos:=g'.frame.place,act:=.recv C.N.D gN 3},{g:=i,fn:=g'.frame.fn,pos:=g'.frame.place,act:=.recvDone C.N.D gN}]:=by exact t0126
 have xA:C.na i:=I.na hi (by rw[ig];exact px (α:=α) (.iK gN));have vP:∀j,j<C.n+4->j≠i->lV true false (gN+1) (iD D j)/\(∀q,iD D j=.iA (.iK q)->False):=by intro j hj ij;have h1:=I.jU.jG j hj;have h2:=I.jU.role j hj;have qX:C.rl j≠2:=λe=>ij (tU I.pos hj hi (by rw[e,<-I.jU.role i hi,e1];rfl) (.inl e));cases CW:iD D j with|old r q=>exact t048|jd c=>exact t09|born c=>exact t09|live c=>exact t09|iA c=>exact t075
 obtain⟨D',b1,b2,b3,b4⟩:=aiv (gs':=gs.setIfInBounds i (Go.Conc.served g' C.N.dv)) (w':=World.setChan w C.N.D 3 (Array.replicate (gB-(gN+1)) C.N.dv) false gB (gN+1) false) (u:=#[{g:=i,fn:=g'.frame.fn,pos:=g'.frame.place,act:=.recv C.N.D gN 3},{g:=i,fn:=g'.frame.fn,pos:=g'.frame.place,act:=.recvDone C.N.D gN}]) (cj':=true) (cr':=false) (sent':=gB) (rcvd':=gN+1) I T hi (I.rP hi ig aGG) ig ci
  (by rw[aj gV]) (λk hk=>ah (aG hk)) ζ
  ⟨nV (pF oX) (L.Qy.2.2.1.self _),c1⟩ hu
  (λk hk h=>by
   have:=h.chan C (c:=C.N.D) hc (.chan 3 (Array.replicate (gB-(gN+1)) C.N.dv) false gB (gN+1) false) w.drawn;exact this)
  (by obtain⟨s2,r2,h2⟩:=I.Ig;exact⟨s2,r2,by show(w.heap.setIfInBounds C.N.D _)[C.N.J]? =_;rw[ah (aG I.ne.2.1)];exact h2⟩)
  (by obtain⟨s2,r2,h2⟩:=I.IW;exact⟨s2,r2,by show(w.heap.setIfInBounds C.N.D _)[C.N.R]? =_;rw[ah (aG I.ne.2.2)];exact h2⟩)
  (by show(w.heap.setIfInBounds C.N.D _)[C.N.D]? =_;rw[aj yL])
  (λj q hj e=>by
   have hd:Deaf t i=0:=T.deaf i xA λr q e=>by rw[ig]at e;cases e
   have:=(T.said j q hj e).recv (z:={g:=i,fn:=g'.frame.fn,pos:=g'.frame.place,act:=.recvDone C.N.D gN}) (u:=#[{g:=i,fn:=g'.frame.fn,pos:=g'.frame.place,act:=.recv C.N.D gN 3}]) hi3 rfl (by rw[<-hi3];exact hd) aGs ω
   simpa using this)
  (I.jU.EF (λj hj=>by
    by_cases ij:j=i
    ·subst ij;rw[upd_same,e1];exact c2
    ·rw[upd_ne _ _ ij]) (λp=>by
    have:=sumTo_upd (iD D) (.live ci) (λy=>y.tok p) hi
    have e2:(iD D i).tok p=0:=aFO
    have e3:(St.live ci).tok p=0:=c3 p;omega) ω (by
    have:=sumTo_upd (iD D) (.live ci) (λy=>y.said) hi
    have e2:(iD D i).said=0:=aFO
    have e3:(St.live ci).said=0:=rfl;have e4:=I.jU.said;omega) (λj hj=>by
    by_cases ij:j=i
    ·subst ij;rw[upd_same];exact c5
    ·rw[upd_ne _ _ ij];exact(vP j hj ij).1) (λj c hj e=>by
    by_cases ij:j=i
    ·subst ij;rw[upd_same]at e;cases e
    ·rw[upd_ne _ _ ij]at e;exact e) (λj q hj e=>by
    by_cases ij:j=i
    ·subst ij;rw[upd_same]at e;cases e
    ·rw[upd_ne _ _ ij]at e;exact((vP j hj ij).2 q e).elim)) c6
 exact⟨_,_,_,D',_,_,_,_,jm,b1,b2,b3,mY b4 (.inr (.inr rfl)) rfl rfl rfl rfl⟩
end
end Ph
def t0131{p:Prop}(h:p:=by
 have:op=z:=by simpa using jy
 subst this;exact⟨rfl,λm=>by simp[z]⟩):p:=h
def t0113{p:Prop}(h:p:=by have:=I.jU.jG i hi;rw[e1]at this;exact this):p:=h
def t087{p:Prop}(h:p:=by
 have:op=z1∨op=z2:=by simpa using jy
 rcases this with rfl|rfl<;>exact⟨rfl,λm=>by simp[z1,z2]⟩):p:=h
def t074{p:Prop}(h:p:=by obtain⟨s2,r2,h2⟩:=I.Ig;exact⟨s2,r2,by show(w.heap.setIfInBounds C.N.D _)[C.N.J]? =_;rw[ah (aG I.ne.2.1)];exact h2⟩):p:=h
def t073{p:Prop}(h:p:=by obtain⟨s2,r2,h2⟩:=I.IW;exact⟨s2,r2,by show(w.heap.setIfInBounds C.N.D _)[C.N.R]? =_;rw[ah (aG I.ne.2.2)];exact h2⟩):p:=h
def t058{p:Prop}(h:p:=by unfold pJ.rl;rw[if_neg ω,if_neg ω,if_pos ω]):p:=h
namespace Ph
open Go.Conc Rn
open Go.ConcN (sumTo upd sumTo_upd upd_ne upd_same le_sumTo)
open Tp (jN Term Ld)
variable{α:Type}{C:pJ α}
section
variable{all:List α}{gs gs':Array Goroutine}{w w':World}{t u:Trace}{D D':Nat->Pd α}{cj cr cj' cr':Bool}{gB gN sent' rcvd':Nat}{sl:Option (Nat×Nat)}
def rI(hp:0<C.n):sumTo (C.n+4) (λi=>if C.rl i=1 then 1 else 0)=3:=by
 have h0:∀m,m<=C.n->sumTo m (λi=>if C.rl i=1 then 1 else 0)=0:=by
  intro m;induction m with
  |zero=>intro _;rfl|succ m ih=>
  intro hm;show sumTo m _+(if C.rl m=1 then 1 else 0)=0;rw[ih ω];have:C.rl m≠1:=by unfold pJ.rl;split;omega;rw[if_pos ω];omega
  rw[if_neg this]
 have h1:∀j,j<3->C.rl (C.n+j)=1:=λj hj=>by exact t058
 have h3:C.rl (C.n+3)≠1:=by unfold pJ.rl;rw[if_neg ω,if_neg ω,if_neg ω];omega
 show sumTo C.n _+(if C.rl C.n=1 then 1 else 0)+(if C.rl (C.n+1)=1 then 1 else 0)+(if C.rl (C.n+2)=1 then 1 else 0)+(if C.rl (C.n+3)=1 then 1 else 0)=3;rw[h0 C.n ν,if_pos (show C.rl C.n=1 from h1 0 ω),if_pos (h1 1 ω),if_pos (h1 2 ω),if_neg h3]
def Ks(s:St α):s.said<=if s.role=1 then 1 else 0:=by
 cases s with
 |old r q=>
  match r with
  |0=>exact cI _
  |1=>exact ν
  |r+2=>exact cI _
 |_=>exact cI _
def Ew.af5{s}(h:Ew C all s cj cr gB gN)(hp:0<C.n){i}(hi:i<C.n+4)(hr:(s i).role=1)(hs:(s i).said=0):gB<3:=by
 apply aV;intro hn;have h1:=rI (C:=C) hp;have h2:=EJ (f:=λi=>(s i).said) (g:=λi=>if C.rl i=1 then 1 else 0) (C.n+4) aGY (by rw[h1,<-h.said];omega) i hi;replace h2:(s i).said=if C.rl i=1 then 1 else 0:=h2
 rw[<-h.role i hi,hr,hs]at h2;simp at h2
def M0(T:Tr C t D gB gN){i}(xA:C.na i)(zW:∀r q,(D i).st≠.old r q){z u}(hz:z.g=i)(ha:z.act=.send C.N.D gB)(hu:Quiet (#[z]++u))(hle:gN<=gB):oD C (t++(#[z]++u)) i (gB+1) gN:=by
 have pT:(t++(#[z]++u))[t.size]? =some z:=by rw[cH ν,bh,dW ζ];rfl
 refine⟨t.size,gB,z,pT,hz,ha,by omega,⟨i,by rw[Trace.g?,pT];simp[hz],?_⟩,λp y a hp hy hya=>?_,λhk=>by omega⟩;rw[deaf_old ν];exact T.deaf i xA zW;rcases getElem?_append_cases hp with⟨h1,_⟩|⟨_,hyu⟩;exact h1;rw[(hu y hyu).1]at hya;cases hya
def Yj(I:Inv C all gs w t D cj cr gB gN){i}(hi:i<C.n+4)(hr:(iD D i).role=1):C.R i=C.R i/\C.n<=i:=by refine⟨rfl,?_⟩;have:=I.jU.role i hi;rw[hr]at this;unfold pJ.rl at this;apply aV;intro hn;by_cases h0:i=0;rw[if_pos h0]at this;omega;rw[if_neg h0,if_pos ω]at this;omega
def Ew.next{s}(h:Ew C all s true false gB gN)(hp:0<C.n){i}(hi:i<C.n+4)(hri:(s i).role=2) k:∀j,j<C.n+4->j≠i->lV true false k (s j)/\(∀q,s j=.iA (.iK q)->False):=by intro j hj ij;have h1:=h.jG j hj;have h2:=h.role j hj;have qX:C.rl j≠2:=λe=>ij (tU hp hj hi (by rw[e,<-h.role i hi,hri]) (.inl e));cases CW:s j with|old r q=>exact t048|jd c=>exact t09|born c=>exact t09|live c=>exact t09|iA c=>exact t075
def Sf(L:Eb C){k g v}(hk:k<3)(hA:C.N.A (.iK k) g v):∃ci:pI α,Term C.P (C.N.Stop ci) (Go.Conc.served g C.N.dv) v/\ci.role=2/\(∀p,ci.tok p=0)/\lV true false (k+1) (.live ci)/\ci.ev<5-k:=by by_cases h2:k=2;subst h2;exact⟨.jV,L.K9 _ _ hA,rfl,λ_=>rfl,⟨rfl,rfl,rfl⟩,by simp[pI.ev]⟩;refine⟨.iK (k+1),L.Sl k _ _ ω hA,rfl,λ_=>rfl,⟨rfl,rfl,rfl,by omega⟩,?_⟩;show 5-(k+1)<5-k;omega
def Sr(L:Eb C)(oM:∀i,C.n<=i->i<C.n+4->C.R i=[base C.P])(I:Inv C all gs w t D cj cr gB gN)(T:Tr C t D gB gN){i}(hi:i<C.n+4)(ig:(D i).st=.live .lS)(hA:C.N.A .lS (D i).g (D i).v):Goes C all gs w sl t D i:=by
 obtain⟨g',hx,gV,oX⟩:=vZ L I hi ig;have rF:=L.act .lS _ _ _ _ _ rfl hA oX (i==0) w;have hc:=I.LH;have e1:iD D i=.live .lS:=ig;have jM:cj=true/\cr=false:=by exact t0113
 obtain⟨rfl,rfl⟩:=jM;have u4:=(Yj I hi aFO).2;have kV:i≠0:=I.rP hi ig aGG;have xA:C.na i:=.inr ⟨u4,hi⟩;have zW:∀r q,(D i).st≠.old r q:=λr q e=>by rw[ig]at e;cases e
 have Mr:Deaf t i=0:=T.deaf i xA zW;have hle:=I.jU.le;have hs3:gB<3:=I.jU.af5 I.pos hi aFO aFO;rw[oM i u4 hi]at oX;obtain⟨q,hq⟩:=L.abW _ _ _ _ hA oX;have yL:C.N.D<w.heap.size:=(ae.1 hc).1;by_cases hp:partners (gs.setIfInBounds i ph) C.N.D false=[];have Gy:(Array.replicate (gB-gN) C.N.dv).size<3:=by simp;omega
 have jm:=crowd_send_room (P:=C.P) (sl:=sl) hx rF hc Gy hp;have apC:(Array.replicate (gB-gN) C.N.dv).push C.N.dv=Array.replicate (gB+1-gN) C.N.dv:=by rw[show gB+1-gN=(gB-gN)+1 by omega,bA]
 simp only[Net.shape,finishComm_send,j8,bM,apC]at jm;have hu:Quiet (#[{g:=i,fn:=g'.frame.fn,pos:=g'.frame.place,act:=.send C.N.D gB}]++#[{g:=i,fn:=g'.frame.fn,pos:=g'.frame.place,act:=.sendDone C.N.D gB}]):=by exact t0126
 have hS:=vk D i (.old 1 q) (D i).g;have qW:=ly D i ((D i).to (.old 1 q) (D i).g);have ag4:∀j k,j<C.n+4->iD D j≠.iA (.iK k):=λj k hj=>I.waits ig hp hj rfl;refine⟨_,_,_,upd D i ((D i).to (.old 1 q) (D i).g),true,false,gB+1,gN,jm,I.quiet hS hu (λj hj=>?_) (by simpa using I.size) (λj hj h=>?_) ?_ ?_ ?_ ?_ ?_,T.quiet I hS hu (λj c' e=>?_) (λj r q' e=>?_) (λj q' hj e=>?_) (λq' e=>?_),.inl ?_,mY (λk=>(hS k).1) (.inr (.inr rfl)) rfl rfl rfl rfl⟩;by_cases ij:j=i;subst ij;refine .inr ?_;rw[upd_same,aj gV];exact⟨⟨_,rfl,by rw[Mr];exact hq⟩,λe=>by cases e⟩;exact t0119;exact h.chan C (c:=C.N.D) hc (.chan 3 (Array.replicate (gB+1-gN) C.N.dv) false (gB+1) gN false) w.drawn;rw[upd_ne D _ (aG kV),bt];exact I.main;exact t074;exact t073;show(w.heap.setIfInBounds C.N.D _)[C.N.D]? =_;rw[aj yL];rw[qW];refine I.jU.EF (λj hj=>?_) (λp=>?_) ω ?_ (λj hj=>?_) (λj c hj e=>?_) (λj k hj e=>?_);by_cases ij:j=i;subst ij;rw[upd_same,e1];rfl;rw[upd_ne _ _ ij];have:=sumTo_upd (iD D) (.old 1 q) (λy=>y.tok p) hi;have e2:(iD D i).tok p=0:=aFO;have e3:(St.old 1 q:St α).tok p=0:=rfl;show sumTo (C.n+4) (λi_1=>St.tok p (upd (iD D) i (.old 1 q) i_1))=_;omega;have:=sumTo_upd (iD D) (.old 1 q) (λy=>y.said) hi;have e2:(iD D i).said=0:=aFO;have e3:(St.old 1 q:St α).said=1:=rfl;have e4:=I.jU.said;show _=sumTo (C.n+4) (λi_1=>St.said (upd (iD D) i (.old 1 q) i_1));omega;by_cases ij:j=i;subst ij;rw[upd_same];exact rfl;rw[upd_ne _ _ ij];exact I.jU.jG j hj;by_cases ij:j=i;subst ij;rw[upd_same]at e;cases e;rw[upd_ne _ _ ij]at e;exact e;by_cases ij:j=i;subst ij;rw[upd_same]at e;cases e;rw[upd_ne _ _ ij]at e;exact absurd e (ag4 j k hj);exact t040;by_cases ij:j=i;subst ij;rw[ig]at e;cases e;exact⟨r,q',by rw[upd_ne D _ ij];exact e⟩;by_cases ij:j=i;subst ij;exact M0 T xA zW rfl rfl hu hle;rw[upd_ne D _ ij]at e;exact(T.said j q' hj e).app (λop jy _=>(hu op jy).1) ω;by_cases ij:C.n+3=i;rw[ij,upd_same]at e;cases e;rw[upd_ne D _ ij]at e;exact⟨q',e⟩;rw[qW];have:=ux (C:=C) (s:=iD D) hi (.old 1 q);have e2:(iD D i).ev=1:=by rw[e1];rfl
 have e3:(St.old 1 q:St α).ev=0:=rfl;show Pv C (upd (iD D) i (.old 1 q))<_;omega;have ll:∀j k,(j,k)∈partners (gs.setIfInBounds i ph) C.N.D false->k=0/\j≠i/\∃gj zj UQ,gs[j]? =some (parked gj #[rcase C.N.D zj] UQ):=by intro j k hm;obtain⟨h1,h2,h3,c,g2,h4,h5,h6,_⟩:=I.partner hm;refine⟨h1,h2,?_⟩;cases c<;>simp only[Net.chan,bY,cU,and_false,reduceCtorEq,and_true]at h5;exact absurd h5 I.ne.2.1;exact⟨_,_,_,h6⟩;exact absurd h5 I.ne.2.2
 obtain⟨j,gj,zj,UQ,d,ij,CZ,jm⟩:=crowd_send_meets_some (P:=C.P) (sl:=sl) hx rF hc hp ll;obtain⟨qn,c,vQ,kC,tn,GD,Zo⟩:=I.parked CZ;have qm:=I.jU.jG j qn;rw[show iD D j=_ from vQ]at qm;cases c with
 |iK k=>
 obtain⟨_,_,hrk,II⟩:_/\_/\gN=k/\k<3:=qm;subst hrk;have e2:iD D j=.iA (.iK gN):=vQ;have hsr:gB=gN:=I.jU.p3 j gN qn e2;subst hsr;have hj3:j=C.n+3:=by
  have h1:=I.jU.role j qn;have h2:C.rl (C.n+3)=2:=by unfold pJ.rl;rw[if_neg ω,if_neg ω,if_neg ω]
  refine tU I.pos qn ω ?_ (.inl ?_);rw[h2,<-h1,e2];rfl;rw[<-h1,e2];rfl
 subst tn;have vM:recvd false C.N.dv true=C.N.dv:=rfl;simp only[Net.shape,finishComm_send,finishComm_recv,j8,bM,vM]at jm;have hsv:Go.Conc.served {g' with status:=.running,offers:=none} undef=Go.Conc.served g' undef:=rfl;rw[hsv]at jm;have hjs:j<gs.size:=(ae.1 CZ).1;have hj0:j≠0:=by have:=I.pos;omega
 have ap6:C.na j:=.inr ⟨by omega,qn⟩;have au7:∀r q,(D j).st≠.old r q:=λr q e=>by rw[vQ]at e;cases e
 have hdj:Deaf t (C.n+3)=0:=by rw[<-hj3];exact T.deaf j ap6 au7
 obtain⟨ci,c1,c2,c3,c5,c6⟩:=Sf L II Zo;obtain⟨a1,a2,a3,a4⟩:=ads gs ij gV hjs (Go.Conc.served g' undef) (Go.Conc.served gj C.N.dv);have hS:=sJ D i j (.old 1 q) (.live ci) (D i).g (Go.Conc.served (D j).g C.N.dv);have sm:∀k,upd (upd D i ((D i).to (.old 1 q) (D i).g)) j ((D j).to (.live ci) (Go.Conc.served (D j).g C.N.dv)) k=if k=j then(D j).to (.live ci) (Go.Conc.served (D j).g C.N.dv)else if k=i then(D i).to (.old 1 q) (D i).g else D k:=λk=>rfl
 generalize hD':upd (upd D i ((D i).to (.old 1 q) (D i).g)) j ((D j).to (.live ci) (Go.Conc.served (D j).g C.N.dv))=D' at hS sm;have qW:iD D'=upd (upd (iD D) i (.old 1 q)) j (.live ci):=by rw[<-hD',ly,ly];rfl
 have hvj:D' j=(D j).to (.live ci) (Go.Conc.served (D j).g C.N.dv):=by rw[sm,if_pos rfl]
 have hvi:D' i=(D i).to (.old 1 q) (D i).g:=by rw[sm,if_neg (aG ij),if_pos rfl]
 have hvo:∀k,k≠i->k≠j->D' k=D k:=λk h1 h2=>by rw[sm,if_neg h2,if_neg h1]
 have ayz:∀k,iD D' k=if k=j then .live ci else if k=i then .old 1 q else iD D k:=λk=>by rw[qW];rfl
 let z:MemOp:={g:=i,fn:=g'.frame.fn,pos:=g'.frame.place,act:=.send C.N.D gB};let z1:MemOp:={g:=j,fn:=gj.frame.fn,pos:=gj.frame.place,act:=.recv C.N.D gB 3};let z2:MemOp:={g:=i,fn:=g'.frame.fn,pos:=g'.frame.place,act:=.sendDone C.N.D gB};let z3:MemOp:={g:=j,fn:=gj.frame.fn,pos:=gj.frame.place,act:=.recvDone C.N.D gB};have hq1:Quiet #[z]:=λop jy=>by exact t0131
 have hq2:Quiet #[z1,z2]:=λop jy=>by exact t087
 have hu:Quiet #[z,z1,z2,z3]:=qN i j g'.frame.fn gj.frame.fn g'.frame.place gj.frame.place C.N.D gB gB 3;have akX:t++#[z,z1,z2,z3]=t++#[z]++(#[z1,z2]++#[z3]):=ζ;have avL:Deaf (t++#[z]) (C.n+3)=0:=(hq1.deaf t (C.n+3)).trans hdj;refine⟨_,_,_,D',true,false,gB+1,gB+1,jm,I.quiet hS hu (λk hk=>?_) (by rw[a4];exact I.size) (λk hk h=>?_) ?_ ?_ ?_ ?_ ?_,T.quiet I hS hu (λk c' e=>?_) (λk r q' e=>?_) (λk q' hk e=>?_) (λq' e=>?_),.inl ?_,mY (λk=>(hS k).1) (.inr (.inr rfl)) rfl rfl rfl rfl⟩;by_cases h1:k=i;subst h1;refine .inr ?_;rw[hvi,a1];exact⟨⟨_,rfl,by rw[Mr];exact hq⟩,λe=>by cases e⟩;by_cases h2:k=j;subst h2;refine .inr ?_;rw[hvj,a2];exact⟨_,rfl,nV GD (L.Qy.2.2.1.self _),c1⟩;exact .inl ⟨hvo k h1 h2,a3 k h1 h2⟩;have:=(h.drawn C d).chan C (c:=C.N.D) (by exact hc) (.chan 3 (Array.replicate (gB-gB) C.N.dv) false (gB+1) (gB+1) false) d;exact this;rw[hvo 0 (aG kV) (aG hj0),a4];exact I.main;exact t074;exact t073;show(w.heap.setIfInBounds C.N.D _)[C.N.D]? =_;rw[aj yL,bh,bh];rw[qW];refine I.jU.two hi qn (aG ij) (.old 1 q) (.live ci) aFO (by rw[e2];exact c2) (λp=>?_) ?_ ν (λk hk h1 h2=>(I.jU.next I.pos qn (by rw[e2];rfl) (gB+1) k hk h2).1) rfl c5 aFS aFS (λk q' hk h1 h2 e=>((I.jU.next I.pos qn (by rw[e2];rfl) (gB+1) k hk h2).2 q' e).elim);rw[e1,e2];show 0+ci.tok p=0+0;rw[c3];rw[e1,e2];show 1+0+gB=0+0+(gB+1);omega;by_cases h1:k=i;subst h1;rw[ig]at e;cases e;by_cases h2:k=j;subst h2;rw[vQ]at e;cases e;exact⟨c',by rw[hvo k h1 h2];exact e⟩;by_cases h1:k=i;subst h1;rw[ig]at e;cases e;by_cases h2:k=j;subst h2;rw[vQ]at e;cases e;exact⟨r,q',by rw[hvo k h1 h2];exact e⟩;show oD C (t++#[z,z1,z2,z3]) k (gB+1) (gB+1);rw[akX];have h1:oD C (t++#[z]) k (gB+1) gB:=by
  by_cases h1:k=i;subst h1;have:=M0 (u:=#[]) T xA zW (z:=z) rfl rfl (by rw[cz];exact hq1) hle;rwa[cz]at this;have h2:k≠j:=λe3=>by subst e3;rw[hvj]at e;cases e
  rw[hvo k h1 h2]at e;exact(T.said k q' hk e).app (λop jy _=>(hq1 op jy).1) ω
 exact h1.recv (z:=z3) (u:=#[z1,z2]) hj3 rfl avL hq2 ω;by_cases h2:C.n+3=j;rw[h2,hvj]at e;cases e;exact absurd hj3.symm h2;rw[qW];have:=Er (C:=C) (s:=iD D) hi qn (aG ij) (.old 1 q) (.live ci);have f1:(iD D i).ev=1:=by rw[e1];rfl
 have f2:(St.old 1 q:St α).ev=0:=rfl;have f3:(iD D j).ev=5-gB:=by rw[e2];rfl
 have f4:(St.live ci).ev=ci.ev:=rfl;omega
 |jJ a rem=>exact(jZ kC).elim|jh a=>exact(jZ kC).elim
 |iC=>exact absurd (qA kC).symm I.ne.2.1|iq g=>exact absurd (qA kC).symm I.ne.2.2
 |_=>exact qm.elim
end
end Ph
def t060{p:Prop}(h:p:=by cases s with|iA c=>rw[lE];split<;>rfl|_=>rfl):p:=h
namespace Ph
open Go.Conc Rn
open Go.ConcN (sumTo upd sumTo_upd upd_ne upd_same le_sumTo)
open Tp (jN Term Ld)
variable{α:Type}{C:pJ α}
section
variable{all:List α}{gs gs':Array Goroutine}{w w':World}{t u:Trace}{D D':Nat->Pd α}{cj cr cj' cr':Bool}{gB gN sent' rcvd':Nat}{sl:Option (Nat×Nat)}
def mf(k:pI α->Bool):St α->St α
 |.iA c=>if k c then .live c else .iA c|s=>s
def lE k(c:pI α):mf k (.iA c)=if k c=true then .live c else .iA c:=rfl
def XM k(s:St α):(mf k s).role=s.role:=by exact t060
def Mx k(s:St α) p:(mf k s).tok p=s.tok p:=by exact t060
def I6 k(s:St α):(mf k s).said=s.said:=by exact t060
def Us k(s:St α):(mf k s).ev=s.ev:=by exact t060
def vF{u}(h:∀op∈u,∀m,op.act≠.mark m) t g:Deaf (t++u) g=Deaf t g:=by
 obtain⟨l⟩:=u;rw[Deaf_append];generalize Deaf t g=d;induction l with
 |nil=>rfl|cons y l ih=>
 have e:deafStep g d y=d:=by have:=h y ζ;exact t033
 exact t050
def lK(i fn:Nat)(pos:String)(ch:Nat):Trace:=#[{g:=i,fn:=fn,pos:=pos,act:=.access ⟨.obj ch,false,true⟩},{g:=i,fn:=fn,pos:=pos,act:=.close ch}]
def vC i fn pos ch:MemOp.ofEvents i fn pos #[⟨.obj ch,false,true⟩,⟨.obj ch,true,true⟩]=lK i fn pos ch:=by unfold MemOp.ofEvents lK;simp[MemAct.ofEvent]
def kF{i fn pos ch op}(h:op∈lK i fn pos ch):op.g=i/\(∀m,op.act≠.mark m)/\(op.act.touch? =none∨op.act.touch? =some ⟨.obj ch,false,.atomic⟩):=by unfold lK at h;simp at h;rcases h with rfl|rfl;exact⟨rfl,λm=>by simp,.inr rfl⟩;exact⟨rfl,λm=>by simp,.inl rfl⟩
def Tr.close(T:Tr C t D gB gN){i fn ch:Nat}{pos:String}(hg:C.na i)(VT:ch=C.N.J∨ch=C.N.R)(zW:∀g,C.na g->ch∉ (D g).X)(hnu:∀c,(D i).st≠.jd c) (hX:∀g,(D' g).X=(D g).X) (hun:∀j c,(D j).st=.jd c->∃c',(D' j).st=.jd c') (ho:∀j r q,(D j).st=.old r q->∃r' q',(D' j).st=.old r' q') (hs:∀j q,(D' j).st=.old 1 q->j≠i/\(D j).st=.old 1 q) (tn:∀q,(D' (C.n+3)).st=.old 2 q->yQ C (t++lK i fn pos ch)):Tr C (t++lK i fn pos ch) D' gB gN where
 clean:=λsaid=>noRace_append (T.clean said) (λop jy=>(kF jy).1) λp a ha op jy b hb hc=>by rcases(kF jy).2.2 with h|h;rw[h]at hb;cases hb;rw[h]at hb;cases hb;have hw:a.write=true:=hc.2.2.1.resolve_right ζ;rcases T.touch p a ha hc.2.1 with hk|⟨o,h1,h2,h3|h3⟩;exact hk i hg hnu;rw[hc.1]at h3;exact absurd h3.1 (zW o.g h2);rw[hw]at h3;cases h3.1
 touch:=λp a ha hm=>by obtain⟨x,hx,Au⟩:=touch_of ha;rcases getElem?_append_cases hx with⟨hp,wV⟩|⟨_,hxu⟩;rcases T.touch p a aGo hm with hk|⟨op,h1,h2,h3⟩;exact .inl λj hj hc=>(hk j hj λc e=>by obtain⟨c',h⟩:=hun j c e;exact hc c' h).app _;exact t090;obtain⟨e1,_,e3⟩:=kF hxu;refine .inr ⟨x,hx,by rw[e1];exact hg,.inr ?_⟩;rcases e3 with h|h;rw[h]at Au;cases Au;rw[h]at Au;cases Au;exact⟨rfl,by rcases VT with e|e<;>rw[e]<;>simp⟩
 deaf:=λj hj hc=>by rw[vF (λop jy=>(kF jy).2.1)];exact T.deaf j hj λr q e=>by obtain⟨r',q',h⟩:=ho j r q e;exact hc r' q' h
 said:=λj q hj e=>by obtain⟨h1,h2⟩:=hs j q e;exact(T.said j q hj h2).app (λop jy CZ=>absurd ((kF jy).1.symm.trans CZ) (aG h1)) ν
 shut:=tn;above:=λj hj=>(vF (λop jy=>(kF jy).2.1) t j).trans (T.above j hj)
def lV.mf{k}{s:St α}(h1:∀c,s=.iA c->k c=true->lV cj cr gN (.live c))(h2:(∀c,s=.iA c->k c=false)->lV cj cr gN s):lV cj cr gN (mf k s):=by
 cases s with
 |iA c=>rw[lE];cases hk:k c with|true=>rw[if_pos rfl];exact h1 c rfl hk|false=>rw[if_neg ζ];exact h2 λc' e=>by cases e;exact hk
 |_=>exact h2 λc e=>by cases e
def PK(L:Eb C)(I:Inv C all gs w t D cj cr gB gN){i}(hi:i<C.n+4)(h0:i≠0){c:pI α}{ch:Nat}{g'}(hx:gs[i]? =some g')(acV:mayWake C.P g'=true) k d'(hd:d'.X=(D i).X/\d'.v=(D i).v) v (hD':D'=λj=>if j=i then d' else(D j).to (mf k (D j).st) (D j).g) (jo:Ok C t i (some (ks g' v)) d') {w1} (hw:∀j,j<C.n+4->oC C w (D j)->oC C w1 (D j)) (ao2:∀j c g2,j<C.n+4->j≠i->(D j).st=.iA c->k c=true->(parked g2 (C.N.cases c) (C.N.shape c)).again w1={parked g2 (C.N.cases c) (C.N.shape c)with status:=.running}/\C.N.Stop c=C.N.A c) (ak0:∀j c g2,j<C.n+4->j≠i->(D j).st=.iA c->k c=false->(parked g2 (C.N.cases c) (C.N.shape c)).again w1=parked g2 (C.N.cases c) (C.N.shape c)) (II:∀c,k c=true->∀n,c≠.spawn n) (hJ:∃s r,w1.heap[C.N.J]? =some (.chan 0 #[] cj' s r false)) (hR:∃s r,w1.heap[C.N.R]? =some (.chan 0 #[] cr' s r false)) (hDD:w1.heap[C.N.D]? =some (.chan 3 (Array.replicate (gB-gN) C.N.dv) false gB gN false)) {u} (hu:∀op∈u,∀m,op.act≠.mark m) (jU:Ew C all (iD D') cj' cr' gB gN):Inv C all ((gs.map (woken C.P g' (ks g' v) w1)).setIfInBounds i (ks g' v)) w1 (t++u) D' cj' cr' gB gN:=by
 have gV:i<gs.size:=(ae.1 hx).1;have hXv:∀j,(D' j).X=(D j).X/\(D' j).v=(D j).v:=λj=>by rw[hD'];dsimp only;by_cases ij:j=i;subst ij;rw[if_pos rfl];exact hd;rw[if_neg ij];exact⟨rfl,rfl⟩
 have iZ:∀j,j≠i->D' j=(D j).to (mf k (D j).st) (D j).g:=λj hj=>by rw[hD'];exact if_neg hj
 have Pb:=vF hu t;refine⟨I.pos,λj hj=>?_,by simpa using I.size,λj hj=>?_,λj l hj hl IJ b Pe mQ=>I.TJ j l hj hl IJ b (by rw[<-(hXv j).1];exact Pe) (by rw[<-(hXv l).1];exact mQ),?_,hJ,hR,hDD,I.ne,jU⟩;refine Ok.trace C ?_ (Pb j);by_cases ij:j=i;subst ij;rw[aj aH3,hD'];dsimp only;rw[if_pos rfl];exact jo;rw[ah (aG ij),bu,iZ j ij];have xz:=I.ok j hj;have hwk:∀x,woken C.P g' (ks g' v) w1 x=x.again w1:=λx=>by unfold woken;rw[acV];rfl
 unfold Ok at xz;unfold Ok Pd.to;dsimp only;cases hs:(D j).st with
 |old r q=>rw[hs]at xz;obtain⟨⟨y,h1,h2⟩,h3⟩:=xz;rw[h1,Option.map_some,hwk,again_running _ h2.status];exact⟨⟨y,rfl,h2⟩,h3⟩
 |jd c=>rw[hs]at xz;rw[xz.1];exact⟨rfl,xz.2⟩|born c=>rw[hs]at xz;rw[xz.1,Option.map_some,hwk,again_running _ (.inl rfl)];exact⟨rfl,xz.2⟩
 |live c=>rw[hs]at xz;obtain⟨g2,h1,h2,h3⟩:=xz;rw[h1,Option.map_some,hwk,again_running _ (.inl h2.run.2)];exact⟨g2,rfl,h2,h3⟩
 |iA c=>
  rw[hs]at xz;obtain⟨g2,h1,h2,h3⟩:=xz;rw[h1,Option.map_some,hwk];cases hkc:k c with
  |true=>obtain⟨h4,h5⟩:=ao2 j c g2 hj ij hs hkc;rw[h4];show Ok C t j _ ⟨mf k (.iA c),_,_,_⟩;rw[lE,if_pos hkc];exact⟨_,rfl,⟨⟨h2.run.1,rfl⟩,h2.dy,h2.frame,h2.callers⟩,.stop (by rw[h5];exact h3)⟩
  |false=>rw[ak0 j c g2 hj ij hs hkc];show Ok C t j _ ⟨mf k (.iA c),_,_,_⟩;rw[lE,if_neg (by rw[hkc];simp)];exact⟨g2,rfl,h2,h3⟩
 have:=hw j hj (I.AU j hj);unfold oC at this|-;rw[(hXv j).1,(hXv j).2];exact this;rw[iZ 0 (aG h0)];rw[bt,Array.size_map];show(∃n,n<=3/\mf k (D 0).st=_/\_)∨((∃iP,mf k (D 0).st=_∨mf k (D 0).st=_)/\_);rcases I.main with⟨n,h1,h2,h3⟩|⟨⟨iP,h|h⟩,h3⟩;exact .inl ⟨n,h1,by rw[h2];rfl,h3⟩;exact .inr ⟨⟨iP,.inl (by rw[h];rfl)⟩,h3⟩;refine .inr ⟨⟨iP,?_⟩,h3⟩;rw[h,lE];split;exact .inl rfl;exact .inr rfl
end
end Ph
def t0117{p:Prop}(h:p:=by rw[if_neg aHI];show mf kJ (D j).st=_;rw[e];rfl):p:=h
def t0110{p:Prop}(h:p:=by
 cases hs:(D j).st with
 |iA c=>rw[hs,lE]at e;split at e<;>cases e
 |_=>rw[hs]at e;exact e):p:=h
def t069{p:Prop}(h:p:=by
 rw[hs]at h1 h2;match r,h1,h2 with
 |0,_,_=>exact trivial
 |1,_,_=>exact rfl
 |2,_,h2=>exact absurd rfl h2
 |r+3,_,_=>exact trivial):p:=h
namespace Ph
open Go.Conc Rn
open Go.ConcN (sumTo upd sumTo_upd upd_ne upd_same le_sumTo)
open Tp (jN Term Ld)
variable{α:Type}{C:pJ α}
section
variable{all:List α}{gs gs':Array Goroutine}{w w':World}{t u:Trace}{D D':Nat->Pd α}{cj cr cj' cr':Bool}{gB gN sent' rcvd':Nat}{sl:Option (Nat×Nat)}
def kJ:pI α->Bool
 |.iC=>true|_=>false
def kR:pI α->Bool
 |.iq _=>true|_=>false
def MO k i(d':Pd α) D:iD (λj=>if j=i then d' else(D j).to (mf k (D j).st) (D j).g)=upd (λj=>mf k (iD D j)) i d'.st:=by funext j;by_cases ij:j=i;subst ij;show(if j=j then _ else _:Pd α).st=_;rw[if_pos rfl,upd_same];show(if j=i then _ else _:Pd α).st=_;rw[if_neg ij,upd_ne _ _ ij];rfl
def wX(I:Inv C all gs w t D cj cr gB gN){i}(hi:i<C.n+4)(hr:(iD D i).role=2):i=C.n+3:=by
 have h1:=I.jU.role i hi;have h2:C.rl (C.n+3)=2:=by unfold pJ.rl;rw[if_neg ω,if_neg ω,if_neg ω]
 refine tU I.pos hi ω ?_ (.inl ?_);rw[h2,<-h1,hr];rw[<-h1,hr]
def Ka(I:Inv C all gs w t D cj cr gB gN){i}(hi:i<C.n+4) k x(hxr:x.role=(iD D i).role)(hxt:∀p,x.tok p=(iD D i).tok p)(hxs:x.said=(iD D i).said)(hxp:∀c,x≠.iA c)(auM:lV cj' cr' gN x) (ig:∀j,j<C.n+4->j≠i->lV cj' cr' gN (mf k (iD D j))) (qX:(iD D i).role=2):Ew C all (upd (λj=>mf k (iD D j)) i x) cj' cr' gB gN:=by
 have tp:∀j c,j<C.n+4->upd (λj=>mf k (iD D j)) i x j=.iA c->j≠i/\iD D j=.iA c:=λj c hj e=>by
  by_cases ij:j=i;subst ij;rw[upd_same]at e;exact absurd e (hxp c);rw[upd_ne _ _ ij]at e;refine⟨ij,?_⟩;cases hs:iD D j with
  |iA c'=>rw[hs,lE]at e;split at e;cases e;exact e
  |_=>rw[hs]at e;cases e
 refine I.jU.EF (λj hj=>?_) (λp=>?_) I.jU.le ?_ (λj hj=>?_) (λj c hj e=>(tp j c hj e).2) (λj q hj e=>?_);by_cases ij:j=i;subst ij;rw[upd_same];exact hxr;rw[upd_ne _ _ ij];exact XM k _;have h1:=sumTo_upd (λj=>mf k (iD D j)) x (λy=>y.tok p) hi;have h2:sumTo (C.n+4) (λa=>(mf k (iD D a)).tok p)=sumTo (C.n+4) (λa=>(iD D a).tok p):=sumTo_congr _ λj _=>Mx k _ p;have h3:=hxt p;have h4:=Mx k (iD D i) p;omega;have h1:=sumTo_upd (λj=>mf k (iD D j)) x (λy=>y.said) hi;have h2:sumTo (C.n+4) (λa=>(mf k (iD D a)).said)=sumTo (C.n+4) (λa=>(iD D a).said):=sumTo_congr _ λj _=>I6 k _;have h4:=I6 k (iD D i);have h5:=I.jU.said;omega;by_cases ij:j=i;subst ij;rw[upd_same];exact auM;rw[upd_ne _ _ ij];exact ig j hj ij;obtain⟨h1,h2⟩:=tp j _ hj e;have:=I.jU.role j hj;rw[h2]at this;exact absurd (tU I.pos hj hi (by rw[<-this,<-I.jU.role i hi,qX];rfl) (.inl this.symm)) h1
def Hh(I:Inv C all gs w t D cj cr gB gN){i}(hi:i<C.n+4) k x(mm:x.ev< (iD D i).ev)(hD':iD D'=upd (λj=>mf k (iD D j)) i x):Z8 C D' D:=by refine .inl ?_;rw[hD'];have h1:Pv C (upd (λj=>mf k (iD D j)) i x)+(mf k (iD D i)).ev=Pv C (λj=>mf k (iD D j))+x.ev:=ux hi x;have h2:Pv C (λj=>mf k (iD D j))=Pv C (iD D):=sumTo_congr _ λj _=>Us k _;have h3:=Us k (iD D i);omega
def Oe(L:Eb C)(I:Inv C all gs w t D cj cr gB gN)(T:Tr C t D gB gN){i}(hi:i<C.n+4)(ig:(D i).st=.live (.feed []))(hA:C.N.A .lM (D i).g (D i).v):Goes C all gs w sl t D i:=by
 obtain⟨g',hx,gV,oX⟩:=vZ L I hi ig;obtain⟨s,r,hc⟩:=I.Ig;have e1:iD D i=.live (.feed []):=ig;have jM:cj=false/\cr=false/\gN=0:=by exact t0113
 obtain⟨rfl,rfl,rfl⟩:=jM;obtain⟨acV,rF⟩:=L.Ho .lM C.N.J _ _ _ _ _ (.inl ⟨rfl,rfl⟩) hA oX;have zT:=rF (i==0) w s r hc;have kV:i≠0:=I.rP hi ig aGG;have hi3:=wX I hi aFO;have xA:C.na i:=I.na hi (by rw[ig];exact px (α:=α) (.feed []));have jm:=runT_crowd_go (P:=C.P) (sl:=sl) hx zT;rw[vC]at jm;have yL:C.N.J<w.heap.size:=(ae.1 hc).1;have hJ1:(w.heap.setIfInBounds C.N.J (.chan 0 #[] true s r false))[C.N.J]? =some (.chan 0 #[] true s r false):=aj yL;have hR1:∃s2 r2,(w.heap.setIfInBounds C.N.J (.chan 0 #[] true s r false))[C.N.R]? =some (.chan 0 #[] false s2 r2 false):=by obtain⟨s2,r2,h2⟩:=I.IW;exact⟨s2,r2,by rw[ah I.ne.1];exact h2⟩
 have hD1:(w.heap.setIfInBounds C.N.J (.chan 0 #[] true s r false))[C.N.D]? =_:=(ah I.ne.2.1).trans I.LH;obtain⟨s2,r2,JV⟩:=hR1;have vP:∀j,j<C.n+4->j≠i->(D j).st.role≠2:=λj hj ij e=>ij ((wX I hj e).trans hi3.symm);have qW:=MO kJ i ((D i).to (.live (.iK 0)) (ks (D i).g (.tuple #[]))) D;have ak6:=Ka (cj':=true) (cr':=false) I hi kJ (.live (.iK 0)) aFO aGq aFO aFS ⟨rfl,rfl,rfl,by omega⟩ (λj hj ij=>by
 have h1:=I.jU.jG j hj;have h2:=vP j hj ij;refine lV.mf (λc e hk=>?_) (λhk=>?_);cases c<;>first|exact(Bool.noConfusion hk)|exact rfl
 change (iD D j).role≠2 at h2;cases hs:iD D j with
 |old r q=>exact t069|jd c=>rw[hs]at h1 h2;cases c<;>first|exact h1|exact absurd rfl h2
 |born c=>rw[hs]at h1 h2;cases c<;>first|exact h1|exact absurd rfl h2
 |live c=>rw[hs]at h1 h2;cases c<;>first|exact h1|exact absurd rfl h2|exact⟨rfl,rfl⟩
 |iA c=>
 rw[hs]at h1 h2;cases c<;>first|exact absurd rfl h2|exact h1|skip
 exact absurd (hk _ hs) (by simp[kJ])) aFO
 have zW:∀g,C.na g->C.N.J∉ (D g).X:=λg hg hm=>(I.AU g (I.Ls hg)).BE C hm hc;refine⟨_,_,_,λj=>if j=i then(D i).to (.live (.iK 0)) (ks (D i).g (.tuple #[]))else(D j).to (mf kJ (D j).st) (D j).g,true,false,gB,0,jm,?_,?_,Hh I hi kJ (.live (.iK 0)) (by rw[e1];show(5-0:Nat)<7+2*0;omega) qW,mY (λl=>aHS) (.inl rfl) rfl rfl rfl rfl⟩;refine PK (c:=.lM) (ch:=C.N.J) L I hi kV hx acV kJ ((D i).to (.live (.iK 0)) (ks (D i).g (.tuple #[]))) ⟨rfl,rfl⟩ (.tuple #[]) rfl ⟨_,rfl,JW oX (V.lf (VA.empty _)) rfl rfl,L.Vn _ _ hA⟩ (λj hj h=>?_) (λj c g2 hj ij e hk=>?_) (λj c g2 hj ij e hk=>?_) aH9 ⟨s,r,hJ1⟩ ⟨s2,r2,JV⟩ hD1 (λop jy=>(kF jy).2.1) (by rw[qW];exact ak6);exact h.chan C hc (.chan 0 #[] true s r false) w.drawn;cases c<;>first|exact(Bool.noConfusion hk)|skip
 exact⟨again_recv_closed hJ1,rfl⟩;have h1:=I.jU.jG j hj;rw[show iD D j=_ from e]at h1;have h2:=vP j hj ij;rw[e]at h2;cases c with
 |iC=>cases hk
 |jh a=>exact again_send_open JV|iq iP=>exact again_recv_open JV
 |jJ a rem=>exact absurd rfl h2|iK k=>exact absurd rfl h2
 |_=>exact h1.elim
 refine T.close xA (.inl rfl) zW (λc e=>by rw[ig]at e;cases e) (λg=>?_) (λj c e=>?_) (λj r q e=>?_) (λj q e=>?_) (λq e=>?_);split;rename_i hg;subst hg;rfl;rfl;refine⟨c,?_⟩;exact t0117;refine⟨r,q,?_⟩;exact t0117;split at e;cases e;rename_i ij;refine⟨ij,?_⟩;change mf kJ (D j).st=_ at e;exact t0110;rw[if_pos hi3.symm]at e;cases e
end
end Ph
def t0118{p:Prop}(h:p:=by rw[if_neg aHI];show mf kR (D j).st=_;rw[e];rfl):p:=h
def t072{p:Prop}(h:p:=by
 have h3:=zQ j hj;rw[hs]at h1 h2 h3;cases c<;>first|exact absurd rfl h2|exact h1.elim|skip
 obtain⟨_,h3⟩:=h3 rfl;cases h3):p:=h
namespace Ph
open Go.Conc Rn
open Go.ConcN (sumTo upd sumTo_upd upd_ne upd_same le_sumTo)
open Tp (jN Term Ld)
variable{α:Type}{C:pJ α}
section
variable{all:List α}{gs gs':Array Goroutine}{w w':World}{t u:Trace}{D D':Nat->Pd α}{cj cr cj' cr':Bool}{gB gN sent' rcvd':Nat}{sl:Option (Nat×Nat)}
def Ew.Ui{s}(h:Ew C all s cj cr gB gN)(hp:0<C.n)(h3:3<=gB){i}(hi:i<C.n+4)(hr:C.rl i=1):∃q,s i=.old 1 q:=by
 have h1:=rI (C:=C) hp;have h2:=EJ (f:=λi=>(s i).said) (g:=λi=>if C.rl i=1 then 1 else 0) (C.n+4) aGY (by rw[h1,<-h.said];omega) i hi;replace h2:(s i).said=if C.rl i=1 then 1 else 0:=h2
 rw[if_pos hr]at h2;cases hs:s i with
 |old r q=>
  rw[hs]at h2;match r,h2 with
  |0,h2=>cases h2
  |1,_=>exact⟨q,rfl⟩
  |r+2,h2=>cases h2
 |_=>rw[hs]at h2;cases h2
def Zr(hp:0<C.n){i}(hi:C.na i):i=0∨C.rl i=1∨i=C.n+3:=by rcases hi with h|⟨h1,h2⟩;exact .inl h;by_cases h3:i=C.n+3;exact .inr (.inr h3);refine .inr (.inl ?_);exact t058
def abb(I:Inv C all gs w t D cj cr gB gN)(T:Tr C t D gB gN)(hi:∀r q,(D (C.n+3)).st≠.old r q)(h3:gN=3) fn pos:yQ C (t++lK (C.n+3) fn pos C.N.R):=by
 have hp:=I.pos;let z1:MemOp:={g:=C.n+3,fn:=fn,pos:=pos,act:=.access ⟨.obj C.N.R,false,true⟩};let z2:MemOp:={g:=C.n+3,fn:=fn,pos:=pos,act:=.close C.N.R};have hu:lK (C.n+3) fn pos C.N.R=#[z1,z2]:=rfl;have apE:(t++lK (C.n+3) fn pos C.N.R)[t.size]? =some z1:=by rw[hu,cH ν,bh];rfl
 have OH:(t++lK (C.n+3) fn pos C.N.R)[t.size+1]? =some z2:=by rw[hu,cH ω,show t.size+1-t.size=1 by omega];rfl
 have xA:C.na (C.n+3):=.inr ⟨by omega,by omega⟩;have hd:=T.deaf _ xA hi;have alo:(t++lK (C.n+3) fn pos C.N.R).heard (t.size+1):=by refine⟨C.n+3,by rw[Trace.g?,OH];rfl,?_⟩;rw[deaf_succ apE,deaf_old ν];show deafStep _ (Deaf t _) z1=0;rw[hd];rfl
 refine⟨t.size+1,z2,OH,rfl,rfl,alo,λp y a hpy hg h0 ha=>?_⟩;rcases Zr hp hg with h|h|h;exact absurd h h0;have gV:=I.Ls hg;obtain⟨q,hq⟩:=I.jU.Ui hp aI5 gV h;obtain⟨s,k,z,s1,s2,s3,s4,s5,s6,s7⟩:=T.said y.g q gV hq;have ayE:gB<=3:=by have h1:=rI (C:=C) hp;have h2:=sumTo_le (f:=λi=>(iD D i).said) (g:=λi=>if C.rl i=1 then 1 else 0) (C.n+4) (λi hi=>by have:=Ks (iD D i);rwa[I.jU.role i hi]at this);rw[h1,<-I.jU.said]at h2;exact h2
 have hk:=s7 ω;have hsc:HappensBefore (t++lK (C.n+3) fn pos C.N.R) s (t.size+1):=hk.hb_new ω OH rfl;have auO:=lt_size_of_getElem? s1;have xy:p<s:=by rcases getElem?_append_cases hpy with⟨_,OJ⟩|⟨_,hyu⟩;exact s6 p y a OJ rfl ha;have:=(kF hyu).1;rw[this]at h;unfold pJ.rl at h;rw[if_neg ω,if_neg ω,if_neg ω]at h;omega
 have Gx:(t++lK (C.n+3) fn pos C.N.R)[s]? =some z:=by rw[getElem?_append_old auO];exact s1
 exact .inr ((hb_po xy hpy Gx s2.symm).trans hsc);have yL:p<t.size+1:=by rcases getElem?_append_cases hpy with⟨OJ,_⟩|⟨OJ,hyu⟩;omega;have h2:=lt_size_of_getElem? hpy;rw[hu]at h2;simp at h2;by_cases hpe:p=t.size+1;subst hpe;rw[OH]at hpy;cases hpy;cases ha;omega
 exact .inr (hb_po yL hpy OH h)
def Od(L:Eb C)(oM:∀i,C.n<=i->i<C.n+4->C.R i=[base C.P])(I:Inv C all gs w t D cj cr gB gN)(T:Tr C t D gB gN){i}(hi:i<C.n+4)(ig:(D i).st=.live .jV)(hA:C.N.A .jV (D i).g (D i).v):Goes C all gs w sl t D i:=by
 obtain⟨g',hx,gV,oX⟩:=vZ L I hi ig;obtain⟨s,r,hc⟩:=I.IW;have e1:iD D i=.live .jV:=ig;have jM:cj=true/\cr=false/\gN=3:=by exact t0113
 obtain⟨rfl,rfl,Qi⟩:=jM;obtain⟨acV,rF⟩:=L.Ho .jV C.N.R _ _ _ _ _ (.inr ⟨rfl,rfl⟩) hA oX;have zT:=rF (i==0) w s r hc;have kV:i≠0:=I.rP hi ig aGG;have hi3:=wX I hi aFO;have xA:C.na i:=I.na hi (by rw[ig];exact px (α:=α) .jV);rw[oM i ω hi]at oX;obtain⟨q,hq⟩:=L.Vm _ _ _ _ hA oX;have apK:∀r q,(D i).st≠.old r q:=λr q e=>by rw[ig]at e;cases e
 have Mr:Deaf t i=0:=T.deaf i xA apK;have jm:=runT_crowd_go (P:=C.P) (sl:=sl) hx zT;rw[vC]at jm;have yL:C.N.R<w.heap.size:=(ae.1 hc).1;have hR1:(w.heap.setIfInBounds C.N.R (.chan 0 #[] true s r false))[C.N.R]? =some (.chan 0 #[] true s r false):=aj yL;have hJ1:∃s2 r2,(w.heap.setIfInBounds C.N.R (.chan 0 #[] true s r false))[C.N.J]? =some (.chan 0 #[] true s2 r2 false):=by obtain⟨s2,r2,h2⟩:=I.Ig;exact⟨s2,r2,by rw[ah (aG I.ne.1)];exact h2⟩
 have hD1:(w.heap.setIfInBounds C.N.R (.chan 0 #[] true s r false))[C.N.D]? =_:=(ah I.ne.2.2).trans I.LH;have vP:∀j,j<C.n+4->j≠i->(iD D j).role≠2:=λj hj ij e=>ij ((wX I hj e).trans hi3.symm);have zQ:∀j,j<C.n+4->(iD D j).role=1->∃q,iD D j=.old 1 q:=λj hj e=>I.jU.Ui I.pos aI5 hj (by rw[<-I.jU.role j hj];exact e);have qW:=MO kR i ((D i).to (.old 2 q) (D i).g) D;have ak6:=Ka (cj':=true) (cr':=true) I hi kR (.old 2 q) aFO aGq aFO aFS ⟨rfl,rfl,Qi⟩ (λj hj ij=>by
 have h1:=I.jU.jG j hj;have h2:=vP j hj ij;refine lV.mf (λc e hk=>?_) (λhk=>?_);cases c<;>first|exact(Bool.noConfusion hk)|exact trivial
 cases hs:iD D j with
 |old r q=>exact t069|jd c=>exact t072
 |born c=>exact t072|live c=>
 have h3:=zQ j hj;rw[hs]at h1 h2 h3;cases c<;>first|exact absurd rfl h2|exact trivial|skip
 all_goals (obtain⟨_,h3⟩:=h3 rfl;cases h3)
 |iA c=>
 have h3:=zQ j hj;rw[hs]at h1 h2 h3;cases c<;>first|exact absurd rfl h2|exact h1.elim|skip
 obtain⟨_,h3⟩:=h3 rfl;cases h3;obtain⟨_,h3⟩:=h3 rfl;cases h3;exact absurd (hk _ hs) (by simp[kR])) aFO
 have zW:∀g,C.na g->C.N.R∉ (D g).X:=λg hg hm=>(I.AU g (I.Ls hg)).BE C hm hc;refine⟨_,_,_,λj=>if j=i then(D i).to (.old 2 q) (D i).g else(D j).to (mf kR (D j).st) (D j).g,true,true,gB,gN,jm,?_,?_,Hh I hi kR (.old 2 q) (by rw[e1];show(0:Nat)<1;omega) qW,mY (λl=>aHS) (.inr (.inl rfl)) rfl rfl rfl rfl⟩;refine PK (c:=.jV) (ch:=C.N.R) L I hi kV hx acV kR ((D i).to (.old 2 q) (D i).g) ⟨rfl,rfl⟩ (.tuple #[]) rfl ⟨⟨_,rfl,by rw[Mr];exact hq⟩,λ_=>hA⟩ (λj hj h=>?_) (λj c g2 hj ij e hk=>?_) (λj c g2 hj ij e hk=>?_) aH9 hJ1 ⟨s,r,hR1⟩ hD1 (λop jy=>(kF jy).2.1) (by rw[qW];exact ak6);exact h.chan C hc (.chan 0 #[] true s r false) w.drawn;cases c<;>first|exact(Bool.noConfusion hk)|skip
 exact⟨again_recv_closed hR1,rfl⟩;have h1:=I.jU.jG j hj;rw[show iD D j=_ from e]at h1;have h2:=vP j hj ij;have h3:=zQ j hj;rw[show iD D j=_ from e]at h2 h3;cases c with
 |iC=>obtain⟨_,h3⟩:=h3 rfl;cases h3
 |jh a=>obtain⟨_,h3⟩:=h3 rfl;cases h3
 |iq iP=>cases hk
 |jJ a rem=>exact absurd rfl h2|iK k=>exact absurd rfl h2
 |_=>exact h1.elim
 refine T.close xA (.inr rfl) zW (λc e=>by rw[ig]at e;cases e) (λg=>?_) (λj c e=>?_) (λj r q e=>?_) (λj q e=>?_) (λq e=>?_);split;rename_i hg;subst hg;rfl;rfl;refine⟨c,?_⟩;exact t0118;refine⟨r,q,?_⟩;exact t0118;split at e;cases e;rename_i ij;refine⟨ij,?_⟩;change mf kR (D j).st=_ at e;exact t0110;subst hi3;exact abb I T apK Qi _ _
end
end Ph
namespace Ph
open Go.Conc Rn
open Go.ConcN (sumTo upd sumTo_upd upd_ne upd_same le_sumTo fork_knows)
open Tp (jN Term Ld)
variable{α:Type}{C:pJ α}
section
variable{all:List α}{gs gs':Array Goroutine}{w w':World}{t u:Trace}{D D':Nat->Pd α}{cj cr cj' cr':Bool}{gB gN sent' rcvd':Nat}{sl:Option (Nat×Nat)}
def ok_none{i d}(h:Ok C t i none d):∃c,d.st=.jd c/\C.R i=[base C.P]/\GR C.P C.E d.X (C.R i) d.g (C.first i)/\Term C.P (C.N.Stop c) d.g d.v:=by
 unfold Ok at h;cases hs:d.st with
 |old r q=>rw[hs]at h;obtain⟨⟨y,h,_⟩,_⟩:=h;cases h
 |jd c=>rw[hs]at h;exact⟨c,rfl,h.2⟩|born c=>rw[hs]at h;cases h.1
 |live c=>rw[hs]at h;obtain⟨y,h,_⟩:=h;cases h
 |iA c=>rw[hs]at h;obtain⟨y,h,_⟩:=h;cases h
def Sm(L:Eb C)(I:Inv C all gs w t D cj cr gB gN)(T:Tr C t D gB gN){k}(ig:(D 0).st=.live (.spawn k))(hA:C.N.A (.spawn k) (D 0).g (D 0).v)(hX:C.ok0 (D 0).X):Goes C all gs w sl t D 0:=by
 have hp:=I.pos;have h0:0<C.n+4:=ω;obtain⟨g',hx,gV,oX⟩:=vZ L I h0 ig;obtain⟨II,pL⟩:k<=3/\gs.size=C.n+k:=by rcases I.main with⟨k',h1,h2,h3⟩|⟨⟨_,h|h⟩,_⟩;rw[ig]at h2;cases h2;exact⟨h1,h3⟩;rw[ig]at h;cases h;rw[ig]at h;cases h
 have zT:=L.Qa k _ _ _ _ _ II hX hA oX true w;have jm:=runT_crowd_spawn (P:=C.P) (sl:=sl) (i:=0) hx zT;rw[j8]at jm;have hj:C.n+k<C.n+4:=ω;have apJ:gs[C.n+k]? =none:=aI ω;have xz:=I.ok (C.n+k) hj;rw[apJ]at xz;obtain⟨c,alk,hR,GD,akS⟩:=ok_none xz;have zX:∃ci:pI α,Term C.P (C.N.Stop ci) (ks (D 0).g undef) (D 0).v/\ci.role=3/\(∀p,ci.tok p=0)/\lV cj cr gN (.live ci)/\ci.ev<5-k/\((∃k',k'<=3/\(St.live ci:St α)=.live (.spawn k')/\C.n+k+1=C.n+k')∨((∃iP,(St.live ci:St α)=.live (.iq iP)∨(St.live ci:St α)=.iA (.iq iP))/\C.n+k+1=C.n+4)):=by by_cases h3:k=3;subst h3;exact⟨.iq [],L.Vl _ _ hA,rfl,λ_=>rfl,trivial,by simp[pI.ev],.inr ⟨⟨[],.inl rfl⟩,rfl⟩⟩;refine⟨.spawn (k+1),L.abT k _ _ ω hA,rfl,λ_=>rfl,trivial,?_,.inl ⟨k+1,by omega,rfl,rfl⟩⟩;show 5-(k+1)<5-k;omega
 obtain⟨ci,c1,c2,c3,c4,c5,c6⟩:=zX;have qG:0≠C.n+k:=ω;have hS:=sJ D 0 (C.n+k) (.live ci) (.born c) (ks (D 0).g undef) (D (C.n+k)).g;have sm:∀l,upd (upd D 0 ((D 0).to (.live ci) (ks (D 0).g undef))) (C.n+k) ((D (C.n+k)).to (.born c) (D (C.n+k)).g) l=if l=C.n+k then(D (C.n+k)).to (.born c) (D (C.n+k)).g else if l=0 then(D 0).to (.live ci) (ks (D 0).g undef)else D l:=λl=>rfl
 have qW:iD (upd (upd D 0 ((D 0).to (.live ci) (ks (D 0).g undef))) (C.n+k) ((D (C.n+k)).to (.born c) (D (C.n+k)).g))=upd (upd (iD D) 0 (.live ci)) (C.n+k) (.born c):=by rw[ly,ly];rfl
 generalize hD':upd (upd D 0 ((D 0).to (.live ci) (ks (D 0).g undef))) (C.n+k) ((D (C.n+k)).to (.born c) (D (C.n+k)).g)=D' at hS sm qW;have hv0:D' 0=(D 0).to (.live ci) (ks (D 0).g undef):=by rw[sm,if_neg qG,if_pos rfl]
 have hvj:D' (C.n+k)=(D (C.n+k)).to (.born c) (D (C.n+k)).g:=by rw[sm,if_pos rfl]
 have hvo:∀l,l≠0->l≠C.n+k->D' l=D l:=λl h1 h2=>by rw[sm,if_neg h2,if_neg h1]
 have e0:iD D 0=.live (.spawn k):=ig;have ej:iD D (C.n+k)=.jd c:=alk;have hg0:((gs.setIfInBounds 0 (ks g' undef)).push (oB C.P (C.d (C.n+k))))[0]? =some (ks g' undef):=by rw[bQ aH3];simp
 have CZ:((gs.setIfInBounds 0 (ks g' undef)).push (oB C.P (C.d (C.n+k))))[C.n+k]? =some (oB C.P (C.d (C.n+k))):=by rw[du,if_pos aFJ]
 have hgo:∀l,l≠0->l≠C.n+k->((gs.setIfInBounds 0 (ks g' undef)).push (oB C.P (C.d (C.n+k))))[l]? =gs[l]?:=λl h1 h2=>by rw[du,if_neg aFJ,ah (aG h1)]
 let z1:MemOp:={g:=0,fn:=g'.frame.fn,pos:=g'.frame.place,act:=.go gs.size};let z2:MemOp:={g:=gs.size,fn:=(oB C.P (C.d (C.n+k))).frame.fn,pos:=g'.frame.place,act:=.start};have hu:Quiet #[z1,z2]:=λop jy=>by exact t087
 have Mr:Deaf t 0=0:=T.deaf 0 (.inl rfl) λr q e=>by rw[ig]at e;cases e
 have hdj:Deaf t (C.n+k)=0:=T.deaf _ (.inr ⟨by omega,hj⟩) λr q e=>by rw[alk]at e;cases e
 refine⟨_,w,#[z1,z2],D',cj,cr,gB,gN,jm,I.quiet hS hu (λl hl=>?_) aFJ (λ_ _ h=>h) ?_ I.Ig I.IW I.LH ?_,T.mute (λop jy=>(hu op jy).1) (λl=>(hS l).1) (λl hl hc=>?_) I.zero (λl hl hc=>⟨λr q e=>?_,hu.deaf t l⟩) (λl q hl e=>?_) (λq e=>?_) (λl _=>hu.deaf t l),.inl ?_,wU (λl=>(hS l).1) rfl rfl rfl rfl⟩;by_cases h1:l=0;subst h1;refine .inr ?_;rw[hv0,hg0];exact⟨_,rfl,JW oX (V.lf (VA.empty _)) rfl rfl,c1⟩;by_cases h2:l=C.n+k;subst h2;refine .inr ?_;rw[hvj,CZ];exact⟨rfl,hR,GD,akS⟩;exact .inl ⟨hvo l h1 h2,hgo l h1 h2⟩;rw[hv0];have:((gs.setIfInBounds 0 (ks g' undef)).push (oB C.P (C.d (C.n+k)))).size=C.n+k+1:=by simp;omega
 rw[this];exact c6;rw[qW];refine I.jU.two h0 hj qG (.live ci) (.born c) (by rw[e0];exact c2) (by rw[ej];rfl) (λp=>?_) (by rw[e0,ej];rfl) I.jU.le (λl hl _ _=>I.jU.jG l hl) c4 ?_ aFS aFS (λl q hl _ _ h=>I.jU.p3 l q hl h);rw[e0,ej];show ci.tok p+c.tok p=0+c.tok p;rw[c3];have:=I.jU.jG _ hj;rw[ej]at this;exact this;by_cases h1:l=0;subst h1;exact .inl λc' e=>by rw[ig]at e;cases e
 by_cases h2:l=C.n+k;subst h2;refine .inr λp hpk=>?_;exact fork_knows (x:=z1) (y:=z2) ⟨rfl,by rw[<-pL]⟩ ⟨pL,rfl⟩ Mr hdj hpk;rw[hvo l h1 h2]at hc;exact .inl hc;by_cases h1:l=0;subst h1;rw[ig]at e;cases e;by_cases h2:l=C.n+k;subst h2;rw[alk]at e;cases e;exact hc r q (by rw[hvo l h1 h2];exact e);by_cases h1:l=0;subst h1;rw[hv0]at e;cases e;by_cases h2:l=C.n+k;subst h2;rw[hvj]at e;cases e;rw[hvo l h1 h2]at e;exact(T.said l q hl e).app (λop jy _=>(hu op jy).1) ν;by_cases h2:C.n+3=C.n+k;rw[h2,hvj]at e;cases e;rw[hvo _ ω h2]at e;exact(T.shut q e).app λop jy _ _=>(hu op jy).1;rw[qW];have:=Er (C:=C) (s:=iD D) h0 hj qG (.live ci) (.born c);have f1:(iD D 0).ev=5-k:=by rw[e0];rfl
 have f2:(St.live ci).ev=ci.ev:=rfl;have f3:(iD D (C.n+k)).ev=c.ev+2:=by rw[ej];rfl
 have f4:(St.born c).ev=c.ev+1:=rfl;omega
end
end Ph
def t052{p:Prop}(h:p:=by
 have e3:∀m,sumTo m (λ_=>0)=0:=by intro m;induction m with|zero=>rfl|succ m ih=>show sumTo m _+0=0;rw[ih]
 rw[e3]at e2;simp at e2;rw[e1];exact e2):p:=h
def t042{p:Prop}(h:p:=by refine tU I.pos hi (by have:=I.pos;omega) ?_ (.inr ?_);rw[<-I.jU.role i hi,show iD D i=_ from hs];simp[pJ.rl,St.role,pI.role];rw[<-I.jU.role i hi,show iD D i=_ from hs];rfl):p:=h
namespace Ph
open Go.Conc Rn
open Go.ConcN (sumTo upd sumTo_upd upd_ne upd_same le_sumTo fork_knows)
open Tp (jN Term Ld)
variable{α:Type}{C:pJ α}
section
variable{all:List α}{gs gs':Array Goroutine}{w w':World}{t u:Trace}{D D':Nat->Pd α}{cj cr cj' cr':Bool}{gB gN sent' rcvd':Nat}{sl:Option (Nat×Nat)}
def abk j(hp:0<C.n):(j<3->C.rl (C.n+j)=1)/\C.rl (C.n+3)=2:=by refine⟨λhj=>?_,?_⟩;exact t058;unfold pJ.rl;rw[if_neg ω,if_neg ω,if_neg ω]
def Inv.af2(I:Inv C all gs w t D cj cr gB gN):∃(i:Nat)(g:Goroutine),gs[i]? =some g/\g.status=.running:=by
 apply aV;intro zW;have hp:=I.pos;have hnr:∀(i:Nat)(g:Goroutine),gs[i]? =some g->g.status≠.running:=λi g h e=>zW ⟨i,g,h,e⟩;have zY:∀i c,i<C.n+4->iD D i≠.live c:=λi c hi e=>by have:=I.ok i hi;unfold Ok at this;rw[show(D i).st=.live c from e]at this;obtain⟨g',h1,h2,_⟩:=this;exact hnr i g' h1 h2.run.2
 have ai8:∀i c,i<C.n+4->iD D i≠.born c:=λi c hi e=>by have:=I.ok i hi;unfold Ok at this;rw[show(D i).st=.born c from e]at this;exact hnr i _ this.1 rfl
 obtain⟨iP,GF,pL⟩:∃iP,iD D 0=.iA (.iq iP)/\gs.size=C.n+4:=by rcases I.main with⟨k,_,h,_⟩|⟨⟨iP,h|h⟩,h2⟩;exact absurd h (zY 0 _ ω);exact absurd h (zY 0 _ ω);exact⟨iP,h,h2⟩
 have VE:∀i c,i<C.n+4->iD D i≠.jd c:=λi c hi e=>by have:=I.ok i hi;unfold Ok at this;rw[show(D i).st=.jd c from e]at this;have h1:=this.1;rw[Array.getElem?_eq_getElem ω]at h1;cases h1
 have qH:cr=false:=by have:=I.jU.jG 0 ω;rw[GF]at this;exact this
 have hw:∀j,j<C.n+4->C.rl j=1->(∃q,iD D j=.old 1 q/\cj=true)∨(iD D j=.iA .iC/\cj=false):=λj hj hr=>by
  have h1:=I.jU.role j hj;have h2:=I.jU.jG j hj;rw[hr]at h1;cases hs:iD D j with
  |old r q=>rw[hs]at h1 h2;obtain rfl:r=1:=h1;exact .inl ⟨q,rfl,h2⟩
  |jd c=>exact absurd hs (VE j c hj)|born c=>exact absurd hs (ai8 j c hj)
  |live c=>exact absurd hs (zY j c hj)|iA c=>rw[hs]at h1 h2;cases c with|iC=>exact .inr ⟨rfl,h2.1⟩|jh a=>exact absurd GF (I.jU.p2 j 0 hj ω a iP hs)|lS=>exact h2.elim|_=>cases h1
 have hf:C.n+3<C.n+4:=ω;have h1:=I.jU.role _ hf;have h2:=I.jU.jG _ hf;rw[(abk 0 hp).2]at h1;cases hs:iD D (C.n+3)with
 |old r q=>rw[hs]at h1 h2;obtain rfl:r=2:=h1;have:cr=true:=h2.2.1;rw[qH]at this;cases this
 |jd c=>exact VE _ c hf hs|born c=>exact ai8 _ c hf hs
 |live c=>exact zY _ c hf hs|iA c=>
 rw[hs]at h1 h2;cases c with
 |jJ a rem=>have Lp:cj=false:=h2.1;rcases hw (C.n+0) ω ((abk 0 hp).1 ω)with⟨_,_,h⟩|⟨h,_⟩;rw[Lp]at h;cases h;exact I.jU.p1 _ _ ω hf h a rem hs
 |iK k=>obtain⟨Lp,_,hrk,II⟩:cj=true/\_/\gN=k/\k<3:=h2;have hsr:=I.jU.p3 _ _ hf hs;obtain⟨j,hj,gV⟩:=aa0 (f:=λi=>(iD D i).said) (g:=λi=>if C.rl i=1 then 1 else 0) (C.n+4) (by rw[rI hp,<-I.jU.said];omega);by_cases hr:C.rl j=1;rw[if_pos hr]at gV;rcases hw j hj hr with⟨q,h,_⟩|⟨_,h⟩;rw[h]at gV;have:(St.old 1 q:St α).said=1:=rfl;omega;rw[Lp]at h;cases h;rw[if_neg hr]at gV;omega
 |iC=>cases h1
 |jh a=>cases h1
 |iq g=>cases h1
 |_=>exact h2.elim
def Inv.awake(I:Inv C all gs w t D cj cr gB gN):∀g∈gs,awake g:=by intro g hg;obtain⟨i,hi,rfl⟩:=Array.mem_iff_getElem.1 hg;obtain⟨gV,h⟩:=I.status (Array.getElem?_eq_getElem hi);rcases h with(h|h)|⟨c,hc⟩;exact awake_of (.inl h);exact awake_of (.inr (.inr h));have:=I.ok i gV;unfold Ok at this;rw[hc,Array.getElem?_eq_getElem hi]at this;obtain⟨g',h1,_⟩:=this;rw[aA h1];exact awake_of (.inr (.inl rfl))
theorem Inv.at(I:Inv C all gs w t D cj cr gB gN) d:Inv C all gs (w.at d) t D cj cr gB gN:=⟨I.pos,I.ok,I.size,λi hi=>(I.AU i hi).drawn C d,I.TJ,I.main,I.Ig,I.IW,I.LH,I.ne,I.jU⟩
def Ends(C:pJ α)(all:List α)(gs:Array Goroutine)(w:World)(t:Trace)(D:Nat->Pd α):Prop:=∃cj gB gN iP,Inv C all gs w t D cj true gB gN/\Tr C t D gB gN/\(D 0).st=.live (.iq iP)/\C.N.A (.iq iP) (D 0).g (D 0).v
def afW(L:Eb C)(oM:∀i,C.n<=i->i<C.n+4->C.R i=[base C.P])(I:Inv C all gs w t D cj cr gB gN)(T:Tr C t D gB gN)(hX:C.ok0 (D 0).X){i g}(hx:gs[i]? =some g)(hr:g.status=.running):Goes C all gs w sl t D i∨(i=0/\Ends C all gs w t D):=by
 obtain⟨hi,ig⟩:=I.status hx;have jo:=I.ok i hi;unfold Ok at jo;cases hs:(D i).st with
 |old r q=>
 have kV:0<i:=by apply Nat.pos_of_ne_zero;rintro rfl;rcases I.main with⟨_,_,h,_⟩|⟨⟨_,h|h⟩,_⟩<;>rw[hs]at h<;>cases h
 obtain⟨gs',w',u,D',h1,h2,h3,h4,h5,h6⟩:=ab0 (sl:=sl) I T hi kV hs hx hr;exact .inl ⟨gs',w',u,D',_,_,_,_,h1,h2,h3,.inr ⟨sumTo_congr _ λj _=>h5 (λs=>s.ev) (λ_ _ _=>rfl) j,.inr ⟨sumTo_congr _ λj _=>h5 (λs=>s.up) (λ_ _ _=>rfl) j,h4⟩⟩,h6⟩
 |jd c=>rw[hs,hx]at jo;cases jo.1
 |born c=>
 obtain⟨gs',w',u,D',h1,h2,h3,h4⟩:=YU (sl:=sl) L I T hi hs;refine .inl ⟨gs',w',u,D',_,_,_,_,h1,h2,h3,.inl ?_,h4.2⟩;rw[h4.1];have:=ux (C:=C) (s:=iD D) hi (.live c);have f1:(iD D i).ev=c.ev+1:=by rw[show iD D i=_ from hs];rfl
 have f2:(St.live c).ev=c.ev:=rfl;omega|iA c=>rw[hs,hx]at jo;obtain⟨g',h1,_⟩:=jo;rw[aA h1]at hr;cases hr
 |live c=>
 by_cases vL:C.N.Stop c (D i).g (D i).v;have jM:=I.jU.jG i hi;rw[show iD D i=_ from hs]at jM;cases c with
 |iC=>exact .inl (Su L I T hi hs vL λLp=>YT L I T hi hs vL Lp)|jh a=>exact .inl (Sn L I T hi hs vL)
 |lS=>exact .inl (Sr L oM I T hi hs vL)|feed rem=>rcases vL with⟨a,Iu,OI,hA⟩|⟨rfl,hA⟩;exact .inl (Sp L I T hi hs OI hA);exact .inl (Oe L I T hi hs hA)
 |jJ a rem=>exact jM.elim|lM=>exact jM.elim
 |iK k=>exact .inl (Sv L I T hi hs vL)|jV=>exact .inl (Od L oM I T hi hs vL)
 |spawn k=>
 have kV:i=0:=by exact t042
 subst kV;exact .inl (Sm L I T hs vL hX)|iq iP=>
  have kV:i=0:=by exact t042
  subst kV;cases qH:cr with|false=>exact .inl (by subst qH;exact Ss L I T hi hs vL rfl)|true=>subst qH;exact .inr ⟨rfl,_,_,_,iP,I,T,hs,vL⟩
 obtain⟨gs',w',u,D',h1,h2,h3,h4,h5,h6⟩:=abZ (sl:=sl) L I T hi hs vL;exact .inl ⟨gs',w',u,D',_,_,_,_,h1,h2,h3,.inr ⟨sumTo_congr _ λj _=>congrArg St.ev (h5 j),.inr ⟨sumTo_congr _ λj _=>congrArg St.up (h5 j),h4⟩⟩,h6⟩
def QN{f m}(hm:0<m)(h:∀i,i<m->i≠0->f i=0):sumTo m f=f 0:=by
 have e1:sumTo m f=sumTo m (λi=>if i=0 then f 0 else 0):=sumTo_congr m λi hi=>by by_cases h0:i=0;subst h0;rw[if_pos rfl];rw[if_neg h0];exact h i hi h0
 have e2:=AN (f:=λ_=>0) (g:=λi=>if i=0 then f 0 else 0) (m:=m) (i:=0) hm (λj hj=>if_neg hj);exact t052
structure Fin(C:pJ α)(all:List α)(gs:Array Goroutine)(w:World)(t:Trace)(D:Nat->Pd α):Prop where
 start:∃iP a,gs[0]? =some a/\GR C.P C.E (D 0).X (C.R 0) (Go.Conc.served (D 0).g (.tuple #[C.N.zR,.bool false])) a/\a.offers=none/\C.N.A (.iq iP) (D 0).g (D 0).v/\∀p,iP.countP p=all.countP p
 AU:∀i,i<C.n+4->oC C w (D i)
 alY:C.N.A .jV (D (C.n+3)).g (D (C.n+3)).v
 leave:∃q,Leavers C.P t gs q
 at3:Tp.ny t
 adX:(∃cap buf cl s r tm,w.heap[C.N.J]? =some (.chan cap buf cl s r tm))/\(∃cap buf cl s r tm,w.heap[C.N.R]? =some (.chan cap buf cl s r tm))/\∃cap buf cl s r tm,w.heap[C.N.D]? =some (.chan cap buf cl s r tm)
def ZD(L:Eb C)(h:Ends C all gs w t D):∃gs' u,runT C.P (crowd gs w sl) 0=(.next (crowd gs' w sl),u)/\Fin C all gs' w (t++u) D:=by
 obtain⟨cj,gB,gN,iP,I,T,ig,hA⟩:=h;have hp:=I.pos;have h0:0<C.n+4:=ω;have hf:C.n+3<C.n+4:=ω;obtain⟨g',hx,gV,oX⟩:=vZ L I h0 ig;have rF:=L.act (.iq iP) _ _ _ _ _ rfl hA oX true w;obtain⟨s,r,hc⟩:=I.IW;obtain⟨qf,hqf⟩:∃q,iD D (C.n+3)=.old 2 q:=by
  have h1:=I.jU.role _ hf;have h2:=I.jU.jG _ hf;rw[(abk 0 hp).2]at h1;cases hs:iD D (C.n+3)with
  |old r q=>rw[hs]at h1;obtain rfl:r=2:=h1;exact⟨q,rfl⟩
  |jd c=>rw[hs]at h1 h2;cases c<;>first|exact h2.elim|(cases h2.2.1)|cases h1
  |born c=>rw[hs]at h1 h2;cases c<;>first|exact h2.elim|(cases h2.2.1)|cases h1
  |live c=>rw[hs]at h1 h2;cases c<;>first|exact h2.elim|(cases h2.2.1)|cases h1
  |iA c=>rw[hs]at h1 h2;cases c<;>first|exact h2.elim|(cases h2.2.1)|cases h1
 have Qi:gN=3:=by have:=I.jU.jG _ hf;rw[hqf]at this;exact this.2.2
 have ll:∀j,j<C.n+4->j≠0->∃r q,iD D j=.old r q:=λj hj hj0=>by
  by_cases h3:j=C.n+3;subst h3;exact⟨2,qf,hqf⟩;by_cases h1:C.rl j=1;obtain⟨q,hq⟩:=I.jU.Ui hp aI5 hj h1;exact⟨1,q,hq⟩;have hr0:C.rl j=0:=by unfold pJ.rl at h1|-;rw[if_neg hj0]at h1|-;split;rfl;rename_i hn;rw[if_neg hn,if_pos ω]at h1;exact absurd rfl h1
  have h4:=I.jU.role j hj;rw[hr0]at h4;cases hs:iD D j with|old r q=>exact⟨r,q,rfl⟩|jd c=>rw[hs]at h4;exact absurd h4 (px c)|born c=>rw[hs]at h4;exact absurd h4 (px c)|live c=>rw[hs]at h4;exact absurd h4 (px c)|iA c=>rw[hs]at h4;exact absurd h4 (px c)
 have hpn:partners (gs.setIfInBounds 0 ph) C.N.R true=[]:=I.BC λj c hj xC e=>by by_cases hj0:j=0;subst hj0;rw[ig]at xC;cases xC;obtain⟨r,q,hq⟩:=ll j hj hj0;rw[show(D j).st=_ from hq]at xC;cases xC
 have jm:=crowd_recv_closed (P:=C.P) (sl:=sl) (i:=0) hx rF hc hpn;simp only[Net.shape,finishComm_recv,j8,bM,recvd,if_true]at jm;let z:MemOp:={g:=0,fn:=g'.frame.fn,pos:=g'.frame.place,act:=.recvClosed C.N.R};have hu:Quiet #[z]:=λop jy=>by exact t0131
 have Mr:Deaf t 0=0:=T.deaf 0 (.inl rfl) λr q e=>by rw[ig]at e;cases e
 have acw:(t++#[z])[t.size]? =some z:=by rw[cH ν,bh];rfl
 have hzh:(t++#[z]).heard t.size:=⟨0,by rw[Trace.g?,acw];rfl,by rw[deaf_old ν];exact Mr⟩;obtain⟨c,zc,c1,c2,c3,c4,c5⟩:=T.shut qf hqf;have aqj:=lt_size_of_getElem? c1;have hcz:HappensBefore (t++#[z]) c t.size:=.single (.inr ⟨.closed (c:=C.N.R) (by rw[act?_of (show(t++#[z])[c]? =some zc by rw[getElem?_append_old aqj];exact c1),c3]) (by rw[act?_of acw]),(heard_old aqj).2 c4,hzh⟩);have acX:∀i a,touchAt (t++#[z]) i=some a->a.loc.isMemory=true->Knows (t++#[z]) 0 i:=λi a ha hm=>by obtain⟨x,wV,Au⟩:=touch_of ha;rcases getElem?_append_cases wV with⟨hi,hx2⟩|⟨_,hxu⟩;rcases T.touch i a (by rw[touchAt_of hx2];exact Au) hm with hk|⟨op,h1,h2,_⟩;exact(hk 0 (.inl rfl) I.zero).app _;rw[hx2]at h1;cases h1;by_cases hg0:x.g=0;have:=knows_own wV;rwa[hg0]at this;exact⟨t.size,z,acw,rfl,.inr (((c5 i x a hx2 h2 hg0 Au).app #[z]).hb hcz)⟩;rw[(hu x hxu).1]at Au;cases Au
 refine⟨_,#[z],jm,?_⟩;refine⟨⟨iP,_,aj gV,nV (pF oX) (V.pair L.Qy.2.2.2.2 false),rfl,hA,λp=>?_⟩,I.AU,?_,⟨λj=>match(D j).st with|.old _ q=>q|_=>0,⟨λj x hj hjx=>?_,λj hj=>?_⟩⟩,⟨λsaid=>CO (T.clean said) (λop jy=>(hu op jy).1),acX,λi g hg iZ Tl=>?_,by rw[hu.deaf];exact Mr⟩,?_⟩;have h1:=I.jU.tok p;rw[QN h0 (λi hi kV=>by obtain⟨r,q,hq⟩:=ll i hi kV;rw[hq];rfl)]at h1;rw[show iD D 0=_ from ig]at h1;exact h1;have:=I.ok _ hf;unfold Ok at this;rw[show(D (C.n+3)).st=_ from hqf]at this;exact this.2 rfl;rw[ah ω]at hjx;have qn:=(I.status hjx).1;obtain⟨r,q,hq⟩:=ll j qn ω;have:=I.ok j qn;unfold Ok at this;rw[show(D j).st=_ from hq]at this;obtain⟨⟨y,hy,hqd⟩,_⟩:=this;rw[hjx]at hy;cases hy;rw[show(D j).st=_ from hq,hu.deaf];exact hqd;rw[hu.deaf];rw[bt]at hj;have pL:gs.size=C.n+4:=by rcases I.main with⟨k,_,h,_⟩|⟨_,h⟩;rw[ig]at h;cases h;exact h
 exact T.above j ω;obtain⟨a,ha,hm,_⟩:=Tl;obtain⟨q,y,h1,h2,h3⟩:=acX i a ha hm;rcases h3 with rfl|h3;rw[Trace.g?,h1]at hg;simp at hg;exact absurd (hg.symm.trans h2) iZ;exact⟨q,by rw[Trace.g?,h1];simp[h2],h3⟩;obtain⟨s1,r1,e1⟩:=I.Ig;exact⟨⟨_,_,_,_,_,_,e1⟩,⟨_,_,_,_,_,_,hc⟩,⟨_,_,_,_,_,_,I.LH⟩⟩
def Inv.acc(I:Inv C all gs w t D cj cr gB gN):Acc (Uj (Dn C.P C.N) (C.n+4)) D:=Nn _ _ _ λi hi=>al4 _ λc hc=>by have:=I.ok i hi;unfold Ok at this;rw[hc]at this;obtain⟨_,_,_,h⟩:=this;exact h
def phase(L:Eb C)(oM:∀i,C.n<=i->i<C.n+4->C.R i=[base C.P])(I:Inv C all gs w t D cj cr gB gN)(T:Tr C t D gB gN)(hX:C.ok0 (D 0).X):∃(N:Nat)(gs':Array Goroutine)(w':World)(vh:Option (Nat×Nat))(t':Trace)(D':Nat->Pd α),runNT C.P N (crowd gs w sl) t=(.next (crowd gs' w' vh),t')/\Kept C w w' D D'/\Fin C all gs' w' t' D':=by
 have key:∀(e p:Nat)(D:Nat->Pd α),Acc (Uj (Dn C.P C.N) (C.n+4)) D->Pv C (iD D)=e->ups C (iD D)=p->∀(gs:Array Goroutine)(w:World)(sl:Option (Nat×Nat))(t:Trace)(cj cr:Bool)(gB gN:Nat),Inv C all gs w t D cj cr gB gN->Tr C t D gB gN->C.ok0 (D 0).X->∃(N:Nat)(gs':Array Goroutine)(w':World)(vh:Option (Nat×Nat))(t':Trace)(D':Nat->Pd α),runNT C.P N (crowd gs w sl) t=(.next (crowd gs' w' vh),t')/\Kept C w w' D D'/\Fin C all gs' w' t' D':=by
  intro e;induction e using Nat.strongRecOn with|_ e ihe=>
  intro p;induction p using Nat.strongRecOn with|_ p ihp=>
  intro D avY;induction avY with
  |intro D _ ihD=>
  intro he hp gs w sl t cj cr gB gN I T hX;obtain⟨i,g,d,sl1,hx,hr,aiP⟩:=crowd_pick (P:=C.P) (w:=w) (sl:=sl) I.awake I.af2;have apU:Kept C w (w.at d) D D:=wU (λ_=>rfl) rfl rfl rfl rfl;rcases afW (sl:=sl1) L oM (I.at d) T hX hx hr with⟨gs1,w1,u,D1,cj1,cr1,ayd,ayf,jm,I1,T1,apQ,ai0⟩|⟨rfl,aqc⟩;have auU:∃(N:Nat)(gs':Array Goroutine)(w':World)(vh:Option (Nat×Nat))(t':Trace)(D':Nat->Pd α),runNT C.P N (crowd gs1 w1 sl1) (t++u)=(.next (crowd gs' w' vh),t')/\Kept C w1 w' D1 D'/\Fin C all gs' w' t' D':=by
   have hX1:C.ok0 (D1 0).X:=by obtain⟨Y,hY,_⟩:=ai0.grow 0;rw[hY];exact L.app0 _ _ hX
   rcases apQ with h|⟨h1,h|⟨h2,h3⟩⟩;exact ihe _ ω _ D1 I1.acc rfl rfl gs1 w1 sl1 _ _ _ _ _ I1 T1 hX1;exact ihp _ ω D1 I1.acc ω rfl gs1 w1 sl1 _ _ _ _ _ I1 T1 hX1;exact ihD D1 h3 ω ω gs1 w1 sl1 _ _ _ _ _ I1 T1 hX1
  obtain⟨N,gs',w',vh,t',D',r1,r2,r3⟩:=auU;exact⟨N+1,gs',w',vh,t',D',by simp only[runNT,aiP,jm];exact r1,(apU.trans ai0).trans r2,r3⟩;obtain⟨gs',u,jm,ow⟩:=ZD (sl:=sl1) L aqc;exact⟨1,gs',w.at d,sl1,t++u,D,by simp only[runNT,aiP,jm],apU,ow⟩
 exact key _ _ D I.acc rfl rfl gs w sl t cj cr gB gN I T hX
end
end Ph
namespace Tp
open Go.Conc
def jk(P:Program)(Stop:Goroutine->World->Prop)(fr:Frame)(cs:List Frame)(w:World):Prop:=∃N gS wS,runN P N (lone fr cs w)=.next (solo gS wS)/\Kh gS/\Stop gS wS
section
variable{P:Program}{Stop:Goroutine->World->Prop}{fr fr' b:Frame}{cs lT:List Frame}{w w':World}{a:Act}{k:List Item}
def iw(h:Stop {frame:=fr,callers:=cs,status:=.running,dying:=none} w):jk P Stop fr cs w:=⟨0,_,w,rfl,⟨rfl,rfl⟩,h⟩
def iQ(h:step P (lone fr cs w)=.next (lone fr' lT w'))(h':jk P Stop fr' lT w'):jk P Stop fr cs w:=by obtain⟨N,gS,wS,h1,h2,h3⟩:=h';exact⟨N+1,gS,wS,by simp only[runN,h];exact h1,h2,h3⟩
def kY(h:Steps P (lone fr cs w) (lone fr' lT w'))(h':jk P Stop fr' lT w'):jk P Stop fr cs w:=by obtain⟨N,gS,wS,h1,h2,h3⟩:=h';obtain⟨n,hn⟩:=h;exact⟨n+N,gS,wS,by rw[runN_add,hn];exact h1,h2,h3⟩
def ahT{x y}(h:jk P Stop (b.at a (.code x::.code y::k)) cs w):jk P Stop (b.at a (.code (.seq x y)::k)) cs w:=iQ step_seq h
def aeg{c}(h:jk P Stop (b.at a (.code c::.inLoop c::k)) cs w):jk P Stop (b.at a (.code (.loop c)::k)) cs w:=iQ step_loop h
def mM{c}(h:jk P Stop (b.at a (.code c::.inLoop c::k)) cs w):jk P Stop (b.at a (.inLoop c::k)) cs w:=iQ step_inLoop h
def ZT{id c}(h:jk P Stop (b.at a (.code c::.inBlock id::k)) cs w):jk P Stop (b.at a (.code (.block id c)::k)) cs w:=iQ step_block h
def lU{id}(h:jk P Stop (b.at a k) cs w):jk P Stop (b.at a (.inBlock id::k)) cs w:=iQ step_inBlock h
def aee(h:jk P Stop (b.at a k) cs w):jk P Stop (b.at a (.code .skip::k)) cs w:=iQ step_skip h
def aeh{id k'}(hk:exitTo id k=some k')(h:jk P Stop (b.at a k') cs w):jk P Stop (b.at a (.code (.exit id)::k)) cs w:=iQ (step_exit hk) h
def aej{c x y t}(hc:a.eval c=.bool t)(h:jk P Stop (b.at a (.code (if t then x else y)::k)) cs w):jk P Stop (b.at a (.code (.cond c x y)::k)) cs w:=iQ (step_cond hc) h
def iW(h:∀τ n,jk P Stop fr cs (w.re τ n)):I3 P Stop {frame:=fr,callers:=cs,status:=.running,dying:=none} w:=h
def iS{ops}(h:jk P Stop (b.at a k) cs w):jk P Stop (b.at a (.inRegion ops []::k)) cs w:=iQ step_region_end h
def sC{o}(h:o.guard=none) y:Region.wanted o y=true:=by unfold Region.wanted;rw[h]
def o8{ops i rest o v}(ho:ops[i]? =some o)(hg:o.guard=none)(hr:(execOp a.eval o).run P w=.ok (.value v) w')(h:jk P Stop (b.at (a.put o.dst v) (.inRegion ops rest::k)) cs w'):jk P Stop (b.at a (.inRegion ops (i::rest)::k)) cs w:=by
 have hf:(b.at a (.inRegion ops (i::rest)::k)).finish v=b.at (a.put o.dst v) (.inRegion ops rest::k):=by rw[Frame.finish_at,ho];rfl
 have hs:step P (lone (b.at a (.inRegion ops (i::rest)::k)) cs w)=.next (lone ((b.at a (.inRegion ops (i::rest)::k)).finish v) cs w'):=step_lone_go (by rw[stepG_op ho (sC hg _)];unfold stepG.apply;simp only[if_true,Sem.runT_eq,hr];rfl);rw[hf]at hs;exact iQ hs h
end
end Tp
namespace Tp
open Go.Conc
abbrev mL(fr:Frame)(cs:List Frame):Goroutine:={frame:=fr,callers:=cs,status:=.running,dying:=none}
def Fit(a:Goroutine):Prop:=Ld a/\a.dying=none
def mn(P:Program)(Stop:Goroutine->World->Prop)(a:Goroutine)(w:World):Prop:=Fit a->∀τ n,Ih P (λg u=>Fit g/\Stop g u) a (w.re τ n)
section
variable{P:Program}{Stop Hq:Goroutine->World->Prop}{a:Goroutine}{w:World}
def mn.re(h:mn P Stop a w) τ n:mn P Stop a (w.re τ n):=λhf τ' n'=>h hf τ' n'
def mn.self(h:mn P Stop a w)(hf:Fit a):Ih P (λg u=>Fit g/\Stop g u) a w:=h hf w.tape w.drawn
theorem mn.stop(hS:∀τ n,Stop a (w.re τ n)):mn P Stop a w:=λhf τ n=>.stop ⟨hf,hS τ n⟩
def mn.trans(h:mn P Stop a w)(h':∀a' w',Stop a' w'->mn P Hq a' w'):mn P Hq a w:=λhf τ n=>(h hf τ n).trans λa' w' s=>(h' a' w' s.2).self s.1
theorem UT(hB:iT P):∀N {g gS:Goroutine}{w wS:World},Fit g->runN P N (solo g w)=.next (solo gS wS)->Kh gS->Fit gS
 |0,g,gS,w,wS,hf,hr,_=>by injection hr with hr;obtain⟨rfl,rfl⟩:=pt hr;exact hf
 |N+1,g,gS,w,wS,hf,hr,hg=>by obtain⟨g',w',ops,k,h1,h2,_,h4⟩:=BP hB hf.1 hf.2 hr hg;exact UT hB N ⟨h1,h2⟩ h4 hg
def iH(hB:iT P)(h:I3 P (mn P Stop) a w):mn P Stop a w:=λhf τ n=>by
 have h1:I3 P (λg u=>Fit g/\mn P Stop g u) a (w.re τ n):=λτ' n'=>by obtain⟨N,gS,wS,h1,h2,h3⟩:=h τ' n';exact⟨N,gS,wS,h1,h2,UT hB N hf h1 h2,h3⟩
 have h2:Ih P (λg u=>Fit g/\mn P Stop g u) a (w.re τ n):=P7 hB (λg u τ n h=>⟨h.1,h.2.re τ n⟩) hf.1 hf.2 h1;exact h2.trans λa' w' s=>s.2.self s.1
def uA(hB:iT P){fr cs}(h:∀τ n,∃fr' lT w',Steps P (lone fr cs (w.re τ n)) (lone fr' lT w')/\mn P Stop (mL fr' lT) w'):mn P Stop (mL fr cs) w:=iH hB λτ n=>by obtain⟨fr',lT,w',⟨N,h1⟩,h2⟩:=h τ n;exact⟨N,mL fr' lT,w',h1,⟨rfl,rfl⟩,h2⟩
end
def kQ(P:Program)(f:FuncId)(args:Array Value)(w:World)(R:Value->World->Prop):Prop:=∀(c:Frame)(cs:List Frame)(Stop:Goroutine->World->Prop),(∀v w',R v w'->mn P Stop (mL (c.finish v) cs) w')->mn P Stop (mL (Frame.enter P f args .normal) (c::cs)) w
section
variable{P:Program}{Q Q':Exit->Act->World->Prop}{a:Act}{w:World}
def kQ.mono{f args R R'}(h:kQ P f args w R)(hr:∀v w',R v w'->R' v w'):kQ P f args w R':=λc cs Stop K=>h c cs Stop λv w' r=>K v w' (hr v w' r)
def nY(hB:iT P){f args R}(h:∀τ n,Calls P f args (w.re τ n) λ|.returned v,w'=>R v w'|_,_=>False):kQ P f args w R:=λc cs Stop K=>by refine uA hB λτ n=>?_;obtain⟨e,w',fr,hR,hc,_,hl⟩:=h τ n (c::cs);cases e with|returned v=>exact⟨_,_,w',Steps.trans hc (.one (step_leave_returned hl)),K v w' hR⟩|panicked _=>exact hR.elim|outgrown=>exact hR.elim
end
end Tp
namespace Ph
open Go.Conc Rn
open Go.ConcN (sumTo upd sumTo_upd upd_ne upd_same le_sumTo fork_knows)
open Tp (jN Term Ld Ih mn ny)
variable{α:Type}
structure Setup(α:Type) where
 P:Program
 E:Env
 Sh:Nat->Prop
 N:Net α
 cs:List Frame
 fw:FuncId
 ff:FuncId
 aw:Array Value
 af:Array Value
 all:List α
 g0:Goroutine
 gw:Goroutine
 gf:Goroutine
 v0:World
 vw:World
 vf:World
 vn:World
 X0:List Nat
 Xw:List Nat
 Xf:List Nat
def Setup.cfg(S:Setup α)(n:Nat):pJ α:=⟨S.P,S.E,S.Sh,S.N,n,λi=>if i=0 then S.cs else [base S.P],λi=>if i<n+3 then S.fw else S.ff,λi=>if i<n+3 then S.aw else S.af,λX=>∃Y,X=S.X0++Y,S.all.length⟩
def Setup.D(S:Setup α)(n:Nat)(q:Nat->Nat)(i:Nat):Pd α:=if i=0 then⟨.live (.spawn 0),S.g0,S.v0,S.X0⟩else if i<n then⟨.old 0 (q i),S.g0,S.vn,[]⟩else if i<n+3 then⟨.jd .iC,S.gw,S.vw,S.Xw⟩else if i=n+3 then⟨.jd (.feed S.all),S.gf,S.vf,S.Xf⟩else⟨.old 0 0,S.g0,S.vn,[]⟩
def started(P:Program)(f:FuncId)(a:Array Value):Goroutine:={frame:=Frame.enter P f a .deferred,callers:=[base P],status:=.running,dying:=none}
structure aet(S:Setup α)(a:Goroutine)(w:World):Prop where
 law:∀n,Eb (S.cfg n)
 gr0:GR S.P S.E S.X0 S.cs S.g0 a
 air:Term S.P (S.N.Stop (.spawn 0)) S.g0 S.v0
 grw:GR S.P S.E S.Xw [base S.P] S.gw (started S.P S.fw S.aw)
 aip:Term S.P (S.N.Stop .iC) S.gw S.vw
 grf:GR S.P S.E S.Xf [base S.P] S.gf (started S.P S.ff S.af)
 aiq:Term S.P (S.N.Stop (.feed S.all)) S.gf S.vf
 wr0:WR S.E S.Sh S.X0 (S.v0.re w.tape w.drawn) w
 wrw:WR S.E S.Sh S.Xw (S.vw.re w.tape w.drawn) w
 wrf:WR S.E S.Sh S.Xf (S.vf.re w.tape w.drawn) w
 wrn:WR S.E S.Sh [] (S.vn.re w.tape w.drawn) w
 d0w:∀b∈S.X0,b∈S.Xw->S.Sh b
 d0f:∀b∈S.X0,b∈S.Xf->S.Sh b
 dww:∀b∈S.Xw,S.Sh b
 Ig:∃s r,w.heap[S.N.J]? =some (.chan 0 #[] false s r false)
 IW:∃s r,w.heap[S.N.R]? =some (.chan 0 #[] false s r false)
 LH:w.heap[S.N.D]? =some (.chan 3 #[] false 0 0 false)
 ne:S.N.J≠S.N.R/\S.N.J≠S.N.D/\S.N.R≠S.N.D
def ajt(S:Setup α)(w:World)(a':Goroutine)(w':World):Prop:=∃(iP:List α)(X:List Nat)(g:Goroutine)(v:World)(Xf:List Nat)(gf:Goroutine)(vf:World),GR S.P S.E X S.cs (Go.Conc.served g (.tuple #[S.N.zR,.bool false])) a'/\a'.offers=none/\S.N.A (.iq iP) g v/\(∀p,iP.countP p=S.all.countP p)/\WR S.E S.Sh X (v.re w'.tape w'.drawn) w'/\(∃Y,X=S.X0++Y/\∀b∈Y,w.heap.size<=b)/\S.N.A .jV gf vf/\WR S.E S.Sh Xf (vf.re w'.tape w'.drawn) w'/\(∃Y,Xf=S.Xf++Y)/\w.heap.size<=w'.heap.size/\(∀b,b<w.heap.size->b≠S.N.J->b≠S.N.R->b≠S.N.D->((b∉S.X0/\b∉S.Xw/\b∉S.Xf)∨S.Sh b)->w'.heap[b]? =w.heap[b]?)/\w'.os=w.os/\w'.output=w.output/\w'.tape=w.tape
def aa1{f m j}(hj:j<m)(h:∀i,i<m->i≠j->f i=0):sumTo m f=f j:=by
 have e1:sumTo m f=sumTo m (λi=>if i=j then f j else 0):=sumTo_congr m λi hi=>by by_cases h0:i=j;subst h0;rw[if_pos rfl];rw[if_neg h0];exact h i hi h0
 have e2:=AN (f:=λ_=>0) (g:=λi=>if i=j then f j else 0) (m:=m) (i:=j) hj (λk hk=>if_neg hk);exact t052
theorem EI{f}:∀ {m:Nat},(∀i,i<m->f i=0)->sumTo m f=0
 |0,_=>rfl|m+1,h=>by show sumTo m f+f m=0;rw[EI (λi hi=>h i ω),h m ω]
section
variable{S:Setup α}{a:Goroutine}{w:World}{gs:Array Goroutine}{t:Trace}{q:Nat->Nat}
def Setup.cases(S:Setup α) n q{i}(hi:i<n+4){p:Pd α->Prop}(h0:i=0->p ⟨.live (.spawn 0),S.g0,S.v0,S.X0⟩)(h1:0<i->i<n->p ⟨.old 0 (q i),S.g0,S.vn,[]⟩)(h2:n<=i->i<n+3->p ⟨.jd .iC,S.gw,S.vw,S.Xw⟩)(h3:i=n+3->p ⟨.jd (.feed S.all),S.gf,S.vf,S.Xf⟩):p (S.D n q i):=by unfold Setup.D;split;exact h0 ‹_›;split;exact h1 ω ‹_›;split;exact h2 ω ‹_›;split;exact h3 ‹_›;omega
def XZ(h:aet S a w)(h0:gs[0]? =some a)(hL:Leavers S.P t gs q):Inv (S.cfg gs.size) S.all gs w t (S.D gs.size q) false false 0 0:=by
 have hp:0<gs.size:=(ae.1 h0).1;have pE:=λ(i:Nat) (hi:i<gs.size+4) (p:Pd α->Prop)=>@Setup.cases α S gs.size q i hi p;refine⟨hp,λi hi=>?_,by show gs.size<=gs.size+4;omega,λi hi=>?_,λi j hi hj qG b=>?_,.inl ⟨0,by omega,?_,rfl⟩,h.Ig,h.IW,?_,h.ne,?_⟩;refine pE i hi (λd=>Ok (S.cfg gs.size) t i gs[i]? d) ?_ ?_ ?_ ?_;rintro rfl;exact⟨a,h0,h.gr0,h.air⟩;intro h1 h2;refine⟨⟨gs[i],Array.getElem?_eq_getElem h2,hL.old i _ h1 (Array.getElem?_eq_getElem h2)⟩,λe=>by cases e⟩;intro h1 h2;have e:i≠0:=by omega
 refine⟨aI ω,if_neg e,?_,h.aip⟩;show GR S.P S.E S.Xw (if i=0 then S.cs else [base S.P]) S.gw (started S.P (if i<gs.size+3 then S.fw else S.ff) (if i<gs.size+3 then S.aw else S.af));rw[if_neg e,if_pos h2,if_pos h2];exact h.grw;intro h3;have e:i≠0:=by omega
 have e2:¬i<gs.size+3:=ω;refine⟨aI ω,if_neg e,?_,h.aiq⟩;show GR S.P S.E S.Xf (if i=0 then S.cs else [base S.P]) S.gf (started S.P (if i<gs.size+3 then S.fw else S.ff) (if i<gs.size+3 then S.aw else S.af));rw[if_neg e,if_neg e2,if_neg e2];exact h.grf;exact pE i hi (λd=>oC (S.cfg gs.size) w d) (λ_=>h.wr0) (λ_ _=>h.wrn) (λ_ _=>h.wrw) (λ_=>h.wrf);show b∈(S.D gs.size q i).X->b∈(S.D gs.size q j).X->S.Sh b;refine pE i hi (λd=>b∈d.X->b∈(S.D gs.size q j).X->S.Sh b) ?_ ?_ ?_ ?_;intro kV hb;refine pE j hj (λd=>b∈d.X->S.Sh b) (λhj0=>absurd (kV.trans hj0.symm) qG) (λ_ _ hb=>by cases hb) (λ_ _=>h.d0w b hb) (λ_=>h.d0f b hb);intro _ _ hb;cases hb;intro _ _ hb _;exact h.dww b hb;intro hi3 hb;refine pE j hj (λd=>b∈d.X->S.Sh b) (λ_ sB=>h.d0f b sB hb) (λ_ _ hb=>by cases hb) (λ_ _ sB=>h.dww b sB) (λhj3=>absurd (hi3.trans hj3.symm) qG);show(S.D gs.size q 0).st=_;unfold Setup.D;rw[if_pos rfl];show w.heap[S.N.D]? =some (.chan 3 (Array.replicate (0-0) S.N.dv) false 0 0 false);exact h.LH;have hn:(S.cfg gs.size).n=gs.size:=rfl;refine⟨λi hi=>?_,λp=>?_,ν,?_,λi hi=>?_,λi j hi hj=>?_,λi j hi hj=>?_,λi k hi=>?_,ν⟩;unfold pJ.rl;rw[hn];refine pE i hi (λd=>d.st.role=if i=0 then 3 else if i<gs.size then 0 else if i<gs.size+3 then 1 else 2) ?_ ?_ ?_ ?_;intro e;rw[if_pos e];rfl;intro e1 e2;rw[if_neg ω,if_pos e2];rfl;intro e1 e2;rw[if_neg ω,if_neg ω,if_pos e2];rfl;intro e;rw[if_neg ω,if_neg ω,if_neg ω];rfl;have hj:gs.size+3<gs.size+4:=by omega
 refine(aa1 (j:=gs.size+3) hj λi hi iZ=>?_).trans ?_;refine pE i hi (λd=>d.st.tok p=0) (λ_=>rfl) (λ_ _=>rfl) (λ_ _=>rfl) (λe=>absurd e iZ);refine pE _ hj (λd=>d.st.tok p=S.all.countP p) (λe=>by omega) aHp aHp (λ_=>rfl);refine(EI λi hi=>?_).symm;refine pE i hi (λd=>d.st.said=0) (λ_=>rfl) (λ_ _=>rfl) (λ_ _=>rfl) (λ_=>rfl);refine pE i hi (λd=>lV false false 0 d.st) (λ_=>trivial) (λ_ _=>trivial) (λ_ _=>rfl) (λ_=>⟨rfl,rfl,rfl⟩);refine pE i hi (λd=>d.st=.iA .iC->_) ?_ ?_ ?_ ?_<;>(intros;simp_all);intro a g;refine pE i hi (λd=>d.st=.iA (.jh a)->_) ?_ ?_ ?_ ?_<;>(intros;simp_all);refine pE i hi (λd=>d.st=.iA (.iK k)->_) ?_ ?_ ?_ ?_<;>(intros;simp_all)
def aa6(h0:gs[0]? =some a)(hL:Leavers S.P t gs q)(hP:ny t):Tr (S.cfg gs.size) t (S.D gs.size q) 0 0:=by
 have hp:0<gs.size:=(ae.1 h0).1;have pE:=λ(i:Nat) (hi:i<gs.size+4) (p:Pd α->Prop)=>@Setup.cases α S gs.size q i hi p;have gV:∀i,(S.cfg gs.size).na i->i<gs.size+4:=λi hi=>by rcases hi with rfl|⟨_,hi⟩;omega;exact hi
 refine⟨hP.clean,λp a ha hm=>.inl λi hi hu=>?_,λi hi _=>?_,λi q' hi=>?_,λq'=>?_,λj hj=>hL.above j (by have:(S.cfg gs.size).n=gs.size:=rfl;omega)⟩;have:i=0:=by revert hu;refine pE i (gV i hi) (λd=>(∀c,d.st≠.jd c)->i=0) (λe _=>e) (λe1 e2 _=>?_) (λ_ _ hu=>absurd rfl (hu _)) (λ_ hu=>absurd rfl (hu _));rcases hi with hi|⟨hi,_⟩;exact hi;have:(S.cfg gs.size).n=gs.size:=rfl;omega
 subst this;exact hP.known p a ha hm;rcases hi with rfl|⟨hi,_⟩;exact hP.hears;exact hL.above i hi;refine pE i hi (λd=>d.st=.old 1 q'->_) ?_ ?_ ?_ ?_<;>(intros;simp_all);refine pE (gs.size+3) ω (λd=>d.st=.old 2 q'->_) ?_ ?_ ?_ ?_<;>(intros;simp_all)
def ZR(h:aet S a w):Ih S.P (ajt S w) a w:=by
 intro gs sl t q h0 hL hP;have hp:0<gs.size:=(ae.1 h0).1;have oM:∀i,(S.cfg gs.size).n<=i->i< (S.cfg gs.size).n+4->(S.cfg gs.size).R i=[base (S.cfg gs.size).P]:=λi hi _=>by have:(S.cfg gs.size).n=gs.size:=rfl;exact if_neg ω
 obtain⟨N,gs',w',vh,t',D',jm,hk,hf⟩:=phase (sl:=sl) (h.law gs.size) oM (XZ h h0 hL) (aa6 h0 hL hP) ⟨[],by unfold Setup.D;rw[if_pos rfl];exact(aO _).symm⟩;obtain⟨iP,a',h1,h2,h2o,h3,h4⟩:=hf.start;obtain⟨q',hq'⟩:=hf.leave;have hz:(0:Nat)<gs.size+4:=ω;have hf3:gs.size+3<gs.size+4:=ω;have e0:(S.D gs.size q 0).X=S.X0:=by unfold Setup.D;rw[if_pos rfl]
 have e3:(S.D gs.size q (gs.size+3)).X=S.Xf:=by refine S.cases gs.size q hf3 (p:=λd=>d.X=S.Xf) (λe=>by omega) aHp aHp (λ_=>rfl)
 obtain⟨Y,hY,hY2⟩:=hk.grow 0;obtain⟨Z,hZ,_⟩:=hk.grow (gs.size+3);rw[e0]at hY;rw[e3]at hZ;have s0:WR S.E S.Sh (D' 0).X ((D' 0).v.re w'.tape w'.drawn) w':=hf.AU 0 hz;have s3:WR S.E S.Sh (D' (gs.size+3)).X ((D' (gs.size+3)).v.re w'.tape w'.drawn) w':=hf.AU (gs.size+3) hf3;refine⟨N,gs',a',w',vh,t',q',jm,h1,hq',hf.at3,iP,(D' 0).X,(D' 0).g,(D' 0).v,(D' (gs.size+3)).X,(D' (gs.size+3)).g,(D' (gs.size+3)).v,h2,h2o,h3,h4,s0,⟨Y,hY,hY2⟩,hf.alY,s3,⟨Z,hZ⟩,hk.size,λb hb n1 n2 n3 hx=>?_,hk.os,hk.output,hk.tape⟩;refine hk.heap b hb n1 n2 n3 (hx.imp (λhx i hi=>?_) id);exact S.cases gs.size q hi (p:=λd=>b∉d.X) (λ_=>hx.1) (λ_ _=>by simp) (λ_ _=>hx.2.1) (λ_=>hx.2.2)
end
end Ph
def t076{p:Prop}(h:p:=by obtain⟨a',tK,hq,ig⟩:=ih _ _ h;refine⟨a',tK,hq,.head (step_lone_go ?_) ig⟩;rw[hg,<-ow];simp[stepG.apply,hr]):p:=h
namespace Tp
open Go.Conc
def sr(ops:Array Oper)(p:List Nat->Bool):Nat->Array Bool->List Nat->Bool
 |0,_,acc=>p acc.reverse|fuel+1,listed,acc=>match Region.ready .any ops listed with
  |[]=>p acc.reverse
  |x::r=>(x::r).all λi=>sr ops p fuel (listed.setIfInBounds i true) (i::acc)
theorem Ke{ops p}:∀fuel t listed acc,sr ops p fuel listed acc=true->p (Region.linearise.go .any ops fuel t listed acc)=true
 |0,t,listed,acc,h=>h|fuel+1,t,listed,acc,h=>by
  simp only[Region.linearise.go];change p (match(Region.ready .any ops listed)[t % (Region.ready .any ops listed).length]? with
   |some i=>Region.linearise.go .any ops fuel (t/(Region.ready .any ops listed).length) (listed.setIfInBounds i true) (i::acc)
   |none=>acc.reverse)=true
  unfold sr at h;cases hr:Region.ready .any ops listed with|nil=>rw[hr]at h;exact h|cons x r=>rw[hr]at h;cases hi:(x::r)[t % (x::r).length]? with|none=>have gV:t % (x::r).length< (x::r).length:=eD _ ζ;rw[List.getElem?_eq_none_iff]at hi;omega|some i=>dsimp only at h|-;rw[List.all_eq_true]at h;exact Ke fuel _ _ _ (h i (List.mem_of_getElem? hi))
def Ji{P:Program}{ops p}(hm:P.follows .mixedOrders=true)(h:sr ops p ops.size (Array.replicate ops.size false) []=true) t:p (Region.schedule (P.follows .mixedOrders) ops t)=true:=by simp only[Region.schedule,hm,eY,if_true];exact Ke ops.size t _ _ h
def lastB(s:Nat)(l:List Nat):Bool:=l.getLast?==some s&& !l.dropLast.contains s
def Gm{s l}(h:lastB s l=true):∃l1,l=l1++[s]/\s∉l1:=by unfold lastB at h;rw[Bool.and_eq_true,beq_iff_eq,Bool.not_eq_true',<-Bool.not_eq_true,List.contains_iff_mem]at h;obtain⟨l1,rfl⟩:=List.getLast?_eq_some_iff.1 h.1;exact⟨l1,rfl,by simpa using h.2⟩
def Rk{ops vB}(hs:vB.size=ops.size)(ha:∀i:Nat,(vB[i]?).map (λo:Oper=>o.after)=(ops[i]?).map (λo:Oper=>o.after)) listed:Region.ready .any vB listed=Region.ready .any ops listed:=by
 unfold Region.ready;rw[hs];refine eN λi _=>?_;have h:=ha i;cases h1:vB[i]? with
 |none=>rw[h1]at h;cases h2:ops[i]? with|none=>rfl|some o=>rw[h2]at h;cases h
 |some o'=>rw[h1]at h;cases h2:ops[i]? with
 |none=>rw[h2]at h;cases h
 |some o=>rw[h2]at h;have:o'.after=o.after:=aA h;simp only[Option.map_some,this]
theorem go_same{ops vB}(hs:vB.size=ops.size)(ha:∀i:Nat,(vB[i]?).map (λo:Oper=>o.after)=(ops[i]?).map (λo:Oper=>o.after)):∀fuel t listed acc,Region.linearise.go .any vB fuel t listed acc=Region.linearise.go .any ops fuel t listed acc
 |0,_,_,_=>rfl|fuel+1,t,listed,acc=>by
  simp only[Region.linearise.go];change (match(Region.ready .any vB listed)[t % (Region.ready .any vB listed).length]? with
   |some i=>Region.linearise.go .any vB fuel (t/(Region.ready .any vB listed).length) (listed.setIfInBounds i true) (i::acc)
   |none=>acc.reverse)=(match(Region.ready .any ops listed)[t % (Region.ready .any ops listed).length]? with
   |some i=>Region.linearise.go .any ops fuel (t/(Region.ready .any ops listed).length) (listed.setIfInBounds i true) (i::acc)
   |none=>acc.reverse)
  rw[Rk hs ha];cases(Region.ready .any ops listed)[t % (Region.ready .any ops listed).length]? with|none=>rfl|some i=>exact go_same hs ha fuel _ _ _
def yu{P:Program}{ops vB}(hm:P.follows .mixedOrders=true)(hs:vB.size=ops.size)(ha:∀i:Nat,(vB[i]?).map (λo:Oper=>o.after)=(ops[i]?).map (λo:Oper=>o.after)) t:Region.schedule (P.follows .mixedOrders) vB t=Region.schedule (P.follows .mixedOrders) ops t:=by simp only[Region.schedule,hm,eY,if_true];unfold Region.linearise;rw[hs];exact go_same hs ha _ _ _ _
section
variable{P:Program}{ops vB:Array Oper}{Q:Exit->Act->World->Prop}
theorem sY(hQ:∀e a w,Q e a w->e=.normal):∀l a w,wpOps P ops Q l a w->∀r (b:Frame)(k)(cs),∃a' w',Q .normal a' w'/\Steps P (lone (b.at a (.inRegion ops (l++r)::k)) cs w) (lone (b.at a' (.inRegion ops r::k)) cs w')
 |[],a,w,h,r,b,k,cs=>⟨a,w,h,.refl _ _⟩|i::l,a,w,h,r,b,k,cs=>by
  have ih:=λa w h=>sY hQ l a w h r b k cs;rw[aU];simp only[wpOps]at h;cases ho:ops[i]? with
  |none=>simp only[ho]at h;obtain⟨a',w',hq,ig⟩:=ih a w h;have hs:=step_op_skip (P:=P) (b:=b) (a:=a) (k:=k) (cs:=cs) (w:=w) (ops:=ops) (i:=i) (rest:=l++r) (by simp[ho]);simp only[ho,Option.bind_none,Act.put]at hs;exact⟨a',w',hq,.head hs ig⟩
  |some o=>
  simp only[ho]at h;by_cases hw:Region.wanted o (yielded ops a.tmps)=true
  ·simp only[hw,if_true]at h;rcases h with h|⟨_,axl,atO,hq⟩;case inr=>have:=hQ _ _ _ hq;cases this
   simp only[Oper.wp,Oper.upon]at h;have hg:=stepG_op (P:=P) (b:=b) (k:=k) (cs:=cs) (w:=w) (rest:=l++r) ho hw;have ow:∀v,(b.at a (.inRegion ops (i::(l++r))::k)).finish v=b.at (a.put o.dst v) (.inRegion ops (l++r)::k):=by intro v;rw[Frame.finish_at,ho];rfl
   split at h;rename_i v w' hr;exact t076;rename_i w' hr;exact t076;rename_i d w' hr;obtain⟨a',tK,hq,ig⟩:=ih _ _ h;refine⟨a',tK,hq,.head (step_lone_go ?_) ig⟩;have:({b.at a (.inRegion ops (i::(l++r))::k)with defers:=d::a.defers}:Frame).finish undef =
     b.at ({a with defers:=d::a.defers}.put o.dst undef) (.inRegion ops (l++r)::k):=by
    have:=Frame.finish_at b {a with defers:=d::a.defers} ops i (l++r) k undef
    rw[ho]at this;exact this
   rw[hg];simp only[stepG.apply,Sem.runT_eq,hr,GStep.bare_after];exact congrArg (λfr=>GStep.go {frame:=fr,callers:=cs,status:=.running,dying:=none} w') this;rename_i f args w' hr;obtain⟨e,tK,fr,hR,SV,_,alf⟩:=h (b.at a (.inRegion ops (i::(l++r))::k)::cs);have Tj:step P (lone (b.at a (.inRegion ops (i::(l++r))::k)) cs w)=.next (lone (Frame.enter P f args .normal) (b.at a (.inRegion ops (i::(l++r))::k)::cs) w'):=
    step_lone_go (by rw[hg];simp[stepG.apply,hr,Frame.at])
   cases e with
   |returned v=>obtain⟨a',ajx,hq,ig⟩:=ih _ _ hR;refine⟨a',ajx,hq,.head Tj (Steps.trans SV (.head ?_ ig))⟩;rw[<-ow];exact step_leave_returned alf
   |panicked chain=>have:=hQ _ _ _ hR;cases this
   |outgrown=>obtain⟨axl,atO,hq⟩:=hR;have:=hQ _ _ _ hq;cases this
   rename_i row args w' hr;obtain⟨v,tK,hR,SV⟩:=h (b.at a (.inRegion ops (i::(l++r))::k)) cs;have Tj:step P (lone (b.at a (.inRegion ops (i::(l++r))::k)) cs w)=.next (lone (Frame.ofRow P row args .normal) (b.at a (.inRegion ops (i::(l++r))::k)::cs) w'):=
    step_lone_go (by rw[hg];simp[stepG.apply,hr,Frame.at])
   obtain⟨a',ajx,hq,ig⟩:=ih _ _ hR;exact⟨a',ajx,hq,.head Tj (Steps.trans (by rw[<-ow];exact SV) ig)⟩;have:=hQ _ _ _ h;cases this;exact h.elim
  simp only[hw,if_false,Bool.false_eq_true]at h;obtain⟨a',w',hq,ig⟩:=ih _ _ h;have hs:=step_op_skip (P:=P) (b:=b) (a:=a) (k:=k) (cs:=cs) (w:=w) (ops:=ops) (i:=i) (rest:=l++r) (by simp[ho];simpa using hw);simp only[ho,dY]at hs;exact⟨a',w',hq,.head hs ig⟩
def TF(o:Oper):Oper:={o with op:=.move (.const undef),dst:=none}
def oy(ops:Array Oper)(s:Nat):Array Oper:=match ops[s]? with
 |some o=>ops.setIfInBounds s (TF o)
 |none=>ops
def V9{s j}(h:j≠s):(oy ops s)[j]? =ops[j]?:=by unfold oy;split;rw[ah (aG h)];rfl
def BV s:(oy ops s).size=ops.size:=by unfold oy;split<;>simp
def yP(s i:Nat):((oy ops s)[i]?).map (λo:Oper=>o.after)=(ops[i]?).map (λo:Oper=>o.after):=by by_cases h:i=s;subst h;unfold oy;split;rename_i o ho;have gV:i<ops.size:=(ae.1 ho).1;rw[aj gV,ho];rfl;rfl;rw[V9 h]
def Vk(ops:Array Oper):Prop:=∀(i:Nat) o,ops[i]? =some o->o.guard=none
def nj(ops:Array Oper):Bool:=ops.toList.all λo=>o.guard.isNone
def vG(h:nj ops=true):Vk ops:=λi o ho=>by unfold nj at h;rw[List.all_eq_true]at h;have:=h o (by simpa using Array.mem_of_getElem? ho);simpa using this
theorem tN{s o}(hg:Vk ops)(ho:ops[s]? =some o)(hQ:∀e a w,Q e a w->e=.normal):∀l a w,s∉l->wpOps P (oy ops s) Q (l++[s]) a w->wpOps P ops Q l a w
 |[],a,w,_,h=>by
  have gV:s<ops.size:=(ae.1 ho).1;have hf:(oy ops s)[s]? =some (TF o):=by unfold oy;rw[ho];exact aj gV
  rw[aX]at h;simp only[wpOps,hf]at h;rw[sC (show(TF o).guard=none from hg s o ho)]at h;simp only[if_true]at h;rcases h with h|⟨_,_,_,hq⟩;exact h;have:=hQ _ _ _ hq;cases this
 |i::l,a,w,hs,h=>by rw[aU]at h;have hi:i≠s:=λe=>hs (by rw[e];exact aH);have ih:=λa w=>tN hg ho hQ l a w (λhm=>hs (aF _ hm));simp only[wpOps,V9 hi]at h|-;cases Ta:ops[i]? with|none=>simp only[Ta]at h|-;exact ih a w h|some oi=>simp only[Ta]at h|-;rw[sC (hg i oi Ta)]at h|-;simp only[if_true]at h|-;rcases h with h|⟨h1,h2⟩;exact .inl (Oper.wp_mono ih h);exact .inr ⟨h1,h2⟩
def ED{S}(hm:P.follows .mixedOrders=true){a w}(h:wpAnyH P .any ops Q S ops.size (Array.replicate ops.size false) a w) t:wpOps P ops Q (Region.schedule (P.follows .mixedOrders) ops t) a w:=by simp only[Region.schedule,hm,eY,if_true];exact wpAny_sound ops.size t _ a _ (wpAny_of_held _ _ _ _ h)
def Fc{S id s o}(hm:P.follows .mixedOrders=true)(hl:sr ops (lastB s) ops.size (Array.replicate ops.size false) []=true)(hg:nj ops=true)(ho:ops[s]? =some o)(hQ:∀e a w,Q e a w->e=.normal){a w} (h:wpAnyH P .any (oy ops s) Q S (oy ops s).size (Array.replicate (oy ops s).size false) a {w with drawn:=w.drawn+1}) (b:Frame) k cs:∃a' w',Q .normal a' w'/\Steps P (lone (b.at a (.code (.region id ops true)::k)) cs w) (lone (b.at a' (.inRegion ops [s]::k)) cs w'):=by have h1:=ED hm h (w.tape w.drawn (.order b.fn id));rw[yu hm (BV s) (yP s)]at h1;obtain⟨l,hls,hs⟩:=Gm (Ji hm hl (w.tape w.drawn (.order b.fn id)));have ig:=step_region_draw (P:=P) (b:=b) (a:=a) (k:=k) (cs:=cs) (w:=w) (ops:=ops) (id:=id);rw[hls]at h1 ig;obtain⟨a',w',hq,h2⟩:=sY hQ l a _ (tN (vG hg) ho hQ l a _ hs h1) [s] b k cs;exact⟨a',w',hq,.head ig h2⟩
def Np{id s r}(hr:List.range ops.size=List.range s++r)(hQ:∀e a w,Q e a w->e=.normal){a w}(h:wpOps P ops Q (List.range s) a w)(b:Frame) k cs:∃a' w',Q .normal a' w'/\Steps P (lone (b.at a (.code (.region id ops false)::k)) cs w) (lone (b.at a' (.inRegion ops r::k)) cs w'):=by have ig:=step_region (P:=P) (b:=b) (a:=a) (k:=k) (cs:=cs) (w:=w) (ops:=ops) (id:=id);rw[hr]at ig;obtain⟨a',w',hq,h2⟩:=sY hQ _ a w h r b k cs;exact⟨a',w',hq,.head ig h2⟩
def uH(K:Act->World->Prop):Exit->Act->World->Prop
 |.normal,a,w=>K a w|_,_,_=>False
def sZ{K}:∀e a w,uH K e a w->e=.normal:=λe a w h=>by cases e<;>first|rfl|exact h.elim
end
end Tp
namespace Ph
open Go.Conc Rn
def Ue{P} off:QuitsD P 1 0 ⟨base P,[],.running,none,off⟩:=by
 refine .inr ⟨rfl,⟨base P,[],.finished,none,none⟩,#[],by simp,λw=>?_,⟨rfl,rfl⟩⟩;have e1:stepG P false ⟨base P,[],.running,none,off⟩ w=unwind P false (base P) [] none w:=rfl;rw[e1];unfold unwind;have h1:(base P).defers=[]:=rfl;have h2:(base P).mode=.panicking [goexitEntry]:=rfl;have h3:(base P).catches P=false:=by unfold Frame.catches;have:(base P).todo=[]:=rfl;rw[this];split<;>first|rfl|(rename_i h;cases h)
 simp only[h1,h2,h3];rfl
def RI{P fr fn ops off}(hf:P.funcs[fr.fn]? =some fn)(hr:fn.results=#[])(hm:fr.mode=.run)(ht:fr.todo=[.inRegion ops []])(hd:fr.defers=[])(uW:fr.roundOf=none)(hk:fr.kind=.deferred):QuitsD P 4 0 ⟨fr,[base P],.running,none,off⟩:=by
 refine .inr ⟨rfl,⟨{fr with todo:=[]},[base P],.running,none,none⟩,#[],by simp,λw=>?_,?_⟩;have e1:stepG P false ⟨fr,[base P],.running,none,off⟩ w=stepG.exec P false true fr [base P] none w:=by unfold stepG;simp only[hm]
 rw[e1];unfold stepG.exec;simp only[ht];refine .inr ⟨rfl,⟨{fr with todo:=[],mode:=.returning},[base P],.running,none,none⟩,#[],by simp,λw=>?_,?_⟩;have e1:stepG P false ⟨{fr with todo:=[]},[base P],.running,none,none⟩ w=stepG.exec P false true {fr with todo:=[]} [base P] none w:=by unfold stepG;simp only[hm]
 rw[e1];unfold stepG.exec;simp only[uW];rfl;refine .inr ⟨rfl,⟨base P,[],.running,none,none⟩,#[],by simp,λw=>?_,Ue none⟩;have e1:stepG P false ⟨{fr with todo:=[],mode:=.returning},[base P],.running,none,none⟩ w=unwind P false {fr with todo:=[],mode:=.returning} [base P] none w:=rfl;rw[e1];unfold unwind;have OF:(results fn fr.tmps).runT P w #[]=(.ok (.tuple #[]) w,#[]):=by rw[Sem.runT_eq,results_none hr _ P w];exact congrArg (Prod.mk _) (events_results_none hr _ _)
 simp only[hd,hf,OF];unfold doReturn;simp only[hk];rfl
end Ph
