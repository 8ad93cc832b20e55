import Derived.Test.YtlpcjiollnnmgaaGreatDoorM07
import Derived.OrdersHeld
import Derived.Test.YtlpcjiollnnmgaaGreatDoorProg
set_option maxRecDepth 100000
set_option maxHeartbeats 8000000
set_option linter.all false
namespace Go.Proofs.YtlpcjiollnnmgaaGreatDoor
namespace Ph
open Go.Conc Rn
open Go.ConcN (sumTo upd sumTo_upd upd_ne upd_same le_sumTo)
open Tp (cO Term Ld)
variable{α:Type}{C:j9 α}
section
variable{all:List α}{gs gs':Array Goroutine}{w w':World}{t u:Trace}{D D':Nat->Pd α}{cj cr cj' cr':Bool}{ah aC sent' rcvd':Nat}{sl:Option (Nat×Nat)}
def y5.NN{s}(h:y5 C all s cj cr ah aC)(hp:0<C.n)(h3:3<=ah){i}(hi:i<C.n+4)(hr:C.rl i=1):∃q,s i=.old 1 q:=by
 have h1:=lT (C:=C) hp;have h2:=zq (f:=λi=>(s i).said) (g:=λi=>if C.rl i=1 then 1 else 0) (C.n+4) (λi hi=>by have:=Fw (s i);rwa[h.role i hi]at this) (by rw[h1,<-h.said];omega) i hi;replace h2:(s i).said=if C.rl i=1 then 1 else 0:=h2
 rw[if_pos hr]at h2;cases hs:s i with
 |old r q=>
  rw[hs]at h2;match r,h2 with
  |0,h2=>cases h2
  |1,_=>exact⟨q,rfl⟩
  |r+2,h2=>cases h2
 |_=>rw[hs]at h2;cases h2
def SC(hp:0<C.n){i}(hi:C.gN i):i=0∨C.rl i=1∨i=C.n+3:=by rcases hi with h|⟨h1,h2⟩;exact .inl h;by_cases h3:i=C.n+3;exact .inr (.inr h3);refine .inr (.inl ?_);unfold j9.rl;rw[if_neg (by omega),if_neg (by omega),if_pos (by omega)]
def UX(I:Inv C all gs w t D cj cr ah aC)(T:Tr C t D ah aC)(hi:∀r q,(D (C.n+3)).st≠.old r q)(h3:aC=3) fn pos:sV C (t++eZ (C.n+3) fn pos C.N.R):=by
 have hp:=I.pos;let z1:MemOp:={g:=C.n+3,fn:=fn,pos:=pos,act:=.access ⟨.obj C.N.R,false,true⟩};let z2:MemOp:={g:=C.n+3,fn:=fn,pos:=pos,act:=.close C.N.R};have hu:eZ (C.n+3) fn pos C.N.R=#[z1,z2]:=rfl;have alU:(t++eZ (C.n+3) fn pos C.N.R)[t.size]? =some z1:=by rw[hu,Array.getElem?_append_right ν,Nat.sub_self];rfl
 have JN:(t++eZ (C.n+3) fn pos C.N.R)[t.size+1]? =some z2:=by rw[hu,Array.getElem?_append_right (by omega),show t.size+1-t.size=1 by omega];rfl
 have ry:C.gN (C.n+3):=.inr ⟨by omega,by omega⟩;have hd:=T.deaf _ ry hi;have aip:(t++eZ (C.n+3) fn pos C.N.R).heard (t.size+1):=by refine⟨C.n+3,by rw[Trace.g?,JN];rfl,?_⟩;rw[deaf_succ alU,deaf_old ν];show deafStep _ (Deaf t _) z1=0;rw[hd];rfl
 refine⟨t.size+1,z2,JN,rfl,rfl,aip,λp y a hpy hg h0 ha=>?_⟩;rcases SC hp hg with h|h|h;exact absurd h h0;have aM:=I.Gw hg;obtain⟨q,hq⟩:=I.dg.NN hp (by have:=I.dg.le;omega) aM h;obtain⟨s,k,z,s1,s2,s3,s4,s5,s6,s7⟩:=T.said y.g q aM hq;have WH:ah<=3:=by have h1:=lT (C:=C) hp;have h2:=sumTo_le (f:=λi=>(bj D i).said) (g:=λi=>if C.rl i=1 then 1 else 0) (C.n+4) (λi hi=>by have:=Fw (bj D i);rwa[I.dg.role i hi]at this);rw[h1,<-I.dg.said]at h2;exact h2
 have hk:=s7 (by omega);have hsc:HappensBefore (t++eZ (C.n+3) fn pos C.N.R) s (t.size+1):=hk.hb_new (by omega) JN rfl;have ate:=lt_size_of_getElem? s1;have Hy:p<s:=by rcases getElem?_append_cases hpy with⟨_,JP⟩|⟨_,TK⟩;exact s6 p y a JP rfl ha;have:=(ed TK).1;rw[this]at h;unfold j9.rl at h;rw[if_neg (by omega),if_neg (by omega),if_neg (by omega)]at h;omega
 have yM:(t++eZ (C.n+3) fn pos C.N.R)[s]? =some z:=by rw[getElem?_append_old ate];exact s1
 exact .inr ((hb_po Hy hpy yM s2.symm).trans hsc);have lN:p<t.size+1:=by rcases getElem?_append_cases hpy with⟨JP,_⟩|⟨JP,TK⟩;omega;have h2:=lt_size_of_getElem? hpy;rw[hu]at h2;simp at h2;by_cases hpe:p=t.size+1;subst hpe;rw[JN]at hpy;cases hpy;cases ha;omega
 exact .inr (hb_po lN hpy JN h)
def Jv(L:yA C)(eX:∀i,C.n<=i->i<C.n+4->C.R i=[base C.P])(I:Inv C all gs w t D cj cr ah aC)(T:Tr C t D ah aC){i}(hi:i<C.n+4)(aT:(D i).st=.live .dk)(hA:C.N.A .dk (D i).g (D i).v):Goes C all gs w sl t D i:=by
 obtain⟨g',hx,aM,jO⟩:=qd L I hi aT;obtain⟨s,r,hc⟩:=I.DF;have e1:bj D i=.live .dk:=aT;have cX:cj=true/\cr=false/\aC=3:=by have:=I.dg.cP i hi;rw[e1]at this;exact this
 obtain⟨rfl,rfl,EO⟩:=cX;obtain⟨Xc,lP⟩:=L.CC .dk C.N.R _ _ _ _ _ (.inr ⟨rfl,rfl⟩) hA jO;have uj:=lP (i==0) w s r hc;have fy:i≠0:=I.lZ hi aT (by simp[j8.role]);have TZ:=qN I hi (by rw[e1];rfl);have ry:C.gN i:=I.gN hi (by rw[aT];exact jV (α:=α) .dk);rw[eX i (by omega) hi]at jO;obtain⟨q,hq⟩:=L.OS _ _ _ _ hA jO;have alZ:∀r q,(D i).st≠.old r q:=λr q e=>by rw[aT]at e;cases e
 have hd0:Deaf t i=0:=T.deaf i ry alZ;have cF:=runT_crowd_go (P:=C.P) (sl:=sl) hx uj;rw[py]at cF;have lN:C.N.R<w.heap.size:=(Array.getElem?_eq_some_iff.1 hc).1;have hR1:(w.heap.setIfInBounds C.N.R (.chan 0 #[] true s r false))[C.N.R]? =some (.chan 0 #[] true s r false):=Array.getElem?_setIfInBounds_self_of_lt lN;have hJ1:∃s2 r2,(w.heap.setIfInBounds C.N.R (.chan 0 #[] true s r false))[C.N.J]? =some (.chan 0 #[] true s2 r2 false):=by obtain⟨s2,r2,h2⟩:=I.CZ;exact⟨s2,r2,by rw[Array.getElem?_setIfInBounds_ne (Ne.symm I.ne.1)];exact h2⟩
 have hD1:(w.heap.setIfInBounds C.N.R (.chan 0 #[] true s r false))[C.N.D]? =_:=(Array.getElem?_setIfInBounds_ne I.ne.2.2).trans I.GJ;have pK:∀j,j<C.n+4->j≠i->(bj D j).role≠2:=λj hj aS e=>aS ((qN I hj e).trans TZ.symm);have uh:∀j,j<C.n+4->(bj D j).role=1->∃q,bj D j=.old 1 q:=λj hj e=>I.dg.NN I.pos (by have:=I.dg.le;omega) hj (by rw[<-I.dg.role j hj];exact e);have lE:=Iu kR i ((D i).to (.old 2 q) (D i).g) D;have ah8:=E6 (cj':=true) (cr':=true) I hi kR (.old 2 q) (by rw[e1];rfl) (λp=>by rw[e1];rfl) (by rw[e1];rfl) (λc e=>by cases e) ⟨rfl,rfl,EO⟩ (λj hj aS=>by
 have h1:=I.dg.cP j hj;have h2:=pK j hj aS;refine fi.fA (λc e hk=>?_) (λhk=>?_);cases c<;>first|exact(Bool.noConfusion hk)|exact trivial
 cases hs:bj D j with
 |old r q=>
  rw[hs]at h1 h2;match r,h1,h2 with
  |0,_,_=>exact trivial
  |1,_,_=>exact rfl
  |2,_,h2=>exact absurd rfl h2
  |r+3,_,_=>exact trivial
 |bU c=>
 have h3:=uh j hj;rw[hs]at h1 h2 h3;cases c<;>first|exact absurd rfl h2|exact h1.elim|skip
 obtain⟨_,h3⟩:=h3 rfl;cases h3
 |born c=>
 have h3:=uh j hj;rw[hs]at h1 h2 h3;cases c<;>first|exact absurd rfl h2|exact h1.elim|skip
 obtain⟨_,h3⟩:=h3 rfl;cases h3
 |live c=>
 have h3:=uh j hj;rw[hs]at h1 h2 h3;cases c<;>first|exact absurd rfl h2|exact trivial|skip
 all_goals (obtain⟨_,h3⟩:=h3 rfl;cases h3)
 |bd c=>
 have h3:=uh j hj;rw[hs]at h1 h2 h3;cases c<;>first|exact absurd rfl h2|exact h1.elim|skip
 obtain⟨_,h3⟩:=h3 rfl;cases h3;obtain⟨_,h3⟩:=h3 rfl;cases h3;exact absurd (hk _ hs) (by simp[kR])) (by rw[e1];rfl)
 have um:∀g,C.gN g->C.N.R∉ (D g).X:=λg hg hm=>(I.vd g (I.Gw hg)).vL C hm hc;refine⟨_,_,_,λj=>if j=i then(D i).to (.old 2 q) (D i).g else(D j).to (fA kR (D j).st) (D j).g,true,true,ah,aC,cF,?_,?_,Cr I hi kR (.old 2 q) (by rw[e1];show(0:Nat)<1;omega) lE,gC (λl=>(by split<;>first|(rename_i e;subst e;rfl)|rfl)) (.inr (.inl rfl)) rfl rfl rfl rfl⟩;refine Kt (c:=.dk) (ch:=C.N.R) L I hi fy hx Xc kR ((D i).to (.old 2 q) (D i).g) ⟨rfl,rfl⟩ (.tuple #[]) rfl ⟨⟨_,rfl,by rw[hd0];exact hq⟩,λ_=>hA⟩ (λj hj h=>?_) (λj c g2 hj aS e hk=>?_) (λj c g2 hj aS e hk=>?_) (λc hk n e=>by subst e;cases hk) hJ1 ⟨s,r,hR1⟩ hD1 (λop cI=>(ed cI).2.1) (by rw[lE];exact ah8);exact h.chan C hc (.chan 0 #[] true s r false) w.drawn;cases c<;>first|exact(Bool.noConfusion hk)|skip
 exact⟨again_recv_closed hR1,rfl⟩;have h1:=I.dg.cP j hj;rw[show bj D j=_ from e]at h1;have h2:=pK j hj aS;have h3:=uh j hj;rw[show bj D j=_ from e]at h2 h3;cases c with
 |bg=>obtain⟨_,h3⟩:=h3 rfl;cases h3
 |b9 a=>obtain⟨_,h3⟩:=h3 rfl;cases h3
 |aZ bC=>cases hk
 |cU a rem=>exact absurd rfl h2|bx k=>exact absurd rfl h2
 |_=>exact h1.elim
 refine T.close ry (.inr rfl) um (λc e=>by rw[aT]at e;cases e) (λg=>?_) (λj c e=>?_) (λj r q e=>?_) (λj q e=>?_) (λq e=>?_);split;rename_i hg;subst hg;rfl;rfl;refine⟨c,?_⟩;rw[if_neg (λaS=>by subst aS;rw[aT]at e;cases e)];show fA kR (D j).st=_;rw[e];rfl;refine⟨r,q,?_⟩;rw[if_neg (λaS=>by subst aS;rw[aT]at e;cases e)];show fA kR (D j).st=_;rw[e];rfl;split at e;cases e;rename_i aS;refine⟨aS,?_⟩;change fA kR (D j).st=_ at e;cases hs:(D j).st with
 |bd c=>rw[hs,eQ]at e;split at e<;>cases e
 |_=>rw[hs]at e;exact e
 subst TZ;exact UX I T alZ EO _ _
end
end Ph
namespace Ph
open Go.Conc Rn
open Go.ConcN (sumTo upd sumTo_upd upd_ne upd_same le_sumTo fork_knows)
open Tp (cO Term Ld)
variable{α:Type}{C:j9 α}
section
variable{all:List α}{gs gs':Array Goroutine}{w w':World}{t u:Trace}{D D':Nat->Pd α}{cj cr cj' cr':Bool}{ah aC sent' rcvd':Nat}{sl:Option (Nat×Nat)}
def ok_none{i d}(h:Ok C t i none d):∃c,d.st=.bU c/\C.R i=[base C.P]/\GR C.P C.E d.X (C.R i) d.g (C.first i)/\Term C.P (C.N.Stop c) d.g d.v:=by
 unfold Ok at h;cases hs:d.st with
 |old r q=>rw[hs]at h;obtain⟨⟨y,h,_⟩,_⟩:=h;cases h
 |bU c=>rw[hs]at h;exact⟨c,rfl,h.2⟩|born c=>rw[hs]at h;cases h.1
 |live c=>rw[hs]at h;obtain⟨y,h,_⟩:=h;cases h
 |bd c=>rw[hs]at h;obtain⟨y,h,_⟩:=h;cases h
def Mi(L:yA C)(I:Inv C all gs w t D cj cr ah aC)(T:Tr C t D ah aC){k}(aT:(D 0).st=.live (.spawn k))(hA:C.N.A (.spawn k) (D 0).g (D 0).v)(hX:C.ok0 (D 0).X):Goes C all gs w sl t D 0:=by
 have hp:=I.pos;have h0:0<C.n+4:=by omega
 obtain⟨g',hx,aM,jO⟩:=qd L I h0 aT;obtain⟨Dw,lC⟩:k<=3/\gs.size=C.n+k:=by rcases I.main with⟨k',h1,h2,h3⟩|⟨⟨_,h|h⟩,_⟩;rw[aT]at h2;cases h2;exact⟨h1,h3⟩;rw[aT]at h;cases h;rw[aT]at h;cases h
 have uj:=L.KR k _ _ _ _ _ Dw hX hA jO true w;have cF:=runT_crowd_spawn (P:=C.P) (sl:=sl) (i:=0) hx uj;rw[dI]at cF;have hj:C.n+k<C.n+4:=by omega
 have alY:gs[C.n+k]? =none:=Array.getElem?_eq_none (by omega);have ru:=I.ok (C.n+k) hj;rw[alY]at ru;obtain⟨c,ain,hR,BF,ahU⟩:=ok_none ru;have W8:∃ci:j8 α,Term C.P (C.N.Stop ci) (dU (D 0).g undef) (D 0).v/\ci.role=3/\(∀p,ci.tok p=0)/\fi cj cr aC (.live ci)/\ci.ev<5-k/\((∃k',k'<=3/\(St.live ci:St α)=.live (.spawn k')/\C.n+k+1=C.n+k')∨((∃bC,(St.live ci:St α)=.live (.aZ bC)∨(St.live ci:St α)=.bd (.aZ bC))/\C.n+k+1=C.n+4)):=by by_cases h3:k=3;subst h3;exact⟨.aZ [],L.OQ _ _ hA,rfl,λ_=>rfl,trivial,by simp[j8.ev],.inr ⟨⟨[],.inl rfl⟩,rfl⟩⟩;refine⟨.spawn (k+1),L.VM k _ _ (by omega) hA,rfl,λ_=>rfl,trivial,?_,.inl ⟨k+1,by omega,rfl,rfl⟩⟩;show 5-(k+1)<5-k;omega
 obtain⟨ci,c1,c2,c3,c4,c5,c6⟩:=W8;have kx:0≠C.n+k:=by omega
 have hS:=mS D 0 (C.n+k) (.live ci) (.born c) (dU (D 0).g undef) (D (C.n+k)).g;have mA:∀l,upd (upd D 0 ((D 0).to (.live ci) (dU (D 0).g undef))) (C.n+k) ((D (C.n+k)).to (.born c) (D (C.n+k)).g) l=if l=C.n+k then(D (C.n+k)).to (.born c) (D (C.n+k)).g else if l=0 then(D 0).to (.live ci) (dU (D 0).g undef)else D l:=λl=>rfl
 have lE:bj (upd (upd D 0 ((D 0).to (.live ci) (dU (D 0).g undef))) (C.n+k) ((D (C.n+k)).to (.born c) (D (C.n+k)).g))=upd (upd (bj D) 0 (.live ci)) (C.n+k) (.born c):=by rw[eN,eN];rfl
 generalize hD':upd (upd D 0 ((D 0).to (.live ci) (dU (D 0).g undef))) (C.n+k) ((D (C.n+k)).to (.born c) (D (C.n+k)).g)=D' at hS mA lE;have hv0:D' 0=(D 0).to (.live ci) (dU (D 0).g undef):=by rw[mA,if_neg kx,if_pos rfl]
 have Ww:D' (C.n+k)=(D (C.n+k)).to (.born c) (D (C.n+k)).g:=by rw[mA,if_pos rfl]
 have Wv:∀l,l≠0->l≠C.n+k->D' l=D l:=λl h1 h2=>by rw[mA,if_neg h2,if_neg h1]
 have e0:bj D 0=.live (.spawn k):=aT;have ej:bj D (C.n+k)=.bU c:=ain;have hg0:((gs.setIfInBounds 0 (dU g' undef)).push (jd C.P (C.d (C.n+k))))[0]? =some (dU g' undef):=by rw[Array.getElem?_push_lt (by simpa using aM)];simp
 have xB:((gs.setIfInBounds 0 (dU g' undef)).push (jd C.P (C.d (C.n+k))))[C.n+k]? =some (jd C.P (C.d (C.n+k))):=by rw[Array.getElem?_push,if_pos (by simp;omega)]
 have hgo:∀l,l≠0->l≠C.n+k->((gs.setIfInBounds 0 (dU g' undef)).push (jd C.P (C.d (C.n+k))))[l]? =gs[l]?:=λl h1 h2=>by rw[Array.getElem?_push,if_neg (by simp;omega),Array.getElem?_setIfInBounds_ne (Ne.symm h1)]
 let z1:MemOp:={g:=0,fn:=g'.frame.fn,pos:=g'.frame.place,act:=.go gs.size};let z2:MemOp:={g:=gs.size,fn:=(jd C.P (C.d (C.n+k))).frame.fn,pos:=g'.frame.place,act:=.start};have hu:Quiet #[z1,z2]:=λop cI=>by
  have:op=z1∨op=z2:=by simpa using cI
  rcases this with rfl|rfl<;>exact⟨rfl,λm=>by simp[z1,z2]⟩
 have hd0:Deaf t 0=0:=T.deaf 0 (.inl rfl) λr q e=>by rw[aT]at e;cases e
 have hdj:Deaf t (C.n+k)=0:=T.deaf _ (.inr ⟨by omega,hj⟩) λr q e=>by rw[ain]at e;cases e
 refine⟨_,w,#[z1,z2],D',cj,cr,ah,aC,cF,I.quiet hS hu (λl hl=>?_) (by simp;omega) (λ_ _ h=>h) ?_ I.CZ I.DF I.GJ ?_,T.mute (λop cI=>(hu op cI).1) (λl=>(hS l).1) (λl hl hc=>?_) I.zero (λl hl hc=>⟨λr q e=>?_,hu.deaf t l⟩) (λl q hl e=>?_) (λq e=>?_) (λl _=>hu.deaf t l),.inl ?_,jN (λl=>(hS l).1) rfl rfl rfl rfl⟩;by_cases h1:l=0;subst h1;refine .inr ?_;rw[hv0,hg0];exact⟨_,rfl,EU jO (V.eH (VA.empty _)) rfl rfl,c1⟩;by_cases h2:l=C.n+k;subst h2;refine .inr ?_;rw[Ww,xB];exact⟨rfl,hR,BF,ahU⟩;exact .inl ⟨Wv l h1 h2,hgo l h1 h2⟩;rw[hv0];have:((gs.setIfInBounds 0 (dU g' undef)).push (jd C.P (C.d (C.n+k)))).size=C.n+k+1:=by simp;omega
 rw[this];exact c6;rw[lE];refine I.dg.two h0 hj kx (.live ci) (.born c) (by rw[e0];exact c2) (by rw[ej];rfl) (λp=>?_) (by rw[e0,ej];rfl) I.dg.le (λl hl _ _=>I.dg.cP l hl) c4 ?_ (λc e=>by cases e) (λc e=>by cases e) (λl q hl _ _ h=>I.dg.p3 l q hl h);rw[e0,ej];show ci.tok p+c.tok p=0+c.tok p;rw[c3];have:=I.dg.cP _ hj;rw[ej]at this;exact this;by_cases h1:l=0;subst h1;exact .inl λc' e=>by rw[aT]at e;cases e
 by_cases h2:l=C.n+k;subst h2;refine .inr λp hpk=>?_;exact fork_knows (x:=z1) (y:=z2) ⟨rfl,by rw[<-lC]⟩ ⟨lC,rfl⟩ hd0 hdj hpk;rw[Wv l h1 h2]at hc;exact .inl hc;by_cases h1:l=0;subst h1;rw[aT]at e;cases e;by_cases h2:l=C.n+k;subst h2;rw[ain]at e;cases e;exact hc r q (by rw[Wv l h1 h2];exact e);by_cases h1:l=0;subst h1;rw[hv0]at e;cases e;by_cases h2:l=C.n+k;subst h2;rw[Ww]at e;cases e;rw[Wv l h1 h2]at e;exact(T.said l q hl e).app (λop cI _=>(hu op cI).1) ν;by_cases h2:C.n+3=C.n+k;rw[h2,Ww]at e;cases e;rw[Wv _ (by omega) h2]at e;exact(T.shut q e).app λop cI _ _=>(hu op cI).1;rw[lE];have:=yV (C:=C) (s:=bj D) h0 hj kx (.live ci) (.born c);have f1:(bj D 0).ev=5-k:=by rw[e0];rfl
 have f2:(St.live ci).ev=ci.ev:=rfl;have f3:(bj D (C.n+k)).ev=c.ev+2:=by rw[ej];rfl
 have f4:(St.born c).ev=c.ev+1:=rfl;omega
end
end Ph
namespace Ph
open Go.Conc Rn
open Go.ConcN (sumTo upd sumTo_upd upd_ne upd_same le_sumTo fork_knows)
open Tp (cO Term Ld)
variable{α:Type}{C:j9 α}
section
variable{all:List α}{gs gs':Array Goroutine}{w w':World}{t u:Trace}{D D':Nat->Pd α}{cj cr cj' cr':Bool}{ah aC sent' rcvd':Nat}{sl:Option (Nat×Nat)}
def Vc j(hp:0<C.n):(j<3->C.rl (C.n+j)=1)/\C.rl (C.n+3)=2:=by refine⟨λhj=>?_,?_⟩;unfold j9.rl;rw[if_neg (by omega),if_neg (by omega),if_pos (by omega)];unfold j9.rl;rw[if_neg (by omega),if_neg (by omega),if_neg (by omega)]
def Inv.ZA(I:Inv C all gs w t D cj cr ah aC):∃(i:Nat)(g:Goroutine),gs[i]? =some g/\g.status=.running:=by
 apply Classical.byContradiction;intro um;have hp:=I.pos;have hnr:∀(i:Nat)(g:Goroutine),gs[i]? =some g->g.status≠.running:=λi g h e=>um ⟨i,g,h,e⟩;have uo:∀i c,i<C.n+4->bj D i≠.live c:=λi c hi e=>by have:=I.ok i hi;unfold Ok at this;rw[show(D i).st=.live c from e]at this;obtain⟨g',h1,h2,_⟩:=this;exact hnr i g' h1 h2.run.2
 have ac9:∀i c,i<C.n+4->bj D i≠.born c:=λi c hi e=>by have:=I.ok i hi;unfold Ok at this;rw[show(D i).st=.born c from e]at this;exact hnr i _ this.1 rfl
 obtain⟨bC,BG,lC⟩:∃bC,bj D 0=.bd (.aZ bC)/\gs.size=C.n+4:=by rcases I.main with⟨k,_,h,_⟩|⟨⟨bC,h|h⟩,h2⟩;exact absurd h (uo 0 _ (by omega));exact absurd h (uo 0 _ (by omega));exact⟨bC,h,h2⟩
 have Pg:∀i c,i<C.n+4->bj D i≠.bU c:=λi c hi e=>by have:=I.ok i hi;unfold Ok at this;rw[show(D i).st=.bU c from e]at this;have h1:=this.1;rw[Array.getElem?_eq_getElem (by omega)]at h1;cases h1
 have lO:cr=false:=by have:=I.dg.cP 0 (by omega);rw[BG]at this;exact this
 have hw:∀j,j<C.n+4->C.rl j=1->(∃q,bj D j=.old 1 q/\cj=true)∨(bj D j=.bd .bg/\cj=false):=λj hj hr=>by
  have h1:=I.dg.role j hj;have h2:=I.dg.cP j hj;rw[hr]at h1;cases hs:bj D j with
  |old r q=>rw[hs]at h1 h2;obtain rfl:r=1:=h1;exact .inl ⟨q,rfl,h2⟩
  |bU c=>exact absurd hs (Pg j c hj)|born c=>exact absurd hs (ac9 j c hj)
  |live c=>exact absurd hs (uo j c hj)|bd c=>rw[hs]at h1 h2;cases c with|bg=>exact .inr ⟨rfl,h2.1⟩|b9 a=>exact absurd BG (I.dg.p2 j 0 hj (by omega) a bC hs)|fg=>exact h2.elim|_=>cases h1
 have hf:C.n+3<C.n+4:=by omega
 have h1:=I.dg.role _ hf;have h2:=I.dg.cP _ hf;rw[(Vc 0 hp).2]at h1;cases hs:bj D (C.n+3)with
 |old r q=>rw[hs]at h1 h2;obtain rfl:r=2:=h1;have:cr=true:=h2.2.1;rw[lO]at this;cases this
 |bU c=>exact Pg _ c hf hs|born c=>exact ac9 _ c hf hs
 |live c=>exact uo _ c hf hs|bd c=>
 rw[hs]at h1 h2;cases c with
 |cU a rem=>have Na:cj=false:=h2.1;rcases hw (C.n+0) (by omega) ((Vc 0 hp).1 (by omega))with⟨_,_,h⟩|⟨h,_⟩;rw[Na]at h;cases h;exact I.dg.p1 _ _ (by omega) hf h a rem hs
 |bx k=>obtain⟨Na,_,hrk,Dw⟩:cj=true/\_/\aC=k/\k<3:=h2;have hsr:=I.dg.p3 _ _ hf hs;obtain⟨j,hj,aM⟩:=UK (f:=λi=>(bj D i).said) (g:=λi=>if C.rl i=1 then 1 else 0) (C.n+4) (by rw[lT hp,<-I.dg.said];omega);by_cases hr:C.rl j=1;rw[if_pos hr]at aM;rcases hw j hj hr with⟨q,h,_⟩|⟨_,h⟩;rw[h]at aM;have:(St.old 1 q:St α).said=1:=rfl;omega;rw[Na]at h;cases h;rw[if_neg hr]at aM;omega
 |bg=>cases h1
 |b9 a=>cases h1
 |aZ g=>cases h1
 |_=>exact h2.elim
def Inv.awake(I:Inv C all gs w t D cj cr ah aC):∀g∈gs,awake g:=by intro g hg;obtain⟨i,hi,rfl⟩:=Array.mem_iff_getElem.1 hg;obtain⟨aM,h⟩:=I.status (Array.getElem?_eq_getElem hi);rcases h with(h|h)|⟨c,hc⟩;exact awake_of (.inl h);exact awake_of (.inr (.inr h));have:=I.ok i aM;unfold Ok at this;rw[hc,Array.getElem?_eq_getElem hi]at this;obtain⟨g',h1,_⟩:=this;rw[Option.some.inj h1];exact awake_of (.inr (.inl rfl))
theorem Inv.at(I:Inv C all gs w t D cj cr ah aC) d:Inv C all gs (w.at d) t D cj cr ah aC:=⟨I.pos,I.ok,I.size,λi hi=>(I.vd i hi).drawn C d,I.Ns,I.main,I.CZ,I.DF,I.GJ,I.ne,I.dg⟩
def Ends(C:j9 α)(all:List α)(gs:Array Goroutine)(w:World)(t:Trace)(D:Nat->Pd α):Prop:=∃cj ah aC bC,Inv C all gs w t D cj true ah aC/\Tr C t D ah aC/\(D 0).st=.live (.aZ bC)/\C.N.A (.aZ bC) (D 0).g (D 0).v
def aqY(L:yA C)(eX:∀i,C.n<=i->i<C.n+4->C.R i=[base C.P])(I:Inv C all gs w t D cj cr ah aC)(T:Tr C t D ah aC)(hX:C.ok0 (D 0).X){i g}(hx:gs[i]? =some g)(hr:g.status=.running):Goes C all gs w sl t D i∨(i=0/\Ends C all gs w t D):=by
 obtain⟨hi,aT⟩:=I.status hx;have dR:=I.ok i hi;unfold Ok at dR;cases hs:(D i).st with
 |old r q=>
 have fy:0<i:=by apply Nat.pos_of_ne_zero;rintro rfl;rcases I.main with⟨_,_,h,_⟩|⟨⟨_,h|h⟩,_⟩<;>rw[hs]at h<;>cases h
 obtain⟨gs',w',u,D',h1,h2,h3,h4,h5,h6⟩:=VU (sl:=sl) I T hi fy hs hx hr;exact .inl ⟨gs',w',u,D',_,_,_,_,h1,h2,h3,.inr ⟨sumTo_congr _ λj _=>h5 (λs=>s.ev) (λ_ _ _=>rfl) j,.inr ⟨sumTo_congr _ λj _=>h5 (λs=>s.up) (λ_ _ _=>rfl) j,h4⟩⟩,h6⟩
 |bU c=>rw[hs,hx]at dR;cases dR.1
 |born c=>
 obtain⟨gs',w',u,D',h1,h2,h3,h4⟩:=RF (sl:=sl) L I T hi hs;refine .inl ⟨gs',w',u,D',_,_,_,_,h1,h2,h3,.inl ?_,h4.2⟩;rw[h4.1];have:=oe (C:=C) (s:=bj D) hi (.live c);have f1:(bj D i).ev=c.ev+1:=by rw[show bj D i=_ from hs];rfl
 have f2:(St.live c).ev=c.ev:=rfl;omega|bd c=>rw[hs,hx]at dR;obtain⟨g',h1,_⟩:=dR;rw[Option.some.inj h1]at hr;cases hr
 |live c=>
 by_cases pI:C.N.Stop c (D i).g (D i).v;have cX:=I.dg.cP i hi;rw[show bj D i=_ from hs]at cX;cases c with
 |bg=>exact .inl (Mo L I T hi hs pI λNa=>Rz L I T hi hs pI Na)|b9 a=>exact .inl (Mj L I T hi hs pI)
 |fg=>exact .inl (Mm L eX I T hi hs pI)|feed rem=>rcases pI with⟨a,Dj,JO,hA⟩|⟨rfl,hA⟩;exact .inl (Ml L I T hi hs JO hA);exact .inl (Jw L I T hi hs hA)
 |cU a rem=>exact cX.elim|fb=>exact cX.elim
 |bx k=>exact .inl (Mq L I T hi hs pI)|dk=>exact .inl (Jv L eX I T hi hs pI)
 |spawn k=>
 have fy:i=0:=by refine nL I.pos hi (by have:=I.pos;omega) ?_ (.inr ?_);rw[<-I.dg.role i hi,show bj D i=_ from hs];simp[j9.rl,St.role,j8.role];rw[<-I.dg.role i hi,show bj D i=_ from hs];rfl
 subst fy;exact .inl (Mi L I T hs pI hX)|aZ bC=>
  have fy:i=0:=by refine nL I.pos hi (by have:=I.pos;omega) ?_ (.inr ?_);rw[<-I.dg.role i hi,show bj D i=_ from hs];simp[j9.rl,St.role,j8.role];rw[<-I.dg.role i hi,show bj D i=_ from hs];rfl
  subst fy;cases lO:cr with|false=>exact .inl (by subst lO;exact Mn L I T hi hs pI rfl)|true=>subst lO;exact .inr ⟨rfl,_,_,_,bC,I,T,hs,pI⟩
 obtain⟨gs',w',u,D',h1,h2,h3,h4,h5,h6⟩:=VT (sl:=sl) L I T hi hs pI;exact .inl ⟨gs',w',u,D',_,_,_,_,h1,h2,h3,.inr ⟨sumTo_congr _ λj _=>congrArg St.ev (h5 j),.inr ⟨sumTo_congr _ λj _=>congrArg St.up (h5 j),h4⟩⟩,h6⟩
def Ln{f m}(hm:0<m)(h:∀i,i<m->i≠0->f i=0):sumTo m f=f 0:=by
 have e1:sumTo m f=sumTo m (λi=>if i=0 then f 0 else 0):=sumTo_congr m λi hi=>by by_cases h0:i=0;subst h0;rw[if_pos rfl];rw[if_neg h0];exact h i hi h0
 have e2:=u5 (f:=λ_=>0) (g:=λi=>if i=0 then f 0 else 0) (m:=m) (i:=0) hm (λj hj=>if_neg hj);have e3:∀m,sumTo m (λ_=>0)=0:=by intro m;induction m with|zero=>rfl|succ m ih=>show sumTo m _+0=0;rw[ih]
 rw[e3]at e2;simp at e2;rw[e1];exact e2
structure Fin(C:j9 α)(all:List α)(gs:Array Goroutine)(w:World)(t:Trace)(D:Nat->Pd α):Prop where
 start:∃bC a,gs[0]? =some a/\GR C.P C.E (D 0).X (C.R 0) (Go.Conc.served (D 0).g (.tuple #[C.N.zR,.bool false])) a/\a.offers=none/\C.N.A (.aZ bC) (D 0).g (D 0).v/\∀p,bC.countP p=all.countP p
 vd:∀i,i<C.n+4->jf C w (D i)
 aiV:C.N.A .dk (D (C.n+3)).g (D (C.n+3)).v
 leave:∃q,Leavers C.P t gs q
 asw:Tp.gX t
 Yd:(∃cap buf cl s r tm,w.heap[C.N.J]? =some (.chan cap buf cl s r tm))/\(∃cap buf cl s r tm,w.heap[C.N.R]? =some (.chan cap buf cl s r tm))/\∃cap buf cl s r tm,w.heap[C.N.D]? =some (.chan cap buf cl s r tm)
def S6(L:yA C)(h:Ends C all gs w t D):∃gs' u,runT C.P (crowd gs w sl) 0=(.next (crowd gs' w sl),u)/\Fin C all gs' w (t++u) D:=by
 obtain⟨cj,ah,aC,bC,I,T,aT,hA⟩:=h;have hp:=I.pos;have h0:0<C.n+4:=by omega
 have hf:C.n+3<C.n+4:=by omega
 obtain⟨g',hx,aM,jO⟩:=qd L I h0 aT;have lP:=L.act (.aZ bC) _ _ _ _ _ rfl hA jO true w;obtain⟨s,r,hc⟩:=I.DF;obtain⟨qf,hqf⟩:∃q,bj D (C.n+3)=.old 2 q:=by
  have h1:=I.dg.role _ hf;have h2:=I.dg.cP _ hf;rw[(Vc 0 hp).2]at h1;cases hs:bj D (C.n+3)with
  |old r q=>rw[hs]at h1;obtain rfl:r=2:=h1;exact⟨q,rfl⟩
  |bU c=>rw[hs]at h1 h2;cases c<;>first|exact h2.elim|(cases h2.2.1)|cases h1
  |born c=>rw[hs]at h1 h2;cases c<;>first|exact h2.elim|(cases h2.2.1)|cases h1
  |live c=>rw[hs]at h1 h2;cases c<;>first|exact h2.elim|(cases h2.2.1)|cases h1
  |bd c=>rw[hs]at h1 h2;cases c<;>first|exact h2.elim|(cases h2.2.1)|cases h1
 have EO:aC=3:=by have:=I.dg.cP _ hf;rw[hqf]at this;exact this.2.2
 have gQ:∀j,j<C.n+4->j≠0->∃r q,bj D j=.old r q:=λj hj Xi=>by
  by_cases h3:j=C.n+3;subst h3;exact⟨2,qf,hqf⟩;by_cases h1:C.rl j=1;obtain⟨q,hq⟩:=I.dg.NN hp (by have:=I.dg.le;omega) hj h1;exact⟨1,q,hq⟩;have hr0:C.rl j=0:=by unfold j9.rl at h1|-;rw[if_neg Xi]at h1|-;split;rfl;rename_i hn;rw[if_neg hn,if_pos (by omega)]at h1;exact absurd rfl h1
  have h4:=I.dg.role j hj;rw[hr0]at h4;cases hs:bj D j with|old r q=>exact⟨r,q,rfl⟩|bU c=>rw[hs]at h4;exact absurd h4 (jV c)|born c=>rw[hs]at h4;exact absurd h4 (jV c)|live c=>rw[hs]at h4;exact absurd h4 (jV c)|bd c=>rw[hs]at h4;exact absurd h4 (jV c)
 have hpn:partners (gs.setIfInBounds 0 ph) C.N.R true=[]:=I.vK λj c hj uq e=>by by_cases Xi:j=0;subst Xi;rw[aT]at uq;cases uq;obtain⟨r,q,hq⟩:=gQ j hj Xi;rw[show(D j).st=_ from hq]at uq;cases uq
 have cF:=crowd_recv_closed (P:=C.P) (sl:=sl) (i:=0) hx lP hc hpn;simp only[Net.shape,finishComm_recv,dI,Array.empty_append,recvd,if_true]at cF;let z:MemOp:={g:=0,fn:=g'.frame.fn,pos:=g'.frame.place,act:=.recvClosed C.N.R};have hu:Quiet #[z]:=λop cI=>by
  have:op=z:=by simpa using cI
  subst this;exact⟨rfl,λm=>by simp[z]⟩
 have hd0:Deaf t 0=0:=T.deaf 0 (.inl rfl) λr q e=>by rw[aT]at e;cases e
 have Wo:(t++#[z])[t.size]? =some z:=by rw[Array.getElem?_append_right ν,Nat.sub_self];rfl
 have hzh:(t++#[z]).heard t.size:=⟨0,by rw[Trace.g?,Wo];rfl,by rw[deaf_old ν];exact hd0⟩;obtain⟨c,zc,c1,c2,c3,c4,c5⟩:=T.shut qf hqf;have amv:=lt_size_of_getElem? c1;have hcz:HappensBefore (t++#[z]) c t.size:=.single (.inr ⟨.closed (c:=C.N.R) (by rw[act?_of (show(t++#[z])[c]? =some zc by rw[getElem?_append_old amv];exact c1),c3]) (by rw[act?_of Wo]),(heard_old amv).2 c4,hzh⟩);have Xh:∀i a,touchAt (t++#[z]) i=some a->a.loc.isMemory=true->Knows (t++#[z]) 0 i:=λi a ha hm=>by obtain⟨x,xq,uT⟩:=touch_of ha;rcases getElem?_append_cases xq with⟨hi,hx2⟩|⟨_,TM⟩;rcases T.touch i a (by rw[touchAt_of hx2];exact uT) hm with hk|⟨op,h1,h2,_⟩;exact(hk 0 (.inl rfl) I.zero).app _;rw[hx2]at h1;cases h1;by_cases hg0:x.g=0;have:=knows_own xq;rwa[hg0]at this;exact⟨t.size,z,Wo,rfl,.inr (((c5 i x a hx2 h2 hg0 uT).app #[z]).hb hcz)⟩;rw[(hu x TM).1]at uT;cases uT
 refine⟨_,#[z],cF,?_⟩;refine⟨⟨bC,_,Array.getElem?_setIfInBounds_self_of_lt aM,iD (j2 jO) (V.pair L.Li.2.2.2.2 false),rfl,hA,λp=>?_⟩,I.vd,?_,⟨λj=>match(D j).st with|.old _ q=>q|_=>0,⟨λj x hj hjx=>?_,λj hj=>?_⟩⟩,⟨λsaid=>xh (T.clean said) (λop cI=>(hu op cI).1),Xh,λi g hg cE Su=>?_,by rw[hu.deaf];exact hd0⟩,?_⟩;have h1:=I.dg.tok p;rw[Ln h0 (λi hi fy=>by obtain⟨r,q,hq⟩:=gQ i hi fy;rw[hq];rfl)]at h1;rw[show bj D 0=_ from aT]at h1;exact h1;have:=I.ok _ hf;unfold Ok at this;rw[show(D (C.n+3)).st=_ from hqf]at this;exact this.2 rfl;rw[Array.getElem?_setIfInBounds_ne (by omega)]at hjx;have kL:=(I.status hjx).1;obtain⟨r,q,hq⟩:=gQ j kL (by omega);have:=I.ok j kL;unfold Ok at this;rw[show(D j).st=_ from hq]at this;obtain⟨⟨y,hy,hqd⟩,_⟩:=this;rw[hjx]at hy;cases hy;rw[show(D j).st=_ from hq,hu.deaf];exact hqd;rw[hu.deaf];rw[Array.size_setIfInBounds]at hj;have lC:gs.size=C.n+4:=by rcases I.main with⟨k,_,h,_⟩|⟨_,h⟩;rw[aT]at h;cases h;exact h
 exact T.above j (by omega);obtain⟨a,ha,hm,_⟩:=Su;obtain⟨q,y,h1,h2,h3⟩:=Xh i a ha hm;rcases h3 with rfl|h3;rw[Trace.g?,h1]at hg;simp at hg;exact absurd (hg.symm.trans h2) cE;exact⟨q,by rw[Trace.g?,h1];simp[h2],h3⟩;obtain⟨s1,r1,e1⟩:=I.CZ;exact⟨⟨_,_,_,_,_,_,e1⟩,⟨_,_,_,_,_,_,hc⟩,⟨_,_,_,_,_,_,I.GJ⟩⟩
def Inv.acc(I:Inv C all gs w t D cj cr ah aC):Acc (NQ (Dn C.P C.N) (C.n+4)) D:=IV _ _ _ λi hi=>ai1 _ λc hc=>by have:=I.ok i hi;unfold Ok at this;rw[hc]at this;obtain⟨_,_,_,h⟩:=this;exact h
def phase(L:yA C)(eX:∀i,C.n<=i->i<C.n+4->C.R i=[base C.P])(I:Inv C all gs w t D cj cr ah aC)(T:Tr C t D ah aC)(hX:C.ok0 (D 0).X):∃(N:Nat)(gs':Array Goroutine)(w':World)(oY:Option (Nat×Nat))(t':Trace)(D':Nat->Pd α),runNT C.P N (crowd gs w sl) t=(.next (crowd gs' w' oY),t')/\Kept C w w' D D'/\Fin C all gs' w' t' D':=by
 have key:∀(e p:Nat)(D:Nat->Pd α),Acc (NQ (Dn C.P C.N) (C.n+4)) D->Kk C (bj D)=e->ups C (bj D)=p->∀(gs:Array Goroutine)(w:World)(sl:Option (Nat×Nat))(t:Trace)(cj cr:Bool)(ah aC:Nat),Inv C all gs w t D cj cr ah aC->Tr C t D ah aC->C.ok0 (D 0).X->∃(N:Nat)(gs':Array Goroutine)(w':World)(oY:Option (Nat×Nat))(t':Trace)(D':Nat->Pd α),runNT C.P N (crowd gs w sl) t=(.next (crowd gs' w' oY),t')/\Kept C w w' D D'/\Fin C all gs' w' t' D':=by
  intro e;induction e using Nat.strongRecOn with|_ e ihe=>
  intro p;induction p using Nat.strongRecOn with|_ p ihp=>
  intro D aiH;induction aiH with
  |intro D _ ihD=>
  intro he hp gs w sl t cj cr ah aC I T hX;obtain⟨i,g,d,ZB,hx,hr,acG⟩:=crowd_pick (P:=C.P) (w:=w) (sl:=sl) I.awake I.ZA;have al6:Kept C w (w.at d) D D:=jN (λ_=>rfl) rfl rfl rfl rfl;rcases aqY (sl:=ZB) L eX (I.at d) T hX hx hr with⟨gs1,w1,u,D1,cj1,cr1,aws,awu,cF,I1,T1,al4,acX⟩|⟨rfl,amn⟩;have atm:∃(N:Nat)(gs':Array Goroutine)(w':World)(oY:Option (Nat×Nat))(t':Trace)(D':Nat->Pd α),runNT C.P N (crowd gs1 w1 ZB) (t++u)=(.next (crowd gs' w' oY),t')/\Kept C w1 w' D1 D'/\Fin C all gs' w' t' D':=by
   have hX1:C.ok0 (D1 0).X:=by obtain⟨Y,hY,_⟩:=acX.grow 0;rw[hY];exact L.app0 _ _ hX
   rcases al4 with h|⟨h1,h|⟨h2,h3⟩⟩;exact ihe _ (by omega) _ D1 I1.acc rfl rfl gs1 w1 ZB _ _ _ _ _ I1 T1 hX1;exact ihp _ (by omega) D1 I1.acc (by omega) rfl gs1 w1 ZB _ _ _ _ _ I1 T1 hX1;exact ihD D1 h3 (by omega) (by omega) gs1 w1 ZB _ _ _ _ _ I1 T1 hX1
  obtain⟨N,gs',w',oY,t',D',r1,r2,r3⟩:=atm;exact⟨N+1,gs',w',oY,t',D',by simp only[runNT,acG,cF];exact r1,(al6.trans acX).trans r2,r3⟩;obtain⟨gs',u,cF,iY⟩:=S6 (sl:=ZB) L amn;exact⟨1,gs',w.at d,ZB,t++u,D,by simp only[runNT,acG,cF],al6,iY⟩
 exact key _ _ D I.acc rfl rfl gs w sl t cj cr ah aC I T hX
end
end Ph
namespace Tp
open Go.Conc
def bS(P:Program)(Stop:Goroutine->World->Prop)(fr:Frame)(cs:List Frame)(w:World):Prop:=∃N gS wS,runN P N (lone fr cs w)=.next (solo gS wS)/\Fe gS/\Stop gS wS
section
variable{P:Program}{Stop:Goroutine->World->Prop}{fr fr' b:Frame}{cs fu:List Frame}{w w':World}{a:Act}{k:List Item}
def bc(h:Stop {frame:=fr,callers:=cs,status:=.running,dying:=none} w):bS P Stop fr cs w:=⟨0,_,w,rfl,⟨rfl,rfl⟩,h⟩
def bD(h:step P (lone fr cs w)=.next (lone fr' fu w'))(h':bS P Stop fr' fu w'):bS P Stop fr cs w:=by obtain⟨N,gS,wS,h1,h2,h3⟩:=h';exact⟨N+1,gS,wS,by simp only[runN,h];exact h1,h2,h3⟩
def cT(h:Steps P (lone fr cs w) (lone fr' fu w'))(h':bS P Stop fr' fu w'):bS P Stop fr cs w:=by obtain⟨N,gS,wS,h1,h2,h3⟩:=h';obtain⟨n,hn⟩:=h;exact⟨n+N,gS,wS,by rw[runN_add,hn];exact h1,h2,h3⟩
def abC{x y}(h:bS P Stop (b.at a (.code x::.code y::k)) cs w):bS P Stop (b.at a (.code (.seq x y)::k)) cs w:=bD step_seq h
def Yx{c}(h:bS P Stop (b.at a (.code c::.inLoop c::k)) cs w):bS P Stop (b.at a (.code (.loop c)::k)) cs w:=bD step_loop h
def dA{c}(h:bS P Stop (b.at a (.code c::.inLoop c::k)) cs w):bS P Stop (b.at a (.inLoop c::k)) cs w:=bD step_inLoop h
def To{id c}(h:bS P Stop (b.at a (.code c::.inBlock id::k)) cs w):bS P Stop (b.at a (.code (.block id c)::k)) cs w:=bD step_block h
def db{id}(h:bS P Stop (b.at a k) cs w):bS P Stop (b.at a (.inBlock id::k)) cs w:=bD step_inBlock h
def Yv(h:bS P Stop (b.at a k) cs w):bS P Stop (b.at a (.code .skip::k)) cs w:=bD step_skip h
def Yy{id k'}(hk:exitTo id k=some k')(h:bS P Stop (b.at a k') cs w):bS P Stop (b.at a (.code (.exit id)::k)) cs w:=bD (step_exit hk) h
def YA{c x y t}(hc:a.eval c=.bool t)(h:bS P Stop (b.at a (.code (if t then x else y)::k)) cs w):bS P Stop (b.at a (.code (.cond c x y)::k)) cs w:=bD (step_cond hc) h
def bI(h:∀τ n,bS P Stop fr cs (w.re τ n)):DQ P Stop {frame:=fr,callers:=cs,status:=.running,dying:=none} w:=h
def bR{ops}(h:bS P Stop (b.at a k) cs w):bS P Stop (b.at a (.inRegion ops []::k)) cs w:=bD step_region_end h
def mN{o}(h:o.guard=none) y:Region.wanted o y=true:=by unfold Region.wanted;rw[h]
def jD{ops i rest o v}(ho:ops[i]? =some o)(hg:o.guard=none)(hr:(execOp a.eval o).run P w=.ok (.value v) w')(h:bS P Stop (b.at (a.put o.dst v) (.inRegion ops rest::k)) cs w'):bS P Stop (b.at a (.inRegion ops (i::rest)::k)) cs w:=by
 have hf:(b.at a (.inRegion ops (i::rest)::k)).finish v=b.at (a.put o.dst v) (.inRegion ops rest::k):=by rw[Frame.finish_at,ho];rfl
 have hs:step P (lone (b.at a (.inRegion ops (i::rest)::k)) cs w)=.next (lone ((b.at a (.inRegion ops (i::rest)::k)).finish v) cs w'):=step_lone_go (by rw[stepG_op ho (mN hg _)];unfold stepG.apply;simp only[if_true,Sem.runT_eq,hr];rfl);rw[hf]at hs;exact bD hs h
end
end Tp
namespace Tp
open Go.Conc
abbrev fS(fr:Frame)(cs:List Frame):Goroutine:={frame:=fr,callers:=cs,status:=.running,dying:=none}
def Fit(a:Goroutine):Prop:=Ld a/\a.dying=none
def ef(P:Program)(Stop:Goroutine->World->Prop)(a:Goroutine)(w:World):Prop:=Fit a->∀τ n,C7 P (λg u=>Fit g/\Stop g u) a (w.re τ n)
section
variable{P:Program}{Stop CD:Goroutine->World->Prop}{a:Goroutine}{w:World}
def ef.re(h:ef P Stop a w) τ n:ef P Stop a (w.re τ n):=λhf DR n'=>h hf DR n'
def ef.self(h:ef P Stop a w)(hf:Fit a):C7 P (λg u=>Fit g/\Stop g u) a w:=h hf w.tape w.drawn
theorem ef.stop(hS:∀τ n,Stop a (w.re τ n)):ef P Stop a w:=λhf τ n=>.stop ⟨hf,hS τ n⟩
def ef.trans(h:ef P Stop a w)(h':∀a' w',Stop a' w'->ef P CD a' w'):ef P CD a w:=λhf τ n=>(h hf τ n).trans λa' w' s=>(h' a' w' s.2).self s.1
theorem Ou(hB:bu P):∀N {g gS:Goroutine}{w wS:World},Fit g->runN P N (solo g w)=.next (solo gS wS)->Fe gS->Fit gS
 |0,g,gS,w,wS,hf,hr,_=>by injection hr with hr;obtain⟨rfl,rfl⟩:=jU hr;exact hf
 |N+1,g,gS,w,wS,hf,hr,hg=>by obtain⟨g',w',ops,k,h1,h2,_,h4⟩:=vX hB hf.1 hf.2 hr hg;exact Ou hB N ⟨h1,h2⟩ h4 hg
def br(hB:bu P)(h:DQ P (ef P Stop) a w):ef P Stop a w:=λhf τ n=>by
 have h1:DQ P (λg u=>Fit g/\ef P Stop g u) a (w.re τ n):=λDR n'=>by obtain⟨N,gS,wS,h1,h2,h3⟩:=h DR n';exact⟨N,gS,wS,h1,h2,Ou hB N hf h1 h2,h3⟩
 have h2:C7 P (λg u=>Fit g/\ef P Stop g u) a (w.re τ n):=KL hB (λg u τ n h=>⟨h.1,h.2.re τ n⟩) hf.1 hf.2 h1;exact h2.trans λa' w' s=>s.2.self s.1
def sS(hB:bu P){fr cs}(h:∀τ n,∃fr' fu w',Steps P (lone fr cs (w.re τ n)) (lone fr' fu w')/\ef P Stop (fS fr' fu) w'):ef P Stop (fS fr cs) w:=br hB λτ n=>by obtain⟨fr',fu,w',⟨N,h1⟩,h2⟩:=h τ n;exact⟨N,fS fr' fu,w',h1,⟨rfl,rfl⟩,h2⟩
end
def eu(P:Program)(f:FuncId)(args:Array Value)(w:World)(R:Value->World->Prop):Prop:=∀(c:Frame)(cs:List Frame)(Stop:Goroutine->World->Prop),(∀v w',R v w'->ef P Stop (fS (c.finish v) cs) w')->ef P Stop (fS (Frame.enter P f args .normal) (c::cs)) w
section
variable{P:Program}{Q Q':Exit->Act->World->Prop}{a:Act}{w:World}
def eu.mono{f args R R'}(h:eu P f args w R)(hr:∀v w',R v w'->R' v w'):eu P f args w R':=λc cs Stop K=>h c cs Stop λv w' r=>K v w' (hr v w' r)
def pY(hB:bu P){f args R}(h:∀τ n,Calls P f args (w.re τ n) λ|.returned v,w'=>R v w'|_,_=>False):eu P f args w R:=λc cs Stop K=>by refine sS hB λτ n=>?_;obtain⟨e,w',fr,hR,hc,_,hl⟩:=h τ n (c::cs);cases e with|returned v=>exact⟨_,_,w',Steps.trans hc (.one (step_leave_returned hl)),K v w' hR⟩|panicked _=>exact hR.elim|outgrown=>exact hR.elim
end
end Tp
namespace Ph
open Go.Conc Rn
open Go.ConcN (sumTo upd sumTo_upd upd_ne upd_same le_sumTo fork_knows)
open Tp (cO Term Ld C7 ef gX)
variable{α:Type}
structure Setup(α:Type) where
 P:Program
 E:Env
 Sh:Nat->Prop
 N:Net α
 cs:List Frame
 fw:FuncId
 ff:FuncId
 aw:Array Value
 af:Array Value
 all:List α
 g0:Goroutine
 gw:Goroutine
 gf:Goroutine
 v0:World
 vw:World
 vf:World
 vn:World
 X0:List Nat
 Xw:List Nat
 Xf:List Nat
def Setup.cfg(S:Setup α)(n:Nat):j9 α:=⟨S.P,S.E,S.Sh,S.N,n,λi=>if i=0 then S.cs else [base S.P],λi=>if i<n+3 then S.fw else S.ff,λi=>if i<n+3 then S.aw else S.af,λX=>∃Y,X=S.X0++Y,S.all.length⟩
def Setup.D(S:Setup α)(n:Nat)(q:Nat->Nat)(i:Nat):Pd α:=if i=0 then⟨.live (.spawn 0),S.g0,S.v0,S.X0⟩else if i<n then⟨.old 0 (q i),S.g0,S.vn,[]⟩else if i<n+3 then⟨.bU .bg,S.gw,S.vw,S.Xw⟩else if i=n+3 then⟨.bU (.feed S.all),S.gf,S.vf,S.Xf⟩else⟨.old 0 0,S.g0,S.vn,[]⟩
def started(P:Program)(f:FuncId)(a:Array Value):Goroutine:={frame:=Frame.enter P f a .deferred,callers:=[base P],status:=.running,dying:=none}
structure YN(S:Setup α)(a:Goroutine)(w:World):Prop where
 law:∀n,yA (S.cfg n)
 gr0:GR S.P S.E S.X0 S.cs S.g0 a
 ace:Term S.P (S.N.Stop (.spawn 0)) S.g0 S.v0
 grw:GR S.P S.E S.Xw [base S.P] S.gw (started S.P S.fw S.aw)
 acb:Term S.P (S.N.Stop .bg) S.gw S.vw
 grf:GR S.P S.E S.Xf [base S.P] S.gf (started S.P S.ff S.af)
 acd:Term S.P (S.N.Stop (.feed S.all)) S.gf S.vf
 wr0:WR S.E S.Sh S.X0 (S.v0.re w.tape w.drawn) w
 wrw:WR S.E S.Sh S.Xw (S.vw.re w.tape w.drawn) w
 wrf:WR S.E S.Sh S.Xf (S.vf.re w.tape w.drawn) w
 wrn:WR S.E S.Sh [] (S.vn.re w.tape w.drawn) w
 d0w:∀b∈S.X0,b∈S.Xw->S.Sh b
 d0f:∀b∈S.X0,b∈S.Xf->S.Sh b
 dww:∀b∈S.Xw,S.Sh b
 CZ:∃s r,w.heap[S.N.J]? =some (.chan 0 #[] false s r false)
 DF:∃s r,w.heap[S.N.R]? =some (.chan 0 #[] false s r false)
 GJ:w.heap[S.N.D]? =some (.chan 3 #[] false 0 0 false)
 ne:S.N.J≠S.N.R/\S.N.J≠S.N.D/\S.N.R≠S.N.D
def adz(S:Setup α)(w:World)(a':Goroutine)(w':World):Prop:=∃(bC:List α)(X:List Nat)(g:Goroutine)(v:World)(Xf:List Nat)(gf:Goroutine)(vf:World),GR S.P S.E X S.cs (Go.Conc.served g (.tuple #[S.N.zR,.bool false])) a'/\a'.offers=none/\S.N.A (.aZ bC) g v/\(∀p,bC.countP p=S.all.countP p)/\WR S.E S.Sh X (v.re w'.tape w'.drawn) w'/\(∃Y,X=S.X0++Y/\∀b∈Y,w.heap.size<=b)/\S.N.A .dk gf vf/\WR S.E S.Sh Xf (vf.re w'.tape w'.drawn) w'/\(∃Y,Xf=S.Xf++Y)/\w.heap.size<=w'.heap.size/\(∀b,b<w.heap.size->b≠S.N.J->b≠S.N.R->b≠S.N.D->((b∉S.X0/\b∉S.Xw/\b∉S.Xf)∨S.Sh b)->w'.heap[b]? =w.heap[b]?)/\w'.os=w.os/\w'.output=w.output/\w'.tape=w.tape
def UL{f m j}(hj:j<m)(h:∀i,i<m->i≠j->f i=0):sumTo m f=f j:=by
 have e1:sumTo m f=sumTo m (λi=>if i=j then f j else 0):=sumTo_congr m λi hi=>by by_cases h0:i=j;subst h0;rw[if_pos rfl];rw[if_neg h0];exact h i hi h0
 have e2:=u5 (f:=λ_=>0) (g:=λi=>if i=j then f j else 0) (m:=m) (i:=j) hj (λk hk=>if_neg hk);have e3:∀m,sumTo m (λ_=>0)=0:=by intro m;induction m with|zero=>rfl|succ m ih=>show sumTo m _+0=0;rw[ih]
 rw[e3]at e2;simp at e2;rw[e1];exact e2
theorem zp{f}:∀ {m:Nat},(∀i,i<m->f i=0)->sumTo m f=0
 |0,_=>rfl|m+1,h=>by show sumTo m f+f m=0;rw[zp (λi hi=>h i (by omega)),h m (by omega)]
section
variable{S:Setup α}{a:Goroutine}{w:World}{gs:Array Goroutine}{t:Trace}{q:Nat->Nat}
def Setup.cases(S:Setup α) n q{i}(hi:i<n+4){p:Pd α->Prop}(h0:i=0->p ⟨.live (.spawn 0),S.g0,S.v0,S.X0⟩)(h1:0<i->i<n->p ⟨.old 0 (q i),S.g0,S.vn,[]⟩)(h2:n<=i->i<n+3->p ⟨.bU .bg,S.gw,S.vw,S.Xw⟩)(h3:i=n+3->p ⟨.bU (.feed S.all),S.gf,S.vf,S.Xf⟩):p (S.D n q i):=by unfold Setup.D;split;exact h0 ‹_›;split;exact h1 (by omega) ‹_›;split;exact h2 (by omega) ‹_›;split;exact h3 ‹_›;omega
def Qs(h:YN S a w)(h0:gs[0]? =some a)(hL:Leavers S.P t gs q):Inv (S.cfg gs.size) S.all gs w t (S.D gs.size q) false false 0 0:=by
 have hp:0<gs.size:=(Array.getElem?_eq_some_iff.1 h0).1;have j1:=λ(i:Nat) (hi:i<gs.size+4) (p:Pd α->Prop)=>@Setup.cases α S gs.size q i hi p;refine⟨hp,λi hi=>?_,by show gs.size<=gs.size+4;omega,λi hi=>?_,λi j hi hj kx b=>?_,.inl ⟨0,by omega,?_,rfl⟩,h.CZ,h.DF,?_,h.ne,?_⟩;refine j1 i hi (λd=>Ok (S.cfg gs.size) t i gs[i]? d) ?_ ?_ ?_ ?_;rintro rfl;exact⟨a,h0,h.gr0,h.ace⟩;intro h1 h2;refine⟨⟨gs[i],Array.getElem?_eq_getElem h2,hL.old i _ h1 (Array.getElem?_eq_getElem h2)⟩,λe=>by cases e⟩;intro h1 h2;have e:i≠0:=by omega
 refine⟨Array.getElem?_eq_none (by omega),if_neg e,?_,h.acb⟩;show GR S.P S.E S.Xw (if i=0 then S.cs else [base S.P]) S.gw (started S.P (if i<gs.size+3 then S.fw else S.ff) (if i<gs.size+3 then S.aw else S.af));rw[if_neg e,if_pos h2,if_pos h2];exact h.grw;intro h3;have e:i≠0:=by omega
 have e2:¬i<gs.size+3:=by omega
 refine⟨Array.getElem?_eq_none (by omega),if_neg e,?_,h.acd⟩;show GR S.P S.E S.Xf (if i=0 then S.cs else [base S.P]) S.gf (started S.P (if i<gs.size+3 then S.fw else S.ff) (if i<gs.size+3 then S.aw else S.af));rw[if_neg e,if_neg e2,if_neg e2];exact h.grf;exact j1 i hi (λd=>jf (S.cfg gs.size) w d) (λ_=>h.wr0) (λ_ _=>h.wrn) (λ_ _=>h.wrw) (λ_=>h.wrf);show b∈(S.D gs.size q i).X->b∈(S.D gs.size q j).X->S.Sh b;refine j1 i hi (λd=>b∈d.X->b∈(S.D gs.size q j).X->S.Sh b) ?_ ?_ ?_ ?_;intro fy hb;refine j1 j hj (λd=>b∈d.X->S.Sh b) (λXi=>absurd (fy.trans Xi.symm) kx) (λ_ _ hb=>by cases hb) (λ_ _=>h.d0w b hb) (λ_=>h.d0f b hb);intro _ _ hb;cases hb;intro _ _ hb _;exact h.dww b hb;intro TZ hb;refine j1 j hj (λd=>b∈d.X->S.Sh b) (λ_ nC=>h.d0f b nC hb) (λ_ _ hb=>by cases hb) (λ_ _ nC=>h.dww b nC) (λhj3=>absurd (TZ.trans hj3.symm) kx);show(S.D gs.size q 0).st=_;unfold Setup.D;rw[if_pos rfl];show w.heap[S.N.D]? =some (.chan 3 (Array.replicate (0-0) S.N.dv) false 0 0 false);exact h.GJ;have hn:(S.cfg gs.size).n=gs.size:=rfl;refine⟨λi hi=>?_,λp=>?_,ν,?_,λi hi=>?_,λi j hi hj=>?_,λi j hi hj=>?_,λi k hi=>?_,ν⟩;unfold j9.rl;rw[hn];refine j1 i hi (λd=>d.st.role=if i=0 then 3 else if i<gs.size then 0 else if i<gs.size+3 then 1 else 2) ?_ ?_ ?_ ?_;intro e;rw[if_pos e];rfl;intro e1 e2;rw[if_neg (by omega),if_pos e2];rfl;intro e1 e2;rw[if_neg (by omega),if_neg (by omega),if_pos e2];rfl;intro e;rw[if_neg (by omega),if_neg (by omega),if_neg (by omega)];rfl;have hj:gs.size+3<gs.size+4:=by omega
 refine(UL (j:=gs.size+3) hj λi hi cE=>?_).trans ?_;refine j1 i hi (λd=>d.st.tok p=0) (λ_=>rfl) (λ_ _=>rfl) (λ_ _=>rfl) (λe=>absurd e cE);refine j1 _ hj (λd=>d.st.tok p=S.all.countP p) (λe=>by omega) (λ_ e=>by omega) (λ_ e=>by omega) (λ_=>rfl);refine(zp λi hi=>?_).symm;refine j1 i hi (λd=>d.st.said=0) (λ_=>rfl) (λ_ _=>rfl) (λ_ _=>rfl) (λ_=>rfl);refine j1 i hi (λd=>fi false false 0 d.st) (λ_=>trivial) (λ_ _=>trivial) (λ_ _=>rfl) (λ_=>⟨rfl,rfl,rfl⟩);refine j1 i hi (λd=>d.st=.bd .bg->_) ?_ ?_ ?_ ?_<;>(intros;simp_all);intro a g;refine j1 i hi (λd=>d.st=.bd (.b9 a)->_) ?_ ?_ ?_ ?_<;>(intros;simp_all);refine j1 i hi (λd=>d.st=.bd (.bx k)->_) ?_ ?_ ?_ ?_<;>(intros;simp_all)
def UN(h0:gs[0]? =some a)(hL:Leavers S.P t gs q)(hP:gX t):Tr (S.cfg gs.size) t (S.D gs.size q) 0 0:=by
 have hp:0<gs.size:=(Array.getElem?_eq_some_iff.1 h0).1;have j1:=λ(i:Nat) (hi:i<gs.size+4) (p:Pd α->Prop)=>@Setup.cases α S gs.size q i hi p;have aM:∀i,(S.cfg gs.size).gN i->i<gs.size+4:=λi hi=>by rcases hi with rfl|⟨_,hi⟩;omega;exact hi
 refine⟨hP.clean,λp a ha hm=>.inl λi hi hu=>?_,λi hi _=>?_,λi q' hi=>?_,λq'=>?_,λj hj=>hL.above j (by have:(S.cfg gs.size).n=gs.size:=rfl;omega)⟩;have:i=0:=by revert hu;refine j1 i (aM i hi) (λd=>(∀c,d.st≠.bU c)->i=0) (λe _=>e) (λe1 e2 _=>?_) (λ_ _ hu=>absurd rfl (hu _)) (λ_ hu=>absurd rfl (hu _));rcases hi with hi|⟨hi,_⟩;exact hi;have:(S.cfg gs.size).n=gs.size:=rfl;omega
 subst this;exact hP.known p a ha hm;rcases hi with rfl|⟨hi,_⟩;exact hP.hears;exact hL.above i hi;refine j1 i hi (λd=>d.st=.old 1 q'->_) ?_ ?_ ?_ ?_<;>(intros;simp_all);refine j1 (gs.size+3) (by omega) (λd=>d.st=.old 2 q'->_) ?_ ?_ ?_ ?_<;>(intros;simp_all)
def Tl(h:YN S a w):C7 S.P (adz S w) a w:=by
 intro gs sl t q h0 hL hP;have hp:0<gs.size:=(Array.getElem?_eq_some_iff.1 h0).1;have eX:∀i,(S.cfg gs.size).n<=i->i< (S.cfg gs.size).n+4->(S.cfg gs.size).R i=[base (S.cfg gs.size).P]:=λi hi _=>by have:(S.cfg gs.size).n=gs.size:=rfl;exact if_neg (by omega)
 obtain⟨N,gs',w',oY,t',D',cF,hk,hf⟩:=phase (sl:=sl) (h.law gs.size) eX (Qs h h0 hL) (UN h0 hL hP) ⟨[],by unfold Setup.D;rw[if_pos rfl];exact(List.append_nil _).symm⟩;obtain⟨bC,a',h1,h2,h2o,h3,h4⟩:=hf.start;obtain⟨q',hq'⟩:=hf.leave;have hz:(0:Nat)<gs.size+4:=by omega
 have hf3:gs.size+3<gs.size+4:=by omega
 have e0:(S.D gs.size q 0).X=S.X0:=by unfold Setup.D;rw[if_pos rfl]
 have e3:(S.D gs.size q (gs.size+3)).X=S.Xf:=by refine S.cases gs.size q hf3 (p:=λd=>d.X=S.Xf) (λe=>by omega) (λ_ e=>by omega) (λ_ e=>by omega) (λ_=>rfl)
 obtain⟨Y,hY,hY2⟩:=hk.grow 0;obtain⟨Z,hZ,_⟩:=hk.grow (gs.size+3);rw[e0]at hY;rw[e3]at hZ;have s0:WR S.E S.Sh (D' 0).X ((D' 0).v.re w'.tape w'.drawn) w':=hf.vd 0 hz;have s3:WR S.E S.Sh (D' (gs.size+3)).X ((D' (gs.size+3)).v.re w'.tape w'.drawn) w':=hf.vd (gs.size+3) hf3;refine⟨N,gs',a',w',oY,t',q',cF,h1,hq',hf.asw,bC,(D' 0).X,(D' 0).g,(D' 0).v,(D' (gs.size+3)).X,(D' (gs.size+3)).g,(D' (gs.size+3)).v,h2,h2o,h3,h4,s0,⟨Y,hY,hY2⟩,hf.aiV,s3,⟨Z,hZ⟩,hk.size,λb hb n1 n2 n3 hx=>?_,hk.os,hk.output,hk.tape⟩;refine hk.heap b hb n1 n2 n3 (hx.imp (λhx i hi=>?_) id);exact S.cases gs.size q hi (p:=λd=>b∉d.X) (λ_=>hx.1) (λ_ _=>by simp) (λ_ _=>hx.2.1) (λ_=>hx.2.2)
end
end Ph
namespace Tp
open Go.Conc
def om(ops:Array Oper)(p:List Nat->Bool):Nat->Array Bool->List Nat->Bool
 |0,_,acc=>p acc.reverse|fuel+1,listed,acc=>match Region.ready .any ops listed with
  |[]=>p acc.reverse
  |x::r=>(x::r).all λi=>om ops p fuel (listed.setIfInBounds i true) (i::acc)
theorem Fa{ops p}:∀fuel t listed acc,om ops p fuel listed acc=true->p (Region.linearise.go .any ops fuel t listed acc)=true
 |0,t,listed,acc,h=>h|fuel+1,t,listed,acc,h=>by
  simp only[Region.linearise.go];change p (match(Region.ready .any ops listed)[t % (Region.ready .any ops listed).length]? with
   |some i=>Region.linearise.go .any ops fuel (t/(Region.ready .any ops listed).length) (listed.setIfInBounds i true) (i::acc)
   |none=>acc.reverse)=true
  unfold om at h;cases hr:Region.ready .any ops listed with|nil=>rw[hr]at h;exact h|cons x r=>rw[hr]at h;cases hi:(x::r)[t % (x::r).length]? with|none=>have aM:t % (x::r).length< (x::r).length:=Nat.mod_lt _ (by simp);rw[List.getElem?_eq_none_iff]at hi;omega|some i=>dsimp only at h|-;rw[List.all_eq_true]at h;exact Fa fuel _ _ _ (h i (List.mem_of_getElem? hi))
def Ef{P:Program}{ops p}(hm:P.follows .mixedOrders=true)(h:om ops p ops.size (Array.replicate ops.size false) []=true) t:p (Region.schedule (P.follows .mixedOrders) ops t)=true:=by simp only[Region.schedule,hm,Bool.true_or,if_true];exact Fa ops.size t _ _ h
def lastB(s:Nat)(l:List Nat):Bool:=l.getLast?==some s&& !l.dropLast.contains s
def AZ{s l}(h:lastB s l=true):∃l1,l=l1++[s]/\s∉l1:=by unfold lastB at h;rw[Bool.and_eq_true,beq_iff_eq,Bool.not_eq_true',<-Bool.not_eq_true,List.contains_iff_mem]at h;obtain⟨l1,rfl⟩:=List.getLast?_eq_some_iff.1 h.1;exact⟨l1,rfl,by simpa using h.2⟩
def LH{ops pt}(hs:pt.size=ops.size)(ha:∀i:Nat,(pt[i]?).map (λo:Oper=>o.after)=(ops[i]?).map (λo:Oper=>o.after)) listed:Region.ready .any pt listed=Region.ready .any ops listed:=by
 unfold Region.ready;rw[hs];refine List.filter_congr λi _=>?_;have h:=ha i;cases h1:pt[i]? with
 |none=>rw[h1]at h;cases h2:ops[i]? with|none=>rfl|some o=>rw[h2]at h;cases h
 |some o'=>rw[h1]at h;cases h2:ops[i]? with
 |none=>rw[h2]at h;cases h
 |some o=>rw[h2]at h;have:o'.after=o.after:=Option.some.inj h;simp only[Option.map_some,this]
theorem go_same{ops pt}(hs:pt.size=ops.size)(ha:∀i:Nat,(pt[i]?).map (λo:Oper=>o.after)=(ops[i]?).map (λo:Oper=>o.after)):∀fuel t listed acc,Region.linearise.go .any pt fuel t listed acc=Region.linearise.go .any ops fuel t listed acc
 |0,_,_,_=>rfl|fuel+1,t,listed,acc=>by
  simp only[Region.linearise.go];change (match(Region.ready .any pt listed)[t % (Region.ready .any pt listed).length]? with
   |some i=>Region.linearise.go .any pt fuel (t/(Region.ready .any pt listed).length) (listed.setIfInBounds i true) (i::acc)
   |none=>acc.reverse)=(match(Region.ready .any ops listed)[t % (Region.ready .any ops listed).length]? with
   |some i=>Region.linearise.go .any ops fuel (t/(Region.ready .any ops listed).length) (listed.setIfInBounds i true) (i::acc)
   |none=>acc.reverse)
  rw[LH hs ha];cases(Region.ready .any ops listed)[t % (Region.ready .any ops listed).length]? with|none=>rfl|some i=>exact go_same hs ha fuel _ _ _
def sn{P:Program}{ops pt}(hm:P.follows .mixedOrders=true)(hs:pt.size=ops.size)(ha:∀i:Nat,(pt[i]?).map (λo:Oper=>o.after)=(ops[i]?).map (λo:Oper=>o.after)) t:Region.schedule (P.follows .mixedOrders) pt t=Region.schedule (P.follows .mixedOrders) ops t:=by simp only[Region.schedule,hm,Bool.true_or,if_true];unfold Region.linearise;rw[hs];exact go_same hs ha _ _ _ _
section
variable{P:Program}{ops pt:Array Oper}{Q:Exit->Act->World->Prop}
theorem m8(hQ:∀e a w,Q e a w->e=.normal):∀l a w,wpOps P ops Q l a w->∀r (b:Frame)(k)(cs),∃a' w',Q .normal a' w'/\Steps P (lone (b.at a (.inRegion ops (l++r)::k)) cs w) (lone (b.at a' (.inRegion ops r::k)) cs w')
 |[],a,w,h,r,b,k,cs=>⟨a,w,h,.refl _ _⟩|i::l,a,w,h,r,b,k,cs=>by
  have ih:=λa w h=>m8 hQ l a w h r b k cs;rw[List.cons_append];simp only[wpOps]at h;cases ho:ops[i]? with
  |none=>simp only[ho]at h;obtain⟨a',w',hq,aT⟩:=ih a w h;have hs:=step_op_skip (P:=P) (b:=b) (a:=a) (k:=k) (cs:=cs) (w:=w) (ops:=ops) (i:=i) (rest:=l++r) (by simp[ho]);simp only[ho,Option.bind_none,Act.put]at hs;exact⟨a',w',hq,.head hs aT⟩
  |some o=>
  simp only[ho]at h;by_cases hw:Region.wanted o (yielded ops a.tmps)=true
  ·simp only[hw,if_true]at h;rcases h with h|⟨_,avB,aqV,hq⟩;case inr=>have:=hQ _ _ _ hq;cases this
   simp only[Oper.wp,Oper.upon]at h;have hg:=stepG_op (P:=P) (b:=b) (k:=k) (cs:=cs) (w:=w) (rest:=l++r) ho hw;have iY:∀v,(b.at a (.inRegion ops (i::(l++r))::k)).finish v=b.at (a.put o.dst v) (.inRegion ops (l++r)::k):=by intro v;rw[Frame.finish_at,ho];rfl
   split at h;rename_i v w' hr;obtain⟨a',uR,hq,aT⟩:=ih _ _ h;refine⟨a',uR,hq,.head (step_lone_go ?_) aT⟩;rw[hg,<-iY];simp[stepG.apply,hr];rename_i w' hr;obtain⟨a',uR,hq,aT⟩:=ih _ _ h;refine⟨a',uR,hq,.head (step_lone_go ?_) aT⟩;rw[hg,<-iY];simp[stepG.apply,hr];rename_i d w' hr;obtain⟨a',uR,hq,aT⟩:=ih _ _ h;refine⟨a',uR,hq,.head (step_lone_go ?_) aT⟩;have:({b.at a (.inRegion ops (i::(l++r))::k)with defers:=d::a.defers}:Frame).finish undef =
     b.at ({a with defers:=d::a.defers}.put o.dst undef) (.inRegion ops (l++r)::k):=by
    have:=Frame.finish_at b {a with defers:=d::a.defers} ops i (l++r) k undef
    rw[ho]at this;exact this
   rw[hg];simp only[stepG.apply,Sem.runT_eq,hr,GStep.bare_after];exact congrArg (λfr=>GStep.go {frame:=fr,callers:=cs,status:=.running,dying:=none} w') this;rename_i f args w' hr;obtain⟨e,uR,fr,hR,MP,_,aik⟩:=h (b.at a (.inRegion ops (i::(l++r))::k)::cs);have M6:step P (lone (b.at a (.inRegion ops (i::(l++r))::k)) cs w)=.next (lone (Frame.enter P f args .normal) (b.at a (.inRegion ops (i::(l++r))::k)::cs) w'):=
    step_lone_go (by rw[hg];simp[stepG.apply,hr,Frame.at])
   cases e with
   |returned v=>obtain⟨a',adD,hq,aT⟩:=ih _ _ hR;refine⟨a',adD,hq,.head M6 (Steps.trans MP (.head ?_ aT))⟩;rw[<-iY];exact step_leave_returned aik
   |panicked chain=>have:=hQ _ _ _ hR;cases this
   |outgrown=>obtain⟨avB,aqV,hq⟩:=hR;have:=hQ _ _ _ hq;cases this
   rename_i row args w' hr;obtain⟨v,uR,hR,MP⟩:=h (b.at a (.inRegion ops (i::(l++r))::k)) cs;have M6:step P (lone (b.at a (.inRegion ops (i::(l++r))::k)) cs w)=.next (lone (Frame.ofRow P row args .normal) (b.at a (.inRegion ops (i::(l++r))::k)::cs) w'):=
    step_lone_go (by rw[hg];simp[stepG.apply,hr,Frame.at])
   obtain⟨a',adD,hq,aT⟩:=ih _ _ hR;exact⟨a',adD,hq,.head M6 (Steps.trans (by rw[<-iY];exact MP) aT)⟩;have:=hQ _ _ _ h;cases this;exact h.elim
  simp only[hw,if_false,Bool.false_eq_true]at h;obtain⟨a',w',hq,aT⟩:=ih _ _ h;have hs:=step_op_skip (P:=P) (b:=b) (a:=a) (k:=k) (cs:=cs) (w:=w) (ops:=ops) (i:=i) (rest:=l++r) (by simp[ho];simpa using hw);simp only[ho,Option.bind_some]at hs;exact⟨a',w',hq,.head hs aT⟩
def Nl(o:Oper):Oper:={o with op:=.move (.const undef),dst:=none}
def jl(ops:Array Oper)(s:Nat):Array Oper:=match ops[s]? with
 |some o=>ops.setIfInBounds s (Nl o)
 |none=>ops
def PV{s j}(h:j≠s):(jl ops s)[j]? =ops[j]?:=by unfold jl;split;rw[Array.getElem?_setIfInBounds_ne (Ne.symm h)];rfl
def wv s:(jl ops s).size=ops.size:=by unfold jl;split<;>simp
def sQ(s i:Nat):((jl ops s)[i]?).map (λo:Oper=>o.after)=(ops[i]?).map (λo:Oper=>o.after):=by by_cases h:i=s;subst h;unfold jl;split;rename_i o ho;have aM:i<ops.size:=(Array.getElem?_eq_some_iff.1 ho).1;rw[Array.getElem?_setIfInBounds_self_of_lt aM,ho];rfl;rfl;rw[PV h]
def OO(ops:Array Oper):Prop:=∀(i:Nat) o,ops[i]? =some o->o.guard=none
def iW(ops:Array Oper):Bool:=ops.toList.all λo=>o.guard.isNone
def pC(h:iW ops=true):OO ops:=λi o ho=>by unfold iW at h;rw[List.all_eq_true]at h;have:=h o (by simpa using Array.mem_of_getElem? ho);simpa using this
theorem nF{s o}(hg:OO ops)(ho:ops[s]? =some o)(hQ:∀e a w,Q e a w->e=.normal):∀l a w,s∉l->wpOps P (jl ops s) Q (l++[s]) a w->wpOps P ops Q l a w
 |[],a,w,_,h=>by
  have aM:s<ops.size:=(Array.getElem?_eq_some_iff.1 ho).1;have hf:(jl ops s)[s]? =some (Nl o):=by unfold jl;rw[ho];exact Array.getElem?_setIfInBounds_self_of_lt aM
  rw[List.nil_append]at h;simp only[wpOps,hf]at h;rw[mN (show(Nl o).guard=none from hg s o ho)]at h;simp only[if_true]at h;rcases h with h|⟨_,_,_,hq⟩;exact h;have:=hQ _ _ _ hq;cases this
 |i::l,a,w,hs,h=>by rw[List.cons_append]at h;have hi:i≠s:=λe=>hs (by rw[e];exact List.mem_cons_self);have ih:=λa w=>nF hg ho hQ l a w (λhm=>hs (List.mem_cons_of_mem _ hm));simp only[wpOps,PV hi]at h|-;cases MT:ops[i]? with|none=>simp only[MT]at h|-;exact ih a w h|some oi=>simp only[MT]at h|-;rw[mN (hg i oi MT)]at h|-;simp only[if_true]at h|-;rcases h with h|⟨h1,h2⟩;exact .inl (Oper.wp_mono ih h);exact .inr ⟨h1,h2⟩
def zf{S}(hm:P.follows .mixedOrders=true){a w}(h:wpAnyH P .any ops Q S ops.size (Array.replicate ops.size false) a w) t:wpOps P ops Q (Region.schedule (P.follows .mixedOrders) ops t) a w:=by simp only[Region.schedule,hm,Bool.true_or,if_true];exact wpAny_sound ops.size t _ a _ (wpAny_of_held _ _ _ _ h)
def LG{S id s o}(hm:P.follows .mixedOrders=true)(hl:om ops (lastB s) ops.size (Array.replicate ops.size false) []=true)(hg:iW ops=true)(ho:ops[s]? =some o)(hQ:∀e a w,Q e a w->e=.normal){a w} (h:wpAnyH P .any (jl ops s) Q S (jl ops s).size (Array.replicate (jl ops s).size false) a {w with drawn:=w.drawn+1}) (b:Frame) k cs:∃a' w',Q .normal a' w'/\Steps P (lone (b.at a (.code (.region id ops true)::k)) cs w) (lone (b.at a' (.inRegion ops [s]::k)) cs w'):=by have h1:=zf hm h (w.tape w.drawn (.order b.fn id));rw[sn hm (wv s) (sQ s)]at h1;obtain⟨l,hls,hs⟩:=AZ (Ef hm hl (w.tape w.drawn (.order b.fn id)));have aT:=step_region_draw (P:=P) (b:=b) (a:=a) (k:=k) (cs:=cs) (w:=w) (ops:=ops) (id:=id);rw[hls]at h1 aT;obtain⟨a',w',hq,h2⟩:=m8 hQ l a _ (nF (pC hg) ho hQ l a _ hs h1) [s] b k cs;exact⟨a',w',hq,.head aT h2⟩
def IX{id s r}(hr:List.range ops.size=List.range s++r)(hQ:∀e a w,Q e a w->e=.normal){a w}(h:wpOps P ops Q (List.range s) a w)(b:Frame) k cs:∃a' w',Q .normal a' w'/\Steps P (lone (b.at a (.code (.region id ops false)::k)) cs w) (lone (b.at a' (.inRegion ops r::k)) cs w'):=by have aT:=step_region (P:=P) (b:=b) (a:=a) (k:=k) (cs:=cs) (w:=w) (ops:=ops) (id:=id);rw[hr]at aT;obtain⟨a',w',hq,h2⟩:=m8 hQ _ a w h r b k cs;exact⟨a',w',hq,.head aT h2⟩
def px(K:Act->World->Prop):Exit->Act->World->Prop
 |.normal,a,w=>K a w|_,_,_=>False
def pw{K}:∀e a w,px K e a w->e=.normal:=λe a w h=>by cases e<;>first|rfl|exact h.elim
end
end Tp
namespace Ph
open Go.Conc Rn
def NI{P} off:QuitsD P 1 0 ⟨base P,[],.running,none,off⟩:=by
 refine .inr ⟨rfl,⟨base P,[],.finished,none,none⟩,#[],by simp,λw=>?_,⟨rfl,rfl⟩⟩;have e1:stepG P false ⟨base P,[],.running,none,off⟩ w=unwind P false (base P) [] none w:=rfl;rw[e1];unfold unwind;have h1:(base P).defers=[]:=rfl;have h2:(base P).mode=.panicking [goexitEntry]:=rfl;have h3:(base P).catches P=false:=by unfold Frame.catches;have:(base P).todo=[]:=rfl;rw[this];split<;>first|rfl|(rename_i h;cases h)
 simp only[h1,h2,h3];rfl
def LZ{P fr fn ops off}(hf:P.funcs[fr.fn]? =some fn)(hr:fn.results=#[])(hm:fr.mode=.run)(ht:fr.todo=[.inRegion ops []])(hd:fr.defers=[])(kK:fr.roundOf=none)(hk:fr.kind=.deferred):QuitsD P 4 0 ⟨fr,[base P],.running,none,off⟩:=by
 refine .inr ⟨rfl,⟨{fr with todo:=[]},[base P],.running,none,none⟩,#[],by simp,λw=>?_,?_⟩;have e1:stepG P false ⟨fr,[base P],.running,none,off⟩ w=stepG.exec P false true fr [base P] none w:=by unfold stepG;simp only[hm]
 rw[e1];unfold stepG.exec;simp only[ht];refine .inr ⟨rfl,⟨{fr with todo:=[],mode:=.returning},[base P],.running,none,none⟩,#[],by simp,λw=>?_,?_⟩;have e1:stepG P false ⟨{fr with todo:=[]},[base P],.running,none,none⟩ w=stepG.exec P false true {fr with todo:=[]} [base P] none w:=by unfold stepG;simp only[hm]
 rw[e1];unfold stepG.exec;simp only[kK];rfl;refine .inr ⟨rfl,⟨base P,[],.running,none,none⟩,#[],by simp,λw=>?_,NI none⟩;have e1:stepG P false ⟨{fr with todo:=[],mode:=.returning},[base P],.running,none,none⟩ w=unwind P false {fr with todo:=[],mode:=.returning} [base P] none w:=rfl;rw[e1];unfold unwind;have n6:(results fn fr.tmps).runT P w #[]=(.ok (.tuple #[]) w,#[]):=by rw[Sem.runT_eq,results_none hr _ P w];exact congrArg (Prod.mk _) (events_results_none hr _ _)
 simp only[hd,hf,n6];unfold doReturn;simp only[hk];rfl
end Ph
namespace Ph
open Go.Conc Rn
open Tp (bu Term Ld bS bc bD cT fS Fit cm bH gH)
def cl:Code->Code
 |.seq x _=>x|c=>c
def cr:Code->Code
 |.seq _ y=>y|c=>c
def ci:Code->Code
 |.block _ c=>c|.loop c=>c|c=>c
def co:Code->Array Oper
 |.region _ o _=>o|_=>#[]
def cb(f:Func):Code:=f.body.getD .skip
def ie(v:World)(l:List Obj):Prop:=∀(i:Nat)(o:Obj),l[i]? =some o->v.heap[i]? =some o
def ie.alloc{v l}(h:ie v l) o:ie (v.alloc o) l:=λi x hx=>by have h1:=h i x hx;have aM:=(Array.getElem?_eq_some_iff.1 h1).1;show(v.heap.push o)[i]? =some x;rw[Array.getElem?_push_lt aM];rw[Array.getElem?_eq_getElem aM]at h1;exact h1
def ie.mk l v(h:v.heap=l.toArray):ie v l:=λi o ho=>by rw[h];simpa using ho
def ie.keep{v w l}(h:ie v l)(hk:∀b,b<l.length->w.heap[b]? =v.heap[b]?):ie w l:=λi o ho=>by rw[hk i (List.getElem?_eq_some_iff.1 ho).1];exact h i o ho
def ie.le{v l}(h:ie v l):l.length<=v.heap.size:=by rcases Nat.lt_or_ge v.heap.size l.length with aM|hge;have:=h v.heap.size l[v.heap.size] (List.getElem?_eq_getElem aM);rw[Array.getElem?_eq_none ν]at this;cases this;exact hge
def eW:Obj:=.cells #[] 0 (0,0)
def fz(c:List Value)(t:TypeId):Obj:=.cells c.toArray t (0,c.length)
def ie.row{v l}(h:ie v l){i c t}(hi:l[i]? =some (fz c t)) j:v.cell? ⟨i,j,none⟩=c[j]?:=by have h1:=h i _ hi;unfold World.cell?;simp only[h1,fz];simp
def XN:Item->Bool
 |.code _|.inBlock _|.inLoop _|.inRegion _ _=>true|_=>false
def Cc{l}(h:l.all XN=true):bH l:=λit hi=>by rw[List.all_eq_true]at h;have:=h it hi;cases it<;>first|trivial|cases this
def SK:gH [wall]:=λc hc=>by rw[List.mem_singleton]at hc;subst hc;exact Cc rfl
def SQ{fr}(h:fr.todo.all XN=true):cm none fr [wall]:=⟨Cc h,SK,λhd=>by cases hd⟩
section
variable{P:Program}{Stop:Goroutine->World->Prop}{b:Frame}{a:Act}{k:List Item}{cs:List Frame}{v w w':World}
def dn(hB:bu P)(hS:∀g w τ n,Stop g w->Stop g (w.re τ n)){fr}(hf:fr.todo.all XN=true)(h:∀τ n,bS P Stop fr [wall] (v.re τ n)):Term P Stop (fS fr [wall]) v:=Tp.te hB hS ⟨rfl,(λd hd=>by cases hd),SQ hf⟩ rfl (Tp.bI h)
def ai9{c}(h:c.wp P (Tp.px λa' w'=>bS P Stop (b.at a' k) cs w') a w):bS P Stop (b.at a (.code c::k)) cs w:=by obtain⟨e,a',w',q,r⟩:=h b k cs;have he:=Tp.pw _ _ _ q;subst he;exact cT r q
def ml{ops l r}(h:wpOps P ops (Tp.px λa' w'=>bS P Stop (b.at a' (.inRegion ops r::k)) cs w') l a w):bS P Stop (b.at a (.inRegion ops (l++r)::k)) cs w:=by obtain⟨a',w',q,hs⟩:=Tp.m8 Tp.pw l a w h r b k cs;exact cT hs q
def KM{id s r ops}(hr:List.range ops.size=List.range s++r)(h:wpOps P ops (Tp.px λa' w'=>bS P Stop (b.at a' (.inRegion ops r::k)) cs w') (List.range s) a w):bS P Stop (b.at a (.code (.region id ops false)::k)) cs w:=by obtain⟨a',w',q,hs⟩:=Tp.IX (id:=id) hr Tp.pw h b k cs;exact cT hs q
def abD{S id s o ops}(hm:P.follows .mixedOrders=true)(hl:Tp.om ops (Tp.lastB s) ops.size (Array.replicate ops.size false) []=true)(hg:Tp.iW ops=true)(ho:ops[s]? =some o) (h:wpAnyH P .any (Tp.jl ops s) (Tp.px λa' w'=>bS P Stop (b.at a' (.inRegion ops [s]::k)) cs w') S (Tp.jl ops s).size (Array.replicate (Tp.jl ops s).size false) a {w with drawn:=w.drawn+1}):bS P Stop (b.at a (.code (.region id ops true)::k)) cs w:=by obtain⟨a',w',q,hs⟩:=Tp.LG (id:=id) hm hl hg ho Tp.pw h b k cs;exact cT hs q
def ay{c x y}(h:c=.seq x y)(h':bS P Stop (b.at a (.code x::.code y::k)) cs w):bS P Stop (b.at a (.code c::k)) cs w:=by subst h;exact Tp.abC h'
def bX{c x id}(h:c=.block id x)(h':bS P Stop (b.at a (.code x::.inBlock id::k)) cs w):bS P Stop (b.at a (.code c::k)) cs w:=by subst h;exact Tp.To h'
def eC{c x}(h:c=.loop x)(h':bS P Stop (b.at a (.code x::.inLoop x::k)) cs w):bS P Stop (b.at a (.code c::k)) cs w:=by subst h;exact Tp.Yx h'
def bT{c x y q t}(h:c=.cond q x y)(hc:a.eval q=.bool t)(h':bS P Stop (b.at a (.code (if t then x else y)::k)) cs w):bS P Stop (b.at a (.code c::k)) cs w:=by subst h;exact Tp.YA hc h'
def da{c}(h:c=.skip)(h':bS P Stop (b.at a k) cs w):bS P Stop (b.at a (.code c::k)) cs w:=by subst h;exact Tp.Yv h'
def eD{c id}(h:c=.exit id){k'}(hk:exitTo id k=some k')(h':bS P Stop (b.at a k') cs w):bS P Stop (b.at a (.code c::k)) cs w:=by subst h;exact Tp.Yy hk h'
def aP{c c'}(e:c=c')(h:c'.wp P (Tp.px λa' w'=>bS P Stop (b.at a' k) cs w') a w):bS P Stop (b.at a (.code c::k)) cs w:=by subst e;exact ai9 h
def wG{c id s r ops}(e:c=.region id ops false)(hr:List.range ops.size=List.range s++r)(h:wpOps P ops (Tp.px λa' w'=>bS P Stop (b.at a' (.inRegion ops r::k)) cs w') (List.range s) a w):bS P Stop (b.at a (.code c::k)) cs w:=by subst e;exact KM hr h
theorem bZ{ops Q}:∀l os,l.map (λi=>ops[i]?)=os.map some->∀a w,wpList P ops Q os a w->wpOps P ops Q l a w
 |[],os,h,a,w,hw=>by
  have:os=[]:=by simpa using h.symm
  subst this;exact hw|i::l,os,h,a,w,hw=>by cases os with|nil=>simp at h|cons o os=>simp only[List.map_cons,List.cons.injEq]at h;unfold wpList at hw;simp only[wpOps,h.1];split at hw;rename_i hg;rw[if_pos hg];exact hw.imp (λx=>Oper.wp_mono (λa' w' h'=>bZ l os h.2 a' w' h') x) id;rename_i hg;rw[if_neg hg];exact bZ l os h.2 _ _ hw
def sq{L:List Oper} n(h:n<=L.length):(List.range n).map (λi=>L.toArray[i]?)=(L.take n).map some:=by apply List.ext_getElem?;intro i;by_cases hi:i<n;simp[hi,List.getElem?_take_of_lt hi,List.getElem?_eq_getElem (show i<L.length by omega)];simp[hi];omega
def ep{c id} s r{L:List Oper}(e:c=.region id L.toArray false)(hr:List.range L.length=List.range s++r)(hs:s<=L.length)(h:wpList P L.toArray (Tp.px λa' w'=>bS P Stop (b.at a' (.inRegion L.toArray r::k)) cs w') (L.take s) a w):bS P Stop (b.at a (.code c::k)) cs w:=by subst e;exact KM (by simpa using hr) (bZ _ _ (sq s hs) _ _ h)
def Yz{c S id s o ops fo}(e:c=.region id ops true)(hm:P.follows .mixedOrders=true)(hl:Tp.om ops (Tp.lastB s) ops.size (Array.replicate ops.size false) []=true)(hg:Tp.iW ops=true)(ho:ops[s]? =some o)(hf:Tp.jl ops s=fo) (h:wpAnyH P .any fo (Tp.px λa' w'=>bS P Stop (b.at a' (.inRegion ops [s]::k)) cs w') S fo.size (Array.replicate fo.size false) a {w with drawn:=w.drawn+1}):bS P Stop (b.at a (.code c::k)) cs w:=by subst e;subst hf;exact abD hm hl hg ho h
def iC{ops i r o}(ho:ops[i]? =some o) x:Go.Conc.served (fS (b.at a (.inRegion ops (i::r)::k)) cs) x=fS (b.at (a.put o.dst x) (.inRegion ops r::k)) cs:=by unfold Go.Conc.served;dsimp only;rw[Frame.finish_at,ho];rfl
def Ck{ops i r o}(ho:ops[i]? =some o) x:dU (fS (b.at a (.inRegion ops (i::r)::k)) cs) x=fS (b.at (a.put o.dst x) (.inRegion ops r::k)) cs:=by unfold dU;dsimp only;rw[Frame.finish_at,ho];rfl
end
end Ph
namespace Rn
def Cs:Nat->Value->Bool
 |0,_=>false|n+1,v=>match v with
  |.bool _|.int _ _|.string _|.pointer none|.slice none _ _|.map none|.chan none|.nilFunc|.nilIface=>true
  |.agg a|.tuple a=>a.toList.all (Cs n)
  |_=>false
theorem wA:∀n v,Cs n v=true->Clean v
 |0,_,h=>by cases h
 |n+1,v,h=>by
  have key:∀a:Array Value,a.toList.all (Cs n)=true->∀(i:Nat) x,a[i]? =some x->Clean x:=λa ha i x hx=>by rw[List.all_eq_true]at ha;exact wA n x (ha x (by have:=Array.mem_of_getElem? hx;simpa using this))
  cases v with
  |bool b=>exact .bool b|int k n=>exact .int k n
  |string s=>exact .string s|pointer a=>cases a with|none=>exact .ptrN|some a=>cases h
  |slice a n c=>cases a with|none=>exact .fj n c|some a=>cases h
  |map a=>cases a with|none=>exact .AU|some a=>cases h
  |chan a=>cases a with|none=>exact .rV|some a=>cases h
  |nilFunc=>exact .nilFunc|nilIface=>exact .nilIface
  |agg a=>exact .agg a (key a h)|tuple a=>exact .tuple a (key a h)
  |_=>cases h
section
variable(P:Program)(fl:List Nat)
def DS(t:TypeId):Bool:=match P.info? t with
 |some i=>match i.zero with
  |some z=>Cs 100 z
  |none=>true
 |none=>true
def sX{t}(h:DS P t=true):jE P t:=λi z hi hz=>by unfold DS at h;rw[hi]at h;dsimp only at h;rw[hz]at h;exact wA _ _ h
def Kn(t:TypeId):Bool:=match P.underlying t with
 |some (.slice e)=>DS P e
 |_=>true
def Cj{t}(h:Kn P t=true):∀e,P.underlying t=some (.slice e)->jE P e:=λe he=>by unfold Kn at h;rw[he]at h;exact sX P h
def Lp(t:TypeId):Bool:=match P.underlying t with
 |some (.struct fs)=>fs.toList.all λf=>match P.info? f.type with
  |some i=>i.size != 0
  |none=>true
 |_=>true
def Qu{t}(h:Lp P t=true):Hj P t:=λfs f i n hu hf hi=>by unfold Lp at h;rw[hu]at h;dsimp only at h;rw[List.all_eq_true]at h;have:=h f (by have:=Array.mem_of_getElem? hf;simpa using this);rw[hi]at this;simpa using this
def X6(s d:TypeId):Bool:=match P.underlying d,P.underlying s with
 |some (.int _),some (.int _)=>true
 |some .string,some (.slice e)=>match P.underlying e with
  |some (.int .u8)=>true
  |_=>false
 |_,_=>false
def XZ{s d}(h:X6 P s d=true):NS P s d:=by unfold X6 at h;split at h;rename_i k j h1 h2;exact .inl ⟨k,j,h1,h2⟩;rename_i e h1 h2;split at h;rename_i h3;exact .inr ⟨h1,e,h2,h3⟩;cases h;cases h
def aal(t:TypeId):Bool:=match P.underlying t with
 |some (.map k e)=>(match P.underlying k with|some .string=>true|_=>false)&&DS P e
 |_=>false
def OU{t}(h:aal P t=true):KV P t:=by unfold aal at h;split at h;rename_i k e h1;rw[Bool.and_eq_true]at h;obtain⟨h2,h3⟩:=h;split at h2;rename_i h4;exact⟨k,e,h1,h4,sX P h3⟩;cases h2;cases h
def LX(t:TypeId):Bool:=match P.underlying t with
 |some (.map _ _)=>true
 |_=>false
def Q0{t}(h:LX P t=true):∀d,P.underlying t=some d->∃k e,d=.map k e:=λd hd=>by unfold LX at h;rw[hd]at h;cases d<;>first|exact⟨_,_,rfl⟩|cases h
def anO:BinOp->Bool
 |.add|.sub|.mul|.and|.or|.xor|.shl|.shr|.lss|.geq=>true|_=>false
def abz{op}(h:anO op=true):uP op:=by cases op<;>first|exact trivial|cases h
def ahF(t:TypeId):Bool:=match P.underlying t with
 |some (.map _ _)|some (.chan _ _)=>false
 |_=>true
def aan{t}(h:ahF P t=true):∀d,P.underlying t=some d->(∀k e,d≠.map k e)/\∀a b,d≠.chan a b:=λd hd=>by unfold ahF at h;rw[hd]at h;refine⟨λk e e1=>?_,λa b e1=>?_⟩<;>subst e1<;>cases h
def ajb(t u:TypeId):Bool:=Kn P t&&match P.underlying u with
 |some (.int _)=>false
 |some _=>true
 |none=>false
def abF{t u}(h:ajb P t u=true):Qf P t u:=by unfold ajb at h;rw[Bool.and_eq_true]at h;refine⟨Cj P h.1,?_⟩;have h2:=h.2;split at h2;cases h2;rename_i d cE hd;exact⟨d,hd,λk e=>by subst e;exact cE k rfl⟩;cases h2
def qB:Operand->Bool
 |.tmp _=>true|.const v=>Cs 100 v|.func f=>fl.contains f|.global _=>false
def pd{E}(hF:∀f∈fl,E.F f){x}(h:qB fl x=true):QX E x:=by cases x with|tmp t=>exact trivial|const v=>exact wA _ _ h|func f=>exact hF f (by simpa[qB]using h)|global g=>cases h
def qoB:Option Operand->Bool
 |none=>true|some x=>qB fl x
def Yi(c:Call):Bool:=c.args.toList.all (qB fl)&&match c.callee with
 |.value f=>qB fl f
 |.builtin .len=>match c.argTypes.toList,c.args.toList with
  |[t],[_]=>ahF P t
  |_,_=>false
 |.builtin .append=>match c.argTypes.toList,c.args.toList with
  |[t,u],[_,_]=>ajb P t u
  |_,_=>false
 |_=>false
def Ht(o:Oper):Bool:=match o.op with
 |.move x|.assign x|.nilCheck x|.load _ x|.box _ x|.extract x _|.entry x=>qB fl x
 |.pick c a b=>qB fl c&&qB fl a&&qB fl b
 |.alloc e=>DS P e
 |.build t l=>DS P t&&l.toList.all λx=>qB fl x.2
 |.buildSlice t _ l=>Kn P t&&l.toList.all λx=>qB fl x.2
 |.store _ a x=>qB fl a&&qB fl x
 |.binOp op _ x y _=>anO op&&qB fl x&&qB fl y
 |.convert s d x=>X6 P s d&&qB fl x
 |.makeFunc (.func f) a c=>fl.contains f&&a.toList.all (qB fl)&&c.toList.all (qB fl)
 |.makeMap _ none=>true
 |.makeSlice t l c=>Kn P t&&qB fl l&&qB fl c
 |.slice _ x a b c=>qB fl x&&qoB fl a&&qoB fl b&&qoB fl c
 |.fieldAddr t x _=>Lp P t&&qB fl x
 |.indexAddr _ x i|.index _ x i=>qB fl x&&qB fl i
 |.lookup t x i _=>aal P t&&qB fl x&&qB fl i
 |.mapUpdate t m k x=>aal P t&&qB fl m&&qB fl k&&qB fl x
 |.range t x=>LX P t&&qB fl x
 |.next x s=> !s&&qB fl x
 |.call c=>Yi P fl c
 |_=>false
def It(o:Oper):Bool:=match o.op with
 |.send ch x=>qB fl ch&&qB fl x
 |.recv _ ch _=>qB fl ch
 |.call c=>(match c.callee with|.builtin .close=>true|_=>false)&&match c.args.toList with
  |[x]=>qB fl x
  |_=>false
 |.go c=>(match c.callee with|.value x=>qB fl x|_=>false)&&c.args.toList.isEmpty
 |_=>false
def ahb(o:Oper):Bool:=o.guard.isNone&& (Ht P fl o || It fl o)
def lI:Code->Bool
 |.region _ ops _=>ops.toList.all (ahb P fl)|.seq a b=>lI a&&lI b|.cond c a b=>qB fl c&&lI a&&lI b|.block _ b|.loop b=>lI b|.exit _|.ret|.skip|.refuse _=>true|_=>false
def Wa{β a}{x:β}(h:a.toList=[x]):a=#[x]:=by apply Array.ext';simpa using h
def acv{β a}{x y:β}(h:a.toList=[x,y]):a=#[x,y]:=by apply Array.ext';simpa using h
def GO{E}(hF:∀f∈fl,E.F f){a:Array Operand}(h:a.toList.all (qB fl)=true):∀x∈a,QX E x:=λx hx=>by rw[List.all_eq_true]at h;exact pd fl hF (h x (by simpa using hx))
def Ew{E}(hF:∀f∈fl,E.F f){a:Array (Nat×Operand)}(h:(a.toList.all λx=>qB fl x.2)=true):∀x∈a,QX E x.2:=λx hx=>by rw[List.all_eq_true]at h;exact pd fl hF (h x (by simpa using hx))
def L5{E}(hF:∀f∈fl,E.F f){x}(h:qoB fl x=true):QO (QX E) x:=by cases x with|none=>exact trivial|some x=>exact pd fl hF h
def Yh{E}(hF:∀f∈fl,E.F f){c}(h:Yi P fl c=true):NT P (QX E) c:=by
 unfold Yi at h;rw[Bool.and_eq_true]at h;obtain⟨h1,h2⟩:=h;refine⟨GO fl hF h1,?_⟩;cases hc:c.callee with
 |value f=>rw[hc]at h2;exact pd fl hF h2|builtin b=>
  rw[hc]at h2;cases b with
  |len=>dsimp only at h2|-;split at h2;rename_i t x e1 e2;exact⟨t,x,Wa e1,Wa e2,aan P h2⟩;cases h2
  |append=>dsimp only at h2|-;split at h2;rename_i t u x y e1 e2;exact⟨t,u,x,y,acv e1,acv e2,abF P h2⟩;cases h2
  |_=>cases h2
 |invoke r n=>rw[hc]at h2;cases h2
def ahv{E}(hF:∀f∈fl,E.F f){o}(h:Ht P fl o=true):abU P E (QX E) o:=by
 obtain⟨dst,op,type,pos,after,guard⟩:=o;have q:=λ{x:Operand} (h:qB fl x=true)=>pd (E:=E) fl hF h;cases op with
 |makeFunc fn a c=>cases fn with|func f=>simp only[Ht,Bool.and_eq_true]at h;exact⟨hF f (by simpa using h.1.1),GO fl hF h.1.2,GO fl hF h.2⟩|_=>cases h
 |makeMap t r=>cases r with|none=>exact trivial|some r=>cases h
 |call c=>exact Yh P fl hF h|move x=>exact q h
 |assign x=>exact q h|nilCheck x=>exact q h
 |load t x=>exact q h|box t x=>exact q h
 |extract x i=>exact q h|entry x=>exact q h
 |pick c a b=>simp only[Ht,Bool.and_eq_true]at h;exact⟨q h.1.1,q h.1.2,q h.2⟩|alloc e=>exact sX P h
 |build t l=>simp only[Ht,Bool.and_eq_true]at h;exact⟨sX P h.1,Ew fl hF h.2⟩|buildSlice t n l=>simp only[Ht,Bool.and_eq_true]at h;exact⟨Cj P h.1,Ew fl hF h.2⟩
 |store t a x=>simp only[Ht,Bool.and_eq_true]at h;exact⟨q h.1,q h.2⟩|binOp op t x y t2=>simp only[Ht,Bool.and_eq_true]at h;exact⟨abz h.1.1,q h.1.2,q h.2⟩
 |convert s d x=>simp only[Ht,Bool.and_eq_true]at h;exact⟨XZ P h.1,q h.2⟩|makeSlice t l c=>simp only[Ht,Bool.and_eq_true]at h;exact⟨Cj P h.1.1,q h.1.2,q h.2⟩
 |slice t x a b c=>simp only[Ht,Bool.and_eq_true]at h;exact⟨q h.1.1.1,L5 fl hF h.1.1.2,L5 fl hF h.1.2,L5 fl hF h.2⟩|fieldAddr t x i=>simp only[Ht,Bool.and_eq_true]at h;exact⟨Qu P h.1,q h.2⟩
 |indexAddr t x i=>simp only[Ht,Bool.and_eq_true]at h;exact⟨q h.1,q h.2⟩|index t x i=>simp only[Ht,Bool.and_eq_true]at h;exact⟨q h.1,q h.2⟩
 |lookup t x i ok=>simp only[Ht,Bool.and_eq_true]at h;exact⟨OU P h.1.1,q h.1.2,q h.2⟩|mapUpdate t m k x=>simp only[Ht,Bool.and_eq_true]at h;exact⟨OU P h.1.1.1,q h.1.1.2,q h.1.2,q h.2⟩
 |range t x=>simp only[Ht,Bool.and_eq_true]at h;exact⟨Q0 P h.1,q h.2⟩|next x s=>simp only[Ht,Bool.and_eq_true]at h;exact⟨by simpa using h.1,q h.2⟩
 |_=>cases h
def UH{E}(hF:∀f∈fl,E.F f){o}(h:It fl o=true):YJ E o:=by
 obtain⟨dst,op,type,pos,after,guard⟩:=o;cases op with
 |send ch x=>simp only[It,Bool.and_eq_true]at h;exact⟨pd fl hF h.1,pd fl hF h.2⟩|recv t ch ok=>exact pd fl hF h
 |call c=>simp only[It,Bool.and_eq_true]at h;obtain⟨h1,h2⟩:=h;refine⟨?_,?_⟩;split at h1;rename_i e;exact e;cases h1;split at h2;rename_i x e;exact⟨x,Wa e,pd fl hF h2⟩;cases h2
 |go c=>simp only[It,Bool.and_eq_true]at h;obtain⟨h1,h2⟩:=h;refine⟨?_,by simpa using h2⟩;split at h1;rename_i x e;exact⟨x,e,pd fl hF h1⟩;cases h1
 |_=>cases h
theorem gU{E}(hF:∀f∈fl,E.F f):∀ {c:Code},lI P fl c=true->gr P E c
 |.region _ ops _,h=>λo ho=>by unfold lI at h;rw[List.all_eq_true]at h;have:=h o (by simpa using ho);unfold ahb at this;rw[Bool.and_eq_true,Bool.or_eq_true]at this;exact⟨by simpa using this.1,this.2.imp (ahv P fl hF) (UH fl hF)⟩|.seq a b,h=>by unfold lI at h;rw[Bool.and_eq_true]at h;exact⟨gU hF h.1,gU hF h.2⟩|.cond c a b,h=>by unfold lI at h;rw[Bool.and_eq_true,Bool.and_eq_true]at h;exact⟨pd fl hF h.1.1,gU hF h.1.2,gU hF h.2⟩|.block _ b,h=>gU (c:=b) hF (by unfold lI at h;exact h)|.loop b,h=>gU (c:=b) hF (by unfold lI at h;exact h)|.exit _,_=>trivial|.ret,_=>trivial|.skip,_=>trivial|.refuse _,_=>trivial|.scope _,h=>by cases h
 |.label _,h=>by cases h
 |.goto _,h=>by cases h
 |.rangeFunc ..,h=>by cases h
end
end Rn
namespace Tp
section
variable{P:Program}
def Nn k k2 k3 x y c sg:Pl P (Extern.RuntimeError.boundsError #[.agg #[.int k x,.int k2 y,.bool sg,.int k3 c]]):=by show Pl P (match(if sg&&x<0 then Extern.RuntimeError.boundsNegErrorFmts else Extern.RuntimeError.boundsErrorFmts)[c.toNat]? with|some fmt=>_|none=>_);split<;>exact trivial
def SX a:Pl P (Extern.RuntimeError.boundsError a):=by
 obtain⟨l⟩:=a;rcases l with _|⟨x,_|⟨_,_⟩⟩;exact trivial;cases x with
 |agg b=>
  obtain⟨m⟩:=b;rcases m with _|⟨x,_|⟨y,_|⟨sg,_|⟨c,_|⟨_,_⟩⟩⟩⟩⟩;exact trivial;cases x<;>exact trivial;cases x<;>first|exact trivial|(cases y<;>exact trivial)
  cases x<;>first|exact trivial|(cases y<;>first|exact trivial|(cases sg<;>exact trivial))
  cases x with
  |int k x=>cases y with
   |int k2 y=>cases sg with
    |bool sg=>cases c with|int k3 c=>exact Nn k k2 k3 x y c sg|_=>exact trivial
    |_=>exact trivial
   |_=>exact trivial
  |_=>exact trivial
  cases x<;>first|exact trivial|(cases y<;>first|exact trivial|(cases sg<;>first|exact trivial|(cases c<;>exact trivial)))
 |_=>exact trivial
 cases x<;>exact trivial
def kN v:Pl P (Extern.RuntimeError.described v):=by unfold Extern.RuntimeError.described;refine nU ?_;split;exact trivial;exact aL (nS _) λ_=>aL (bA _) λ_=>trivial;exact trivial
def GA i:Pl P (Extern.RuntimeError.pkgpathOf i):=by unfold Extern.RuntimeError.pkgpathOf;split;exact trivial;refine aL (bA _) λ_=>?_;split<;>exact trivial;all_goals exact trivial
def SZ a:Pl P (Extern.RuntimeError.typeAssertionError a):=by
 unfold Extern.RuntimeError.typeAssertionError;refine aL (kU _) λa=>aL (qC _ _) λx=>aL (kN _) λd=>?_;refine aL (qC _ _) λx=>aL (kN _) λd=>aL (qC _ _) λx=>aL (kN _) λd=>?_
 (repeat' (first|exact trivial|with_reducible apply aJ|with_reducible apply GA|with_reducible apply lW|with_reducible exact qC _ _|refine aL ?_ (λ_=>?_)|with_reducible apply ft|split|intro _|dsimp only))
def Ci t:Pl P (Extern.RuntimeError.unhashableTypeError #[.agg #[t]]):=by show Pl P (Extern.RuntimeError.described t >>= λx=>match x with|some t=>Extern.RuntimeError.text ("hash of unhashable type: " ++t.str)|_=>runtimePanic .nilDeref);refine aL (kN _) λx=>?_;split;exact trivial;exact aJ _
def DD a:Pl P (Extern.RuntimeError.unhashableTypeError a):=by
 obtain⟨l⟩:=a;rcases l with _|⟨x,_|⟨_,_⟩⟩;exact trivial;cases x with
 |agg b=>obtain⟨m⟩:=b;rcases m with _|⟨x,_|⟨_,_⟩⟩;exact trivial;exact Ci x;exact trivial
 |_=>exact trivial
 cases x<;>exact trivial
def ZJ:∀p∈Extern.RuntimeError.rows,∀args,Pl P (p.2 args):=by intro p hp args;unfold Extern.RuntimeError.rows at hp;simp only[List.mem_cons,List.not_mem_nil,or_false]at hp;rcases hp with rfl|rfl|rfl|rfl|rfl|rfl|rfl|rfl|rfl|rfl|rfl|rfl|rfl|rfl|rfl;exact aL (lW _) λ_=>trivial;exact aL (lW _) λ_=>trivial;exact aL (Au _) λ_=>aL (lW _) λ_=>trivial;exact aL (Au _) λ_=>aL (gO _) λ_=>trivial;exact SX _;exact SZ _;exact trivial;exact DD _;all_goals exact trivial
def aar:∀e,Extern.ReflectliteType.rows.lookup "(internal/abi.Kind).String" =some e->∀args,Pl P (e args):=by intro e he args;simp[Extern.ReflectliteType.rows,List.lookup]at he;subst he;exact aL (gO _) λ_=>trivial
end
def yI:List String:=Extern.RuntimeError.rows.map (·.1)
def QA:∀n∈yI,Extern.allRows.lookup n=Extern.RuntimeError.rows.lookup n/\(Extern.allGenericRows.lookup n).isNone=true/\(Extern.allTypedRows.lookup n).isNone=true/\(Extern.RuntimeError.rows.lookup n).isSome=true:=by intro n hn;unfold yI Extern.RuntimeError.rows at hn;simp only[List.map_cons,List.map_nil,List.mem_cons,List.not_mem_nil,or_false]at hn;rcases hn with rfl|rfl|rfl|rfl|rfl|rfl|rfl|rfl|rfl|rfl|rfl|rfl|rfl|rfl|rfl;all_goals (refine⟨?_,?_,?_,?_⟩<;>kernel_rfl)
def JF:Extern.allRows.lookup "(internal/abi.Kind).String" =Extern.ReflectliteType.rows.lookup "(internal/abi.Kind).String" /\(Extern.allGenericRows.lookup "(internal/abi.Kind).String").isNone=true/\(Extern.allTypedRows.lookup "(internal/abi.Kind).String").isNone=true/\(Extern.ReflectliteType.rows.lookup "(internal/abi.Kind).String").isSome=true:=by refine⟨?_,?_,?_,?_⟩<;>kernel_rfl
def PQ{fn n e0}(hn:fn.name=n)(h1:Extern.allGenericRows.lookup n=none)(h2:Extern.allTypedRows.lookup n=none)(h3:Extern.allRows.lookup n=some e0):Extern.find fn=some e0:=by unfold Extern.find;simp only[hn,h1,h2,h3];rfl
def anN(fn:Func):Bool:= !(fn.name== "runtime.NumGoroutine")&& (!fn.body.isNone ||((Extern.findNext fn).isNone&& ((Extern.find fn).isNone || yI.contains fn.name || fn.name== "(internal/abi.Kind).String")))
theorem ir{β}:∀ {l:List (String×β)}{n:String}{e:β},l.lookup n=some e->∃m,(m,e)∈l
 |[],_,_,h=>by cases h
 |(m,b)::l,n,e,h=>by rw[List.lookup_cons]at h;split at h;cases h;exact⟨m,List.mem_cons_self⟩;obtain⟨m',h'⟩:=ir h;exact⟨m',List.mem_cons_of_mem _ h'⟩
def Tg{P}(h:P.funcs.toList.all anN=true):bu P:=by
 intro f fn hf;rw[List.all_eq_true]at h;have:=h fn (by have:=Array.mem_of_getElem? hf;simpa using this);unfold anN at this;rw[Bool.and_eq_true,Bool.or_eq_true,Bool.and_eq_true,Bool.or_eq_true,Bool.or_eq_true]at this;obtain⟨h1,h2⟩:=this;refine⟨by simpa using h1,?_⟩;rcases h2 with h2|⟨h2,h3⟩;exact .inl (by simpa using h2);refine .inr ⟨by simpa using h2,λe he args=>?_⟩;rcases h3 with(h3|h3)|h3;rw[he]at h3;cases h3;have hm:fn.name∈yI:=by simpa using h3
 obtain⟨a1,a2,a3,a4⟩:=QA _ hm;cases hl:Extern.RuntimeError.rows.lookup fn.name with
 |none=>rw[hl]at a4;cases a4
 |some e0=>have:=PQ (fn:=fn) rfl (by simpa using a2) (by simpa using a3) (a1.trans hl);rw[he]at this;cases this;obtain⟨m,Bx⟩:=ir hl;exact ZJ _ Bx args
 have hn:fn.name= "(internal/abi.Kind).String" :=by simpa using h3
 obtain⟨a1,a2,a3,a4⟩:=JF;cases hl:Extern.ReflectliteType.rows.lookup "(internal/abi.Kind).String" with
 |none=>rw[hl]at a4;cases a4
 |some e0=>have:=PQ (fn:=fn) hn (by simpa using a2) (by simpa using a3) (a1.trans hl);rw[he]at this;cases this;exact aar _ hl args
end Tp
namespace Tp
def bp:bu Tryz.prog:=Tp.Tg (by kernel_rfl)
end Tp
