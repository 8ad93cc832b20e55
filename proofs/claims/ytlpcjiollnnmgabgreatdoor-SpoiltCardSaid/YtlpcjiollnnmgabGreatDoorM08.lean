import Derived.Test.YtlpcjiollnnmgabGreatDoorM07
import Derived.OrdersHeld
import Derived.Test.YtlpcjiollnnmgabGreatDoorProg
set_option maxRecDepth 100000
set_option maxHeartbeats 8000000
set_option linter.all false
namespace Go.Proofs.YtlpcjiollnnmgabGreatDoor
namespace Ph
open Go.Conc Rn
open Go.ConcN (sumTo upd sumTo_upd upd_ne upd_same le_sumTo)
open Tp (cN Term Ld)
variable{α:Type}{C:kp α}
section
variable{all:List α}{gs gs':Array Goroutine}{w w':World}{t u:Trace}{D D':Nat->Pd α}{cj cr cj' cr':Bool}{ag aA sent' rcvd':Nat}{sl:Option (Nat×Nat)}
def zB.OQ{s}(h:zB C all s cj cr ag aA)(hp:0<C.n)(h3:3<=ag){i}(hi:i<C.n+4)(hr:C.rl i=1):∃q,s i=.old 1 q:=by
 have h1:=me (C:=C) hp;have h2:=zX (f:=λi=>(s i).said) (g:=λi=>if C.rl i=1 then 1 else 0) (C.n+4) (λi hi=>by have:=Gf (s i);rwa[h.role i hi]at this) (by rw[h1,<-h.said];omega) i hi;replace h2:(s i).said=if C.rl i=1 then 1 else 0:=h2
 rw[if_pos hr]at h2;cases hs:s i with
 |old r q=>
  rw[hs]at h2;match r,h2 with
  |0,h2=>cases h2
  |1,_=>exact⟨q,rfl⟩
  |r+2,h2=>cases h2
 |_=>rw[hs]at h2;cases h2
def TM(hp:0<C.n){i}(hi:C.gZ i):i=0∨C.rl i=1∨i=C.n+3:=by rcases hi with h|⟨h1,h2⟩;exact .inl h;by_cases h3:i=C.n+3;exact .inr (.inr h3);refine .inr (.inl ?_);unfold kp.rl;rw[if_neg (by omega),if_neg (by omega),if_pos (by omega)]
def VK(I:Inv C all gs w t D cj cr ag aA)(T:Tr C t D ag aA)(hi:∀r q,(D (C.n+3)).st≠.old r q)(h3:aA=3) fn pos:tj C (t++fc (C.n+3) fn pos C.N.R):=by
 have hp:=I.pos;let z1:MemOp:={g:=C.n+3,fn:=fn,pos:=pos,act:=.access ⟨.obj C.N.R,false,true⟩};let z2:MemOp:={g:=C.n+3,fn:=fn,pos:=pos,act:=.close C.N.R};have hu:fc (C.n+3) fn pos C.N.R=#[z1,z2]:=rfl;have ajm:(t++fc (C.n+3) fn pos C.N.R)[t.size]? =some z1:=by rw[hu,Array.getElem?_append_right ν,Nat.sub_self];rfl
 have KD:(t++fc (C.n+3) fn pos C.N.R)[t.size+1]? =some z2:=by rw[hu,Array.getElem?_append_right (by omega),show t.size+1-t.size=1 by omega];rfl
 have rS:C.gZ (C.n+3):=.inr ⟨by omega,by omega⟩;have hd:=T.deaf _ rS hi;have afX:(t++fc (C.n+3) fn pos C.N.R).heard (t.size+1):=by refine⟨C.n+3,by rw[Trace.g?,KD];rfl,?_⟩;rw[deaf_succ ajm,deaf_old ν];show deafStep _ (Deaf t _) z1=0;rw[hd];rfl
 refine⟨t.size+1,z2,KD,rfl,rfl,afX,λp y a hpy hg h0 ha=>?_⟩;rcases TM hp hg with h|h|h;exact absurd h h0;have aM:=I.Hj hg;obtain⟨q,hq⟩:=I.df.OQ hp (by have:=I.df.le;omega) aM h;obtain⟨s,k,z,s1,s2,s3,s4,s5,s6,s7⟩:=T.said y.g q aM hq;have as9:ag<=3:=by have h1:=me (C:=C) hp;have h2:=sumTo_le (f:=λi=>(bj D i).said) (g:=λi=>if C.rl i=1 then 1 else 0) (C.n+4) (λi hi=>by have:=Gf (bj D i);rwa[I.df.role i hi]at this);rw[h1,<-I.df.said]at h2;exact h2
 have hk:=s7 (by omega);have hsc:HappensBefore (t++fc (C.n+3) fn pos C.N.R) s (t.size+1):=hk.hb_new (by omega) KD rfl;have apG:=lt_size_of_getElem? s1;have IS:p<s:=by rcases getElem?_append_cases hpy with⟨_,KF⟩|⟨_,UK⟩;exact s6 p y a KF rfl ha;have:=(ee UK).1;rw[this]at h;unfold kp.rl at h;rw[if_neg (by omega),if_neg (by omega),if_neg (by omega)]at h;omega
 have Ca:(t++fc (C.n+3) fn pos C.N.R)[s]? =some z:=by rw[getElem?_append_old apG];exact s1
 exact .inr ((hb_po IS hpy Ca s2.symm).trans hsc);have qe:p<t.size+1:=by rcases getElem?_append_cases hpy with⟨KF,_⟩|⟨KF,UK⟩;omega;have h2:=lt_size_of_getElem? hpy;rw[hu]at h2;simp at h2;by_cases hpe:p=t.size+1;subst hpe;rw[KD]at hpy;cases hpy;cases ha;omega
 exact .inr (hb_po qe hpy KD h)
def Kj(L:yW C)(fT:∀i,C.n<=i->i<C.n+4->C.R i=[base C.P])(I:Inv C all gs w t D cj cr ag aA)(T:Tr C t D ag aA){i}(hi:i<C.n+4)(aS:(D i).st=.live .dh)(hA:C.N.A .dh (D i).g (D i).v):Goes C all gs w sl t D i:=by
 obtain⟨g',hx,aM,jY⟩:=qC L I hi aS;obtain⟨s,r,hc⟩:=I.DZ;have e1:bj D i=.live .dh:=aS;have cX:cj=true/\cr=false/\aA=3:=by have:=I.df.cO i hi;rw[e1]at this;exact this
 obtain⟨rfl,rfl,Fp⟩:=cX;obtain⟨XV,lW⟩:=L.CW .dh C.N.R _ _ _ _ _ (.inr ⟨rfl,rfl⟩) hA jY;have uB:=lW (i==0) w s r hc;have fP:i≠0:=I.mn hi aS (by simp[ko.role]);have US:=rf I hi (by rw[e1];rfl);have rS:C.gZ i:=I.gZ hi (by rw[aS];exact j4 (α:=α) .dh);rw[fT i (by omega) hi]at jY;obtain⟨q,hq⟩:=L.PW _ _ _ _ hA jY;have aju:∀r q,(D i).st≠.old r q:=λr q e=>by rw[aS]at e;cases e
 have hd0:Deaf t i=0:=T.deaf i rS aju;have cD:=runT_crowd_go (P:=C.P) (sl:=sl) hx uB;rw[pO]at cD;have qe:C.N.R<w.heap.size:=(Array.getElem?_eq_some_iff.1 hc).1;have hR1:(w.heap.setIfInBounds C.N.R (.chan 0 #[] true s r false))[C.N.R]? =some (.chan 0 #[] true s r false):=Array.getElem?_setIfInBounds_self_of_lt qe;have hJ1:∃s2 r2,(w.heap.setIfInBounds C.N.R (.chan 0 #[] true s r false))[C.N.J]? =some (.chan 0 #[] true s2 r2 false):=by obtain⟨s2,r2,h2⟩:=I.Dm;exact⟨s2,r2,by rw[Array.getElem?_setIfInBounds_ne (Ne.symm I.ne.1)];exact h2⟩
 have hD1:(w.heap.setIfInBounds C.N.R (.chan 0 #[] true s r false))[C.N.D]? =_:=(Array.getElem?_setIfInBounds_ne I.ne.2.2).trans I.Hz;have qd:∀j,j<C.n+4->j≠i->(bj D j).role≠2:=λj hj aR e=>aR ((rf I hj e).trans US.symm);have uz:∀j,j<C.n+4->(bj D j).role=1->∃q,bj D j=.old 1 q:=λj hj e=>I.df.OQ I.pos (by have:=I.df.le;omega) hj (by rw[<-I.df.role j hj];exact e);have lI:=Jj kR i ((D i).to (.old 2 q) (D i).g) D;have afG:=FC (cj':=true) (cr':=true) I hi kR (.old 2 q) (by rw[e1];rfl) (λp=>by rw[e1];rfl) (by rw[e1];rfl) (λc e=>by cases e) ⟨rfl,rfl,Fp⟩ (λj hj aR=>by
 have h1:=I.df.cO j hj;have h2:=qd j hj aR;refine fj.fC (λc e hk=>?_) (λhk=>?_);cases c<;>first|exact(Bool.noConfusion hk)|exact trivial
 cases hs:bj D j with
 |old r q=>
  rw[hs]at h1 h2;match r,h1,h2 with
  |0,_,_=>exact trivial
  |1,_,_=>exact rfl
  |2,_,h2=>exact absurd rfl h2
  |r+3,_,_=>exact trivial
 |bS c=>
 have h3:=uz j hj;rw[hs]at h1 h2 h3;cases c<;>first|exact absurd rfl h2|exact h1.elim|skip
 obtain⟨_,h3⟩:=h3 rfl;cases h3
 |born c=>
 have h3:=uz j hj;rw[hs]at h1 h2 h3;cases c<;>first|exact absurd rfl h2|exact h1.elim|skip
 obtain⟨_,h3⟩:=h3 rfl;cases h3
 |live c=>
 have h3:=uz j hj;rw[hs]at h1 h2 h3;cases c<;>first|exact absurd rfl h2|exact trivial|skip
 all_goals (obtain⟨_,h3⟩:=h3 rfl;cases h3)
 |bc c=>
 have h3:=uz j hj;rw[hs]at h1 h2 h3;cases c<;>first|exact absurd rfl h2|exact h1.elim|skip
 obtain⟨_,h3⟩:=h3 rfl;cases h3;obtain⟨_,h3⟩:=h3 rfl;cases h3;exact absurd (hk _ hs) (by simp[kR])) (by rw[e1];rfl)
 have uD:∀g,C.gZ g->C.N.R∉ (D g).X:=λg hg hm=>(I.vq g (I.Hj hg)).vW C hm hc;refine⟨_,_,_,λj=>if j=i then(D i).to (.old 2 q) (D i).g else(D j).to (fC kR (D j).st) (D j).g,true,true,ag,aA,cD,?_,?_,CH I hi kR (.old 2 q) (by rw[e1];show(0:Nat)<1;omega) lI,gI (λl=>(by split<;>first|(rename_i e;subst e;rfl)|rfl)) (.inr (.inl rfl)) rfl rfl rfl rfl⟩;refine Lp (c:=.dh) (ch:=C.N.R) L I hi fP hx XV kR ((D i).to (.old 2 q) (D i).g) ⟨rfl,rfl⟩ (.tuple #[]) rfl ⟨⟨_,rfl,by rw[hd0];exact hq⟩,λ_=>hA⟩ (λj hj h=>?_) (λj c g2 hj aR e hk=>?_) (λj c g2 hj aR e hk=>?_) (λc hk n e=>by subst e;cases hk) hJ1 ⟨s,r,hR1⟩ hD1 (λop cI=>(ee cI).2.1) (by rw[lI];exact afG);exact h.chan C hc (.chan 0 #[] true s r false) w.drawn;cases c<;>first|exact(Bool.noConfusion hk)|skip
 exact⟨again_recv_closed hR1,rfl⟩;have h1:=I.df.cO j hj;rw[show bj D j=_ from e]at h1;have h2:=qd j hj aR;have h3:=uz j hj;rw[show bj D j=_ from e]at h2 h3;cases c with
 |bg=>obtain⟨_,h3⟩:=h3 rfl;cases h3
 |b8 a=>obtain⟨_,h3⟩:=h3 rfl;cases h3
 |aZ bD=>cases hk
 |cT a rem=>exact absurd rfl h2|br k=>exact absurd rfl h2
 |_=>exact h1.elim
 refine T.close rS (.inr rfl) uD (λc e=>by rw[aS]at e;cases e) (λg=>?_) (λj c e=>?_) (λj r q e=>?_) (λj q e=>?_) (λq e=>?_);split;rename_i hg;subst hg;rfl;rfl;refine⟨c,?_⟩;rw[if_neg (λaR=>by subst aR;rw[aS]at e;cases e)];show fC kR (D j).st=_;rw[e];rfl;refine⟨r,q,?_⟩;rw[if_neg (λaR=>by subst aR;rw[aS]at e;cases e)];show fC kR (D j).st=_;rw[e];rfl;split at e;cases e;rename_i aR;refine⟨aR,?_⟩;change fC kR (D j).st=_ at e;cases hs:(D j).st with
 |bc c=>rw[hs,eW]at e;split at e<;>cases e
 |_=>rw[hs]at e;exact e
 subst US;exact VK I T aju Fp _ _
end
end Ph
namespace Ph
open Go.Conc Rn
open Go.ConcN (sumTo upd sumTo_upd upd_ne upd_same le_sumTo fork_knows)
open Tp (cN Term Ld)
variable{α:Type}{C:kp α}
section
variable{all:List α}{gs gs':Array Goroutine}{w w':World}{t u:Trace}{D D':Nat->Pd α}{cj cr cj' cr':Bool}{ag aA sent' rcvd':Nat}{sl:Option (Nat×Nat)}
def ok_none{i d}(h:Ok C t i none d):∃c,d.st=.bS c/\C.R i=[base C.P]/\GR C.P C.E d.X (C.R i) d.g (C.first i)/\Term C.P (C.N.Stop c) d.g d.v:=by
 unfold Ok at h;cases hs:d.st with
 |old r q=>rw[hs]at h;obtain⟨⟨y,h,_⟩,_⟩:=h;cases h
 |bS c=>rw[hs]at h;exact⟨c,rfl,h.2⟩|born c=>rw[hs]at h;cases h.1
 |live c=>rw[hs]at h;obtain⟨y,h,_⟩:=h;cases h
 |bc c=>rw[hs]at h;obtain⟨y,h,_⟩:=h;cases h
def Nn(L:yW C)(I:Inv C all gs w t D cj cr ag aA)(T:Tr C t D ag aA){k}(aS:(D 0).st=.live (.spawn k))(hA:C.N.A (.spawn k) (D 0).g (D 0).v)(hX:C.ok0 (D 0).X):Goes C all gs w sl t D 0:=by
 have hp:=I.pos;have h0:0<C.n+4:=by omega
 obtain⟨g',hx,aM,jY⟩:=qC L I h0 aS;obtain⟨DO,lU⟩:k<=3/\gs.size=C.n+k:=by rcases I.main with⟨k',h1,h2,h3⟩|⟨⟨_,h|h⟩,_⟩;rw[aS]at h2;cases h2;exact⟨h1,h3⟩;rw[aS]at h;cases h;rw[aS]at h;cases h
 have uB:=L.LN k _ _ _ _ _ DO hX hA jY true w;have cD:=runT_crowd_spawn (P:=C.P) (sl:=sl) (i:=0) hx uB;rw[dF]at cD;have hj:C.n+k<C.n+4:=by omega
 have ajt:gs[C.n+k]? =none:=Array.getElem?_eq_none (by omega);have rR:=I.ok (C.n+k) hj;rw[ajt]at rR;obtain⟨c,afS,hR,Ce,afr⟩:=ok_none rR;have XQ:∃ci:ko α,Term C.P (C.N.Stop ci) (dQ (D 0).g undef) (D 0).v/\ci.role=3/\(∀p,ci.tok p=0)/\fj cj cr aA (.live ci)/\ci.ev<5-k/\((∃k',k'<=3/\(St.live ci:St α)=.live (.spawn k')/\C.n+k+1=C.n+k')∨((∃bD,(St.live ci:St α)=.live (.aZ bD)∨(St.live ci:St α)=.bc (.aZ bD))/\C.n+k+1=C.n+4)):=by by_cases h3:k=3;subst h3;exact⟨.aZ [],L.PV _ _ hA,rfl,λ_=>rfl,trivial,by simp[ko.ev],.inr ⟨⟨[],.inl rfl⟩,rfl⟩⟩;refine⟨.spawn (k+1),L.Wt k _ _ (by omega) hA,rfl,λ_=>rfl,trivial,?_,.inl ⟨k+1,by omega,rfl,rfl⟩⟩;show 5-(k+1)<5-k;omega
 obtain⟨ci,c1,c2,c3,c4,c5,c6⟩:=XQ;have j9:0≠C.n+k:=by omega
 have hS:=m4 D 0 (C.n+k) (.live ci) (.born c) (dQ (D 0).g undef) (D (C.n+k)).g;have mI:∀l,upd (upd D 0 ((D 0).to (.live ci) (dQ (D 0).g undef))) (C.n+k) ((D (C.n+k)).to (.born c) (D (C.n+k)).g) l=if l=C.n+k then(D (C.n+k)).to (.born c) (D (C.n+k)).g else if l=0 then(D 0).to (.live ci) (dQ (D 0).g undef)else D l:=λl=>rfl
 have lI:bj (upd (upd D 0 ((D 0).to (.live ci) (dQ (D 0).g undef))) (C.n+k) ((D (C.n+k)).to (.born c) (D (C.n+k)).g))=upd (upd (bj D) 0 (.live ci)) (C.n+k) (.born c):=by rw[eR,eR];rfl
 generalize hD':upd (upd D 0 ((D 0).to (.live ci) (dQ (D 0).g undef))) (C.n+k) ((D (C.n+k)).to (.born c) (D (C.n+k)).g)=D' at hS mI lI;have Ky:D' 0=(D 0).to (.live ci) (dQ (D 0).g undef):=by rw[mI,if_neg j9,if_pos rfl]
 have Xo:D' (C.n+k)=(D (C.n+k)).to (.born c) (D (C.n+k)).g:=by rw[mI,if_pos rfl]
 have Xn:∀l,l≠0->l≠C.n+k->D' l=D l:=λl h1 h2=>by rw[mI,if_neg h2,if_neg h1]
 have e0:bj D 0=.live (.spawn k):=aS;have ej:bj D (C.n+k)=.bS c:=afS;have hg0:((gs.setIfInBounds 0 (dQ g' undef)).push (jo C.P (C.d (C.n+k))))[0]? =some (dQ g' undef):=by rw[Array.getElem?_push_lt (by simpa using aM)];simp
 have xV:((gs.setIfInBounds 0 (dQ g' undef)).push (jo C.P (C.d (C.n+k))))[C.n+k]? =some (jo C.P (C.d (C.n+k))):=by rw[Array.getElem?_push,if_pos (by simp;omega)]
 have hgo:∀l,l≠0->l≠C.n+k->((gs.setIfInBounds 0 (dQ g' undef)).push (jo C.P (C.d (C.n+k))))[l]? =gs[l]?:=λl h1 h2=>by rw[Array.getElem?_push,if_neg (by simp;omega),Array.getElem?_setIfInBounds_ne (Ne.symm h1)]
 let z1:MemOp:={g:=0,fn:=g'.frame.fn,pos:=g'.frame.place,act:=.go gs.size};let z2:MemOp:={g:=gs.size,fn:=(jo C.P (C.d (C.n+k))).frame.fn,pos:=g'.frame.place,act:=.start};have hu:Quiet #[z1,z2]:=λop cI=>by
  have:op=z1∨op=z2:=by simpa using cI
  rcases this with rfl|rfl<;>exact⟨rfl,λm=>by simp[z1,z2]⟩
 have hd0:Deaf t 0=0:=T.deaf 0 (.inl rfl) λr q e=>by rw[aS]at e;cases e
 have hdj:Deaf t (C.n+k)=0:=T.deaf _ (.inr ⟨by omega,hj⟩) λr q e=>by rw[afS]at e;cases e
 refine⟨_,w,#[z1,z2],D',cj,cr,ag,aA,cD,I.quiet hS hu (λl hl=>?_) (by simp;omega) (λ_ _ h=>h) ?_ I.Dm I.DZ I.Hz ?_,T.mute (λop cI=>(hu op cI).1) (λl=>(hS l).1) (λl hl hc=>?_) I.zero (λl hl hc=>⟨λr q e=>?_,hu.deaf t l⟩) (λl q hl e=>?_) (λq e=>?_) (λl _=>hu.deaf t l),.inl ?_,jX (λl=>(hS l).1) rfl rfl rfl rfl⟩;by_cases h1:l=0;subst h1;refine .inr ?_;rw[Ky,hg0];exact⟨_,rfl,Fv jY (V.eI (VA.empty _)) rfl rfl,c1⟩;by_cases h2:l=C.n+k;subst h2;refine .inr ?_;rw[Xo,xV];exact⟨rfl,hR,Ce,afr⟩;exact .inl ⟨Xn l h1 h2,hgo l h1 h2⟩;rw[Ky];have:((gs.setIfInBounds 0 (dQ g' undef)).push (jo C.P (C.d (C.n+k)))).size=C.n+k+1:=by simp;omega
 rw[this];exact c6;rw[lI];refine I.df.two h0 hj j9 (.live ci) (.born c) (by rw[e0];exact c2) (by rw[ej];rfl) (λp=>?_) (by rw[e0,ej];rfl) I.df.le (λl hl _ _=>I.df.cO l hl) c4 ?_ (λc e=>by cases e) (λc e=>by cases e) (λl q hl _ _ h=>I.df.p3 l q hl h);rw[e0,ej];show ci.tok p+c.tok p=0+c.tok p;rw[c3];have:=I.df.cO _ hj;rw[ej]at this;exact this;by_cases h1:l=0;subst h1;exact .inl λc' e=>by rw[aS]at e;cases e
 by_cases h2:l=C.n+k;subst h2;refine .inr λp hpk=>?_;exact fork_knows (x:=z1) (y:=z2) ⟨rfl,by rw[<-lU]⟩ ⟨lU,rfl⟩ hd0 hdj hpk;rw[Xn l h1 h2]at hc;exact .inl hc;by_cases h1:l=0;subst h1;rw[aS]at e;cases e;by_cases h2:l=C.n+k;subst h2;rw[afS]at e;cases e;exact hc r q (by rw[Xn l h1 h2];exact e);by_cases h1:l=0;subst h1;rw[Ky]at e;cases e;by_cases h2:l=C.n+k;subst h2;rw[Xo]at e;cases e;rw[Xn l h1 h2]at e;exact(T.said l q hl e).app (λop cI _=>(hu op cI).1) ν;by_cases h2:C.n+3=C.n+k;rw[h2,Xo]at e;cases e;rw[Xn _ (by omega) h2]at e;exact(T.shut q e).app λop cI _ _=>(hu op cI).1;rw[lI];have:=zt (C:=C) (s:=bj D) h0 hj j9 (.live ci) (.born c);have f1:(bj D 0).ev=5-k:=by rw[e0];rfl
 have f2:(St.live ci).ev=ci.ev:=rfl;have f3:(bj D (C.n+k)).ev=c.ev+2:=by rw[ej];rfl
 have f4:(St.born c).ev=c.ev+1:=rfl;omega
end
end Ph
namespace Ph
open Go.Conc Rn
open Go.ConcN (sumTo upd sumTo_upd upd_ne upd_same le_sumTo fork_knows)
open Tp (cN Term Ld)
variable{α:Type}{C:kp α}
section
variable{all:List α}{gs gs':Array Goroutine}{w w':World}{t u:Trace}{D D':Nat->Pd α}{cj cr cj' cr':Bool}{ag aA sent' rcvd':Nat}{sl:Option (Nat×Nat)}
def VS j(hp:0<C.n):(j<3->C.rl (C.n+j)=1)/\C.rl (C.n+3)=2:=by refine⟨λhj=>?_,?_⟩;unfold kp.rl;rw[if_neg (by omega),if_neg (by omega),if_pos (by omega)];unfold kp.rl;rw[if_neg (by omega),if_neg (by omega),if_neg (by omega)]
def Inv.aau(I:Inv C all gs w t D cj cr ag aA):∃(i:Nat)(g:Goroutine),gs[i]? =some g/\g.status=.running:=by
 apply Classical.byContradiction;intro uD;have hp:=I.pos;have hnr:∀(i:Nat)(g:Goroutine),gs[i]? =some g->g.status≠.running:=λi g h e=>uD ⟨i,g,h,e⟩;have uE:∀i c,i<C.n+4->bj D i≠.live c:=λi c hi e=>by have:=I.ok i hi;unfold Ok at this;rw[show(D i).st=.live c from e]at this;obtain⟨g',h1,h2,_⟩:=this;exact hnr i g' h1 h2.run.2
 have adK:∀i c,i<C.n+4->bj D i≠.born c:=λi c hi e=>by have:=I.ok i hi;unfold Ok at this;rw[show(D i).st=.born c from e]at this;exact hnr i _ this.1 rfl
 obtain⟨bD,Cf,lU⟩:∃bD,bj D 0=.bc (.aZ bD)/\gs.size=C.n+4:=by rcases I.main with⟨k,_,h,_⟩|⟨⟨bD,h|h⟩,h2⟩;exact absurd h (uE 0 _ (by omega));exact absurd h (uE 0 _ (by omega));exact⟨bD,h,h2⟩
 have Qf:∀i c,i<C.n+4->bj D i≠.bS c:=λi c hi e=>by have:=I.ok i hi;unfold Ok at this;rw[show(D i).st=.bS c from e]at this;have h1:=this.1;rw[Array.getElem?_eq_getElem (by omega)]at h1;cases h1
 have lV:cr=false:=by have:=I.df.cO 0 (by omega);rw[Cf]at this;exact this
 have hw:∀j,j<C.n+4->C.rl j=1->(∃q,bj D j=.old 1 q/\cj=true)∨(bj D j=.bc .bg/\cj=false):=λj hj hr=>by
  have h1:=I.df.role j hj;have h2:=I.df.cO j hj;rw[hr]at h1;cases hs:bj D j with
  |old r q=>rw[hs]at h1 h2;obtain rfl:r=1:=h1;exact .inl ⟨q,rfl,h2⟩
  |bS c=>exact absurd hs (Qf j c hj)|born c=>exact absurd hs (adK j c hj)
  |live c=>exact absurd hs (uE j c hj)|bc c=>rw[hs]at h1 h2;cases c with|bg=>exact .inr ⟨rfl,h2.1⟩|b8 a=>exact absurd Cf (I.df.p2 j 0 hj (by omega) a bD hs)|fi=>exact h2.elim|_=>cases h1
 have hf:C.n+3<C.n+4:=by omega
 have h1:=I.df.role _ hf;have h2:=I.df.cO _ hf;rw[(VS 0 hp).2]at h1;cases hs:bj D (C.n+3)with
 |old r q=>rw[hs]at h1 h2;obtain rfl:r=2:=h1;have:cr=true:=h2.2.1;rw[lV]at this;cases this
 |bS c=>exact Qf _ c hf hs|born c=>exact adK _ c hf hs
 |live c=>exact uE _ c hf hs|bc c=>
 rw[hs]at h1 h2;cases c with
 |cT a rem=>have Oc:cj=false:=h2.1;rcases hw (C.n+0) (by omega) ((VS 0 hp).1 (by omega))with⟨_,_,h⟩|⟨h,_⟩;rw[Oc]at h;cases h;exact I.df.p1 _ _ (by omega) hf h a rem hs
 |br k=>obtain⟨Oc,_,hrk,DO⟩:cj=true/\_/\aA=k/\k<3:=h2;have hsr:=I.df.p3 _ _ hf hs;obtain⟨j,hj,aM⟩:=Vy (f:=λi=>(bj D i).said) (g:=λi=>if C.rl i=1 then 1 else 0) (C.n+4) (by rw[me hp,<-I.df.said];omega);by_cases hr:C.rl j=1;rw[if_pos hr]at aM;rcases hw j hj hr with⟨q,h,_⟩|⟨_,h⟩;rw[h]at aM;have:(St.old 1 q:St α).said=1:=rfl;omega;rw[Oc]at h;cases h;rw[if_neg hr]at aM;omega
 |bg=>cases h1
 |b8 a=>cases h1
 |aZ g=>cases h1
 |_=>exact h2.elim
def Inv.awake(I:Inv C all gs w t D cj cr ag aA):∀g∈gs,awake g:=by intro g hg;obtain⟨i,hi,rfl⟩:=Array.mem_iff_getElem.1 hg;obtain⟨aM,h⟩:=I.status (Array.getElem?_eq_getElem hi);rcases h with(h|h)|⟨c,hc⟩;exact awake_of (.inl h);exact awake_of (.inr (.inr h));have:=I.ok i aM;unfold Ok at this;rw[hc,Array.getElem?_eq_getElem hi]at this;obtain⟨g',h1,_⟩:=this;rw[Option.some.inj h1];exact awake_of (.inr (.inl rfl))
theorem Inv.at(I:Inv C all gs w t D cj cr ag aA) d:Inv C all gs (w.at d) t D cj cr ag aA:=⟨I.pos,I.ok,I.size,λi hi=>(I.vq i hi).drawn C d,I.Ov,I.main,I.Dm,I.DZ,I.Hz,I.ne,I.df⟩
def Ends(C:kp α)(all:List α)(gs:Array Goroutine)(w:World)(t:Trace)(D:Nat->Pd α):Prop:=∃cj ag aA bD,Inv C all gs w t D cj true ag aA/\Tr C t D ag aA/\(D 0).st=.live (.aZ bD)/\C.N.A (.aZ bD) (D 0).g (D 0).v
def aoW(L:yW C)(fT:∀i,C.n<=i->i<C.n+4->C.R i=[base C.P])(I:Inv C all gs w t D cj cr ag aA)(T:Tr C t D ag aA)(hX:C.ok0 (D 0).X){i g}(hx:gs[i]? =some g)(hr:g.status=.running):Goes C all gs w sl t D i∨(i=0/\Ends C all gs w t D):=by
 obtain⟨hi,aS⟩:=I.status hx;have dO:=I.ok i hi;unfold Ok at dO;cases hs:(D i).st with
 |old r q=>
 have fP:0<i:=by apply Nat.pos_of_ne_zero;rintro rfl;rcases I.main with⟨_,_,h,_⟩|⟨⟨_,h|h⟩,_⟩<;>rw[hs]at h<;>cases h
 obtain⟨gs',w',u,D',h1,h2,h3,h4,h5,h6⟩:=WB (sl:=sl) I T hi fP hs hx hr;exact .inl ⟨gs',w',u,D',_,_,_,_,h1,h2,h3,.inr ⟨sumTo_congr _ λj _=>h5 (λs=>s.ev) (λ_ _ _=>rfl) j,.inr ⟨sumTo_congr _ λj _=>h5 (λs=>s.up) (λ_ _ _=>rfl) j,h4⟩⟩,h6⟩
 |bS c=>rw[hs,hx]at dO;cases dO.1
 |born c=>
 obtain⟨gs',w',u,D',h1,h2,h3,h4⟩:=SX (sl:=sl) L I T hi hs;refine .inl ⟨gs',w',u,D',_,_,_,_,h1,h2,h3,.inl ?_,h4.2⟩;rw[h4.1];have:=oE (C:=C) (s:=bj D) hi (.live c);have f1:(bj D i).ev=c.ev+1:=by rw[show bj D i=_ from hs];rfl
 have f2:(St.live c).ev=c.ev:=rfl;omega|bc c=>rw[hs,hx]at dO;obtain⟨g',h1,_⟩:=dO;rw[Option.some.inj h1]at hr;cases hr
 |live c=>
 by_cases pY:C.N.Stop c (D i).g (D i).v;have cX:=I.df.cO i hi;rw[show bj D i=_ from hs]at cX;cases c with
 |bg=>exact .inl (Ns L I T hi hs pY λOc=>SW L I T hi hs pY Oc)|b8 a=>exact .inl (No L I T hi hs pY)
 |fi=>exact .inl (Nq L fT I T hi hs pY)|feed rem=>rcases pY with⟨a,DD,KE,hA⟩|⟨rfl,hA⟩;exact .inl (Np L I T hi hs KE hA);exact .inl (Kk L I T hi hs hA)
 |cT a rem=>exact cX.elim|fe=>exact cX.elim
 |br k=>exact .inl (Nt L I T hi hs pY)|dh=>exact .inl (Kj L fT I T hi hs pY)
 |spawn k=>
 have fP:i=0:=by refine nY I.pos hi (by have:=I.pos;omega) ?_ (.inr ?_);rw[<-I.df.role i hi,show bj D i=_ from hs];simp[kp.rl,St.role,ko.role];rw[<-I.df.role i hi,show bj D i=_ from hs];rfl
 subst fP;exact .inl (Nn L I T hs pY hX)|aZ bD=>
  have fP:i=0:=by refine nY I.pos hi (by have:=I.pos;omega) ?_ (.inr ?_);rw[<-I.df.role i hi,show bj D i=_ from hs];simp[kp.rl,St.role,ko.role];rw[<-I.df.role i hi,show bj D i=_ from hs];rfl
  subst fP;cases lV:cr with|false=>exact .inl (by subst lV;exact Nr L I T hi hs pY rfl)|true=>subst lV;exact .inr ⟨rfl,_,_,_,bD,I,T,hs,pY⟩
 obtain⟨gs',w',u,D',h1,h2,h3,h4,h5,h6⟩:=Wz (sl:=sl) L I T hi hs pY;exact .inl ⟨gs',w',u,D',_,_,_,_,h1,h2,h3,.inr ⟨sumTo_congr _ λj _=>congrArg St.ev (h5 j),.inr ⟨sumTo_congr _ λj _=>congrArg St.up (h5 j),h4⟩⟩,h6⟩
def Mi{f m}(hm:0<m)(h:∀i,i<m->i≠0->f i=0):sumTo m f=f 0:=by
 have e1:sumTo m f=sumTo m (λi=>if i=0 then f 0 else 0):=sumTo_congr m λi hi=>by by_cases h0:i=0;subst h0;rw[if_pos rfl];rw[if_neg h0];exact h i hi h0
 have e2:=vo (f:=λ_=>0) (g:=λi=>if i=0 then f 0 else 0) (m:=m) (i:=0) hm (λj hj=>if_neg hj);have e3:∀m,sumTo m (λ_=>0)=0:=by intro m;induction m with|zero=>rfl|succ m ih=>show sumTo m _+0=0;rw[ih]
 rw[e3]at e2;simp at e2;rw[e1];exact e2
structure Fin(C:kp α)(all:List α)(gs:Array Goroutine)(w:World)(t:Trace)(D:Nat->Pd α):Prop where
 start:∃bD a,gs[0]? =some a/\GR C.P C.E (D 0).X (C.R 0) (Go.Conc.served (D 0).g (.tuple #[C.N.zR,.bool false])) a/\a.offers=none/\C.N.A (.aZ bD) (D 0).g (D 0).v/\∀p,bD.countP p=all.countP p
 vq:∀i,i<C.n+4->jq C w (D i)
 agt:C.N.A .dh (D (C.n+3)).g (D (C.n+3)).v
 leave:∃q,Leavers C.P t gs q
 ao4:Tp.iw t
 YW:(∃cap buf cl s r tm,w.heap[C.N.J]? =some (.chan cap buf cl s r tm))/\(∃cap buf cl s r tm,w.heap[C.N.R]? =some (.chan cap buf cl s r tm))/\∃cap buf cl s r tm,w.heap[C.N.D]? =some (.chan cap buf cl s r tm)
def Uc(L:yW C)(h:Ends C all gs w t D):∃gs' u,runT C.P (crowd gs w sl) 0=(.next (crowd gs' w sl),u)/\Fin C all gs' w (t++u) D:=by
 obtain⟨cj,ag,aA,bD,I,T,aS,hA⟩:=h;have hp:=I.pos;have h0:0<C.n+4:=by omega
 have hf:C.n+3<C.n+4:=by omega
 obtain⟨g',hx,aM,jY⟩:=qC L I h0 aS;have lW:=L.act (.aZ bD) _ _ _ _ _ rfl hA jY true w;obtain⟨s,r,hc⟩:=I.DZ;obtain⟨qf,hqf⟩:∃q,bj D (C.n+3)=.old 2 q:=by
  have h1:=I.df.role _ hf;have h2:=I.df.cO _ hf;rw[(VS 0 hp).2]at h1;cases hs:bj D (C.n+3)with
  |old r q=>rw[hs]at h1;obtain rfl:r=2:=h1;exact⟨q,rfl⟩
  |bS c=>rw[hs]at h1 h2;cases c<;>first|exact h2.elim|(cases h2.2.1)|cases h1
  |born c=>rw[hs]at h1 h2;cases c<;>first|exact h2.elim|(cases h2.2.1)|cases h1
  |live c=>rw[hs]at h1 h2;cases c<;>first|exact h2.elim|(cases h2.2.1)|cases h1
  |bc c=>rw[hs]at h1 h2;cases c<;>first|exact h2.elim|(cases h2.2.1)|cases h1
 have Fp:aA=3:=by have:=I.df.cO _ hf;rw[hqf]at this;exact this.2.2
 have gJ:∀j,j<C.n+4->j≠0->∃r q,bj D j=.old r q:=λj hj X6=>by
  by_cases h3:j=C.n+3;subst h3;exact⟨2,qf,hqf⟩;by_cases h1:C.rl j=1;obtain⟨q,hq⟩:=I.df.OQ hp (by have:=I.df.le;omega) hj h1;exact⟨1,q,hq⟩;have hr0:C.rl j=0:=by unfold kp.rl at h1|-;rw[if_neg X6]at h1|-;split;rfl;rename_i hn;rw[if_neg hn,if_pos (by omega)]at h1;exact absurd rfl h1
  have h4:=I.df.role j hj;rw[hr0]at h4;cases hs:bj D j with|old r q=>exact⟨r,q,rfl⟩|bS c=>rw[hs]at h4;exact absurd h4 (j4 c)|born c=>rw[hs]at h4;exact absurd h4 (j4 c)|live c=>rw[hs]at h4;exact absurd h4 (j4 c)|bc c=>rw[hs]at h4;exact absurd h4 (j4 c)
 have hpn:partners (gs.setIfInBounds 0 ph) C.N.R true=[]:=I.vV λj c hj nD e=>by by_cases X6:j=0;subst X6;rw[aS]at nD;cases nD;obtain⟨r,q,hq⟩:=gJ j hj X6;rw[show(D j).st=_ from hq]at nD;cases nD
 have cD:=crowd_recv_closed (P:=C.P) (sl:=sl) (i:=0) hx lW hc hpn;simp only[Net.shape,finishComm_recv,dF,Array.empty_append,recvd,if_true]at cD;let z:MemOp:={g:=0,fn:=g'.frame.fn,pos:=g'.frame.place,act:=.recvClosed C.N.R};have hu:Quiet #[z]:=λop cI=>by
  have:op=z:=by simpa using cI
  subst this;exact⟨rfl,λm=>by simp[z]⟩
 have hd0:Deaf t 0=0:=T.deaf 0 (.inl rfl) λr q e=>by rw[aS]at e;cases e
 have Xe:(t++#[z])[t.size]? =some z:=by rw[Array.getElem?_append_right ν,Nat.sub_self];rfl
 have hzh:(t++#[z]).heard t.size:=⟨0,by rw[Trace.g?,Xe];rfl,by rw[deaf_old ν];exact hd0⟩;obtain⟨c,zc,c1,c2,c3,c4,c5⟩:=T.shut qf hqf;have ajW:=lt_size_of_getElem? c1;have hcz:HappensBefore (t++#[z]) c t.size:=.single (.inr ⟨.closed (c:=C.N.R) (by rw[act?_of (show(t++#[z])[c]? =some zc by rw[getElem?_append_old ajW];exact c1),c3]) (by rw[act?_of Xe]),(heard_old ajW).2 c4,hzh⟩);have XZ:∀i a,touchAt (t++#[z]) i=some a->a.loc.isMemory=true->Knows (t++#[z]) 0 i:=λi a ha hm=>by obtain⟨x,xN,ve⟩:=touch_of ha;rcases getElem?_append_cases xN with⟨hi,hx2⟩|⟨_,UL⟩;rcases T.touch i a (by rw[touchAt_of hx2];exact ve) hm with hk|⟨op,h1,h2,_⟩;exact(hk 0 (.inl rfl) I.zero).app _;rw[hx2]at h1;cases h1;by_cases hg0:x.g=0;have:=knows_own xN;rwa[hg0]at this;exact⟨t.size,z,Xe,rfl,.inr (((c5 i x a hx2 h2 hg0 ve).app #[z]).hb hcz)⟩;rw[(hu x UL).1]at ve;cases ve
 refine⟨_,#[z],cD,?_⟩;refine⟨⟨bD,_,Array.getElem?_setIfInBounds_self_of_lt aM,iO (kh jY) (V.pair L.Md.2.2.2.2 false),rfl,hA,λp=>?_⟩,I.vq,?_,⟨λj=>match(D j).st with|.old _ q=>q|_=>0,⟨λj x hj hjx=>?_,λj hj=>?_⟩⟩,⟨λsaid=>xH (T.clean said) (λop cI=>(hu op cI).1),XZ,λi g hg bZ TA=>?_,by rw[hu.deaf];exact hd0⟩,?_⟩;have h1:=I.df.tok p;rw[Mi h0 (λi hi fP=>by obtain⟨r,q,hq⟩:=gJ i hi fP;rw[hq];rfl)]at h1;rw[show bj D 0=_ from aS]at h1;exact h1;have:=I.ok _ hf;unfold Ok at this;rw[show(D (C.n+3)).st=_ from hqf]at this;exact this.2 rfl;rw[Array.getElem?_setIfInBounds_ne (by omega)]at hjx;have kS:=(I.status hjx).1;obtain⟨r,q,hq⟩:=gJ j kS (by omega);have:=I.ok j kS;unfold Ok at this;rw[show(D j).st=_ from hq]at this;obtain⟨⟨y,hy,hqd⟩,_⟩:=this;rw[hjx]at hy;cases hy;rw[show(D j).st=_ from hq,hu.deaf];exact hqd;rw[hu.deaf];rw[Array.size_setIfInBounds]at hj;have lU:gs.size=C.n+4:=by rcases I.main with⟨k,_,h,_⟩|⟨_,h⟩;rw[aS]at h;cases h;exact h
 exact T.above j (by omega);obtain⟨a,ha,hm,_⟩:=TA;obtain⟨q,y,h1,h2,h3⟩:=XZ i a ha hm;rcases h3 with rfl|h3;rw[Trace.g?,h1]at hg;simp at hg;exact absurd (hg.symm.trans h2) bZ;exact⟨q,by rw[Trace.g?,h1];simp[h2],h3⟩;obtain⟨s1,r1,e1⟩:=I.Dm;exact⟨⟨_,_,_,_,_,_,e1⟩,⟨_,_,_,_,_,_,hc⟩,⟨_,_,_,_,_,_,I.Hz⟩⟩
def Inv.acc(I:Inv C all gs w t D cj cr ag aA):Acc (OU (Dn C.P C.N) (C.n+4)) D:=JD _ _ _ λi hi=>agz _ λc hc=>by have:=I.ok i hi;unfold Ok at this;rw[hc]at this;obtain⟨_,_,_,h⟩:=this;exact h
def phase(L:yW C)(fT:∀i,C.n<=i->i<C.n+4->C.R i=[base C.P])(I:Inv C all gs w t D cj cr ag aA)(T:Tr C t D ag aA)(hX:C.ok0 (D 0).X):∃(N:Nat)(gs':Array Goroutine)(w':World)(pB:Option (Nat×Nat))(t':Trace)(D':Nat->Pd α),runNT C.P N (crowd gs w sl) t=(.next (crowd gs' w' pB),t')/\Kept C w w' D D'/\Fin C all gs' w' t' D':=by
 have key:∀(e p:Nat)(D:Nat->Pd α),Acc (OU (Dn C.P C.N) (C.n+4)) D->Lg C (bj D)=e->ups C (bj D)=p->∀(gs:Array Goroutine)(w:World)(sl:Option (Nat×Nat))(t:Trace)(cj cr:Bool)(ag aA:Nat),Inv C all gs w t D cj cr ag aA->Tr C t D ag aA->C.ok0 (D 0).X->∃(N:Nat)(gs':Array Goroutine)(w':World)(pB:Option (Nat×Nat))(t':Trace)(D':Nat->Pd α),runNT C.P N (crowd gs w sl) t=(.next (crowd gs' w' pB),t')/\Kept C w w' D D'/\Fin C all gs' w' t' D':=by
  intro e;induction e using Nat.strongRecOn with|_ e ihe=>
  intro p;induction p using Nat.strongRecOn with|_ p ihp=>
  intro D aqK;induction aqK with
  |intro D _ ihD=>
  intro he hp gs w sl t cj cr ag aA I T hX;obtain⟨i,g,d,sl1,hx,hr,adi⟩:=crowd_pick (P:=C.P) (w:=w) (sl:=sl) I.awake I.aau;have ajA:Kept C w (w.at d) D D:=jX (λ_=>rfl) rfl rfl rfl rfl;rcases aoW (sl:=sl1) L fT (I.at d) T hX hx hr with⟨gs1,w1,u,D1,cj1,cr1,asN,asP,cD,I1,T1,ajz,adw⟩|⟨rfl,ajO⟩;have apN:∃(N:Nat)(gs':Array Goroutine)(w':World)(pB:Option (Nat×Nat))(t':Trace)(D':Nat->Pd α),runNT C.P N (crowd gs1 w1 sl1) (t++u)=(.next (crowd gs' w' pB),t')/\Kept C w1 w' D1 D'/\Fin C all gs' w' t' D':=by
   have hX1:C.ok0 (D1 0).X:=by obtain⟨Y,hY,_⟩:=adw.grow 0;rw[hY];exact L.app0 _ _ hX
   rcases ajz with h|⟨h1,h|⟨h2,h3⟩⟩;exact ihe _ (by omega) _ D1 I1.acc rfl rfl gs1 w1 sl1 _ _ _ _ _ I1 T1 hX1;exact ihp _ (by omega) D1 I1.acc (by omega) rfl gs1 w1 sl1 _ _ _ _ _ I1 T1 hX1;exact ihD D1 h3 (by omega) (by omega) gs1 w1 sl1 _ _ _ _ _ I1 T1 hX1
  obtain⟨N,gs',w',pB,t',D',r1,r2,r3⟩:=apN;exact⟨N+1,gs',w',pB,t',D',by simp only[runNT,adi,cD];exact r1,(ajA.trans adw).trans r2,r3⟩;obtain⟨gs',u,cD,il⟩:=Uc (sl:=sl1) L ajO;exact⟨1,gs',w.at d,sl1,t++u,D,by simp only[runNT,adi,cD],ajA,il⟩
 exact key _ _ D I.acc rfl rfl gs w sl t cj cr ag aA I T hX
end
end Ph
namespace Tp
open Go.Conc
def bE(P:Program)(Stop:Goroutine->World->Prop)(fr:Frame)(cs:List Frame)(w:World):Prop:=∃N gS wS,runN P N (lone fr cs w)=.next (solo gS wS)/\FM gS/\Stop gS wS
section
variable{P:Program}{Stop:Goroutine->World->Prop}{fr fr' b:Frame}{cs fy:List Frame}{w w':World}{a:Act}{k:List Item}
def bt(h:Stop {frame:=fr,callers:=cs,status:=.running,dying:=none} w):bE P Stop fr cs w:=⟨0,_,w,rfl,⟨rfl,rfl⟩,h⟩
def bR(h:step P (lone fr cs w)=.next (lone fr' fy w'))(h':bE P Stop fr' fy w'):bE P Stop fr cs w:=by obtain⟨N,gS,wS,h1,h2,h3⟩:=h';exact⟨N+1,gS,wS,by simp only[runN,h];exact h1,h2,h3⟩
def da(h:Steps P (lone fr cs w) (lone fr' fy w'))(h':bE P Stop fr' fy w'):bE P Stop fr cs w:=by obtain⟨N,gS,wS,h1,h2,h3⟩:=h';obtain⟨n,hn⟩:=h;exact⟨n+N,gS,wS,by rw[runN_add,hn];exact h1,h2,h3⟩
def acm{x y}(h:bE P Stop (b.at a (.code x::.code y::k)) cs w):bE P Stop (b.at a (.code (.seq x y)::k)) cs w:=bR step_seq h
def Zg{c}(h:bE P Stop (b.at a (.code c::.inLoop c::k)) cs w):bE P Stop (b.at a (.code (.loop c)::k)) cs w:=bR step_loop h
def eN{c}(h:bE P Stop (b.at a (.code c::.inLoop c::k)) cs w):bE P Stop (b.at a (.inLoop c::k)) cs w:=bR step_inLoop h
def Uw{id c}(h:bE P Stop (b.at a (.code c::.inBlock id::k)) cs w):bE P Stop (b.at a (.code (.block id c)::k)) cs w:=bR step_block h
def dK{id}(h:bE P Stop (b.at a k) cs w):bE P Stop (b.at a (.inBlock id::k)) cs w:=bR step_inBlock h
def Ze(h:bE P Stop (b.at a k) cs w):bE P Stop (b.at a (.code .skip::k)) cs w:=bR step_skip h
def Zh{id k'}(hk:exitTo id k=some k')(h:bE P Stop (b.at a k') cs w):bE P Stop (b.at a (.code (.exit id)::k)) cs w:=bR (step_exit hk) h
def Zj{c x y t}(hc:a.eval c=.bool t)(h:bE P Stop (b.at a (.code (if t then x else y)::k)) cs w):bE P Stop (b.at a (.code (.cond c x y)::k)) cs w:=bR (step_cond hc) h
def cE(h:∀τ n,bE P Stop fr cs (w.re τ n)):Ej P Stop {frame:=fr,callers:=cs,status:=.running,dying:=none} w:=h
def bP{ops}(h:bE P Stop (b.at a k) cs w):bE P Stop (b.at a (.inRegion ops []::k)) cs w:=bR step_region_end h
def mU{o}(h:o.guard=none) y:Region.wanted o y=true:=by unfold Region.wanted;rw[h]
def jM{ops i rest o v}(ho:ops[i]? =some o)(hg:o.guard=none)(hr:(execOp a.eval o).run P w=.ok (.value v) w')(h:bE P Stop (b.at (a.put o.dst v) (.inRegion ops rest::k)) cs w'):bE P Stop (b.at a (.inRegion ops (i::rest)::k)) cs w:=by
 have hf:(b.at a (.inRegion ops (i::rest)::k)).finish v=b.at (a.put o.dst v) (.inRegion ops rest::k):=by rw[Frame.finish_at,ho];rfl
 have hs:step P (lone (b.at a (.inRegion ops (i::rest)::k)) cs w)=.next (lone ((b.at a (.inRegion ops (i::rest)::k)).finish v) cs w'):=step_lone_go (by rw[stepG_op ho (mU hg _)];unfold stepG.apply;simp only[if_true,Sem.runT_eq,hr];rfl);rw[hf]at hs;exact bR hs h
end
end Tp
namespace Tp
open Go.Conc
abbrev gu(fr:Frame)(cs:List Frame):Goroutine:={frame:=fr,callers:=cs,status:=.running,dying:=none}
def Fit(a:Goroutine):Prop:=Ld a/\a.dying=none
def eO(P:Program)(Stop:Goroutine->World->Prop)(a:Goroutine)(w:World):Prop:=Fit a->∀τ n,Dp P (λg u=>Fit g/\Stop g u) a (w.re τ n)
section
variable{P:Program}{Stop C7:Goroutine->World->Prop}{a:Goroutine}{w:World}
def eO.re(h:eO P Stop a w) τ n:eO P Stop a (w.re τ n):=λhf El n'=>h hf El n'
def eO.self(h:eO P Stop a w)(hf:Fit a):Dp P (λg u=>Fit g/\Stop g u) a w:=h hf w.tape w.drawn
theorem eO.stop(hS:∀τ n,Stop a (w.re τ n)):eO P Stop a w:=λhf τ n=>.stop ⟨hf,hS τ n⟩
def eO.trans(h:eO P Stop a w)(h':∀a' w',Stop a' w'->eO P C7 a' w'):eO P C7 a w:=λhf τ n=>(h hf τ n).trans λa' w' s=>(h' a' w' s.2).self s.1
theorem Pw(hB:bG P):∀N {g gS:Goroutine}{w wS:World},Fit g->runN P N (solo g w)=.next (solo gS wS)->FM gS->Fit gS
 |0,g,gS,w,wS,hf,hr,_=>by injection hr with hr;obtain⟨rfl,rfl⟩:=j3 hr;exact hf
 |N+1,g,gS,w,wS,hf,hr,hg=>by obtain⟨g',w',ops,k,h1,h2,_,h4⟩:=wJ hB hf.1 hf.2 hr hg;exact Pw hB N ⟨h1,h2⟩ h4 hg
def bW(hB:bG P)(h:Ej P (eO P Stop) a w):eO P Stop a w:=λhf τ n=>by
 have h1:Ej P (λg u=>Fit g/\eO P Stop g u) a (w.re τ n):=λEl n'=>by obtain⟨N,gS,wS,h1,h2,h3⟩:=h El n';exact⟨N,gS,wS,h1,h2,Pw hB N hf h1 h2,h3⟩
 have h2:Dp P (λg u=>Fit g/\eO P Stop g u) a (w.re τ n):=LI hB (λg u τ n h=>⟨h.1,h.2.re τ n⟩) hf.1 hf.2 h1;exact h2.trans λa' w' s=>s.2.self s.1
def th(hB:bG P){fr cs}(h:∀τ n,∃fr' fy w',Steps P (lone fr cs (w.re τ n)) (lone fr' fy w')/\eO P Stop (gu fr' fy) w'):eO P Stop (gu fr cs) w:=bW hB λτ n=>by obtain⟨fr',fy,w',⟨N,h1⟩,h2⟩:=h τ n;exact⟨N,gu fr' fy,w',h1,⟨rfl,rfl⟩,h2⟩
end
def fB(P:Program)(f:FuncId)(args:Array Value)(w:World)(R:Value->World->Prop):Prop:=∀(c:Frame)(cs:List Frame)(Stop:Goroutine->World->Prop),(∀v w',R v w'->eO P Stop (gu (c.finish v) cs) w')->eO P Stop (gu (Frame.enter P f args .normal) (c::cs)) w
section
variable{P:Program}{Q Q':Exit->Act->World->Prop}{a:Act}{w:World}
def fB.mono{f args R R'}(h:fB P f args w R)(hr:∀v w',R v w'->R' v w'):fB P f args w R':=λc cs Stop K=>h c cs Stop λv w' r=>K v w' (hr v w' r)
def qy(hB:bG P){f args R}(h:∀τ n,Calls P f args (w.re τ n) λ|.returned v,w'=>R v w'|_,_=>False):fB P f args w R:=λc cs Stop K=>by refine th hB λτ n=>?_;obtain⟨e,w',fr,hR,hc,_,hl⟩:=h τ n (c::cs);cases e with|returned v=>exact⟨_,_,w',Steps.trans hc (.one (step_leave_returned hl)),K v w' hR⟩|panicked _=>exact hR.elim|outgrown=>exact hR.elim
end
end Tp
namespace Ph
open Go.Conc Rn
open Go.ConcN (sumTo upd sumTo_upd upd_ne upd_same le_sumTo fork_knows)
open Tp (cN Term Ld Dp eO iw)
variable{α:Type}
structure Setup(α:Type) where
 P:Program
 E:Env
 Sh:Nat->Prop
 N:Net α
 cs:List Frame
 fw:FuncId
 ff:FuncId
 aw:Array Value
 af:Array Value
 all:List α
 g0:Goroutine
 gw:Goroutine
 gf:Goroutine
 v0:World
 vw:World
 vf:World
 vn:World
 X0:List Nat
 Xw:List Nat
 Xf:List Nat
def Setup.cfg(S:Setup α)(n:Nat):kp α:=⟨S.P,S.E,S.Sh,S.N,n,λi=>if i=0 then S.cs else [base S.P],λi=>if i<n+3 then S.fw else S.ff,λi=>if i<n+3 then S.aw else S.af,λX=>∃Y,X=S.X0++Y,S.all.length⟩
def Setup.D(S:Setup α)(n:Nat)(q:Nat->Nat)(i:Nat):Pd α:=if i=0 then⟨.live (.spawn 0),S.g0,S.v0,S.X0⟩else if i<n then⟨.old 0 (q i),S.g0,S.vn,[]⟩else if i<n+3 then⟨.bS .bg,S.gw,S.vw,S.Xw⟩else if i=n+3 then⟨.bS (.feed S.all),S.gf,S.vf,S.Xf⟩else⟨.old 0 0,S.g0,S.vn,[]⟩
def started(P:Program)(f:FuncId)(a:Array Value):Goroutine:={frame:=Frame.enter P f a .deferred,callers:=[base P],status:=.running,dying:=none}
structure Zw(S:Setup α)(a:Goroutine)(w:World):Prop where
 law:∀n,yW (S.cfg n)
 gr0:GR S.P S.E S.X0 S.cs S.g0 a
 acV:Term S.P (S.N.Stop (.spawn 0)) S.g0 S.v0
 grw:GR S.P S.E S.Xw [base S.P] S.gw (started S.P S.fw S.aw)
 acT:Term S.P (S.N.Stop .bg) S.gw S.vw
 grf:GR S.P S.E S.Xf [base S.P] S.gf (started S.P S.ff S.af)
 acU:Term S.P (S.N.Stop (.feed S.all)) S.gf S.vf
 wr0:WR S.E S.Sh S.X0 (S.v0.re w.tape w.drawn) w
 wrw:WR S.E S.Sh S.Xw (S.vw.re w.tape w.drawn) w
 wrf:WR S.E S.Sh S.Xf (S.vf.re w.tape w.drawn) w
 wrn:WR S.E S.Sh [] (S.vn.re w.tape w.drawn) w
 d0w:∀b∈S.X0,b∈S.Xw->S.Sh b
 d0f:∀b∈S.X0,b∈S.Xf->S.Sh b
 dww:∀b∈S.Xw,S.Sh b
 Dm:∃s r,w.heap[S.N.J]? =some (.chan 0 #[] false s r false)
 DZ:∃s r,w.heap[S.N.R]? =some (.chan 0 #[] false s r false)
 Hz:w.heap[S.N.D]? =some (.chan 3 #[] false 0 0 false)
 ne:S.N.J≠S.N.R/\S.N.J≠S.N.D/\S.N.R≠S.N.D
def aed(S:Setup α)(w:World)(a':Goroutine)(w':World):Prop:=∃(bD:List α)(X:List Nat)(g:Goroutine)(v:World)(Xf:List Nat)(gf:Goroutine)(vf:World),GR S.P S.E X S.cs (Go.Conc.served g (.tuple #[S.N.zR,.bool false])) a'/\a'.offers=none/\S.N.A (.aZ bD) g v/\(∀p,bD.countP p=S.all.countP p)/\WR S.E S.Sh X (v.re w'.tape w'.drawn) w'/\(∃Y,X=S.X0++Y/\∀b∈Y,w.heap.size<=b)/\S.N.A .dh gf vf/\WR S.E S.Sh Xf (vf.re w'.tape w'.drawn) w'/\(∃Y,Xf=S.Xf++Y)/\w.heap.size<=w'.heap.size/\(∀b,b<w.heap.size->b≠S.N.J->b≠S.N.R->b≠S.N.D->((b∉S.X0/\b∉S.Xw/\b∉S.Xf)∨S.Sh b)->w'.heap[b]? =w.heap[b]?)/\w'.os=w.os/\w'.output=w.output/\w'.tape=w.tape
def Vz{f m j}(hj:j<m)(h:∀i,i<m->i≠j->f i=0):sumTo m f=f j:=by
 have e1:sumTo m f=sumTo m (λi=>if i=j then f j else 0):=sumTo_congr m λi hi=>by by_cases h0:i=j;subst h0;rw[if_pos rfl];rw[if_neg h0];exact h i hi h0
 have e2:=vo (f:=λ_=>0) (g:=λi=>if i=j then f j else 0) (m:=m) (i:=j) hj (λk hk=>if_neg hk);have e3:∀m,sumTo m (λ_=>0)=0:=by intro m;induction m with|zero=>rfl|succ m ih=>show sumTo m _+0=0;rw[ih]
 rw[e3]at e2;simp at e2;rw[e1];exact e2
theorem zW{f}:∀ {m:Nat},(∀i,i<m->f i=0)->sumTo m f=0
 |0,_=>rfl|m+1,h=>by show sumTo m f+f m=0;rw[zW (λi hi=>h i (by omega)),h m (by omega)]
section
variable{S:Setup α}{a:Goroutine}{w:World}{gs:Array Goroutine}{t:Trace}{q:Nat->Nat}
def Setup.cases(S:Setup α) n q{i}(hi:i<n+4){p:Pd α->Prop}(h0:i=0->p ⟨.live (.spawn 0),S.g0,S.v0,S.X0⟩)(h1:0<i->i<n->p ⟨.old 0 (q i),S.g0,S.vn,[]⟩)(h2:n<=i->i<n+3->p ⟨.bS .bg,S.gw,S.vw,S.Xw⟩)(h3:i=n+3->p ⟨.bS (.feed S.all),S.gf,S.vf,S.Xf⟩):p (S.D n q i):=by unfold Setup.D;split;exact h0 ‹_›;split;exact h1 (by omega) ‹_›;split;exact h2 (by omega) ‹_›;split;exact h3 ‹_›;omega
def Rq(h:Zw S a w)(h0:gs[0]? =some a)(hL:Leavers S.P t gs q):Inv (S.cfg gs.size) S.all gs w t (S.D gs.size q) false false 0 0:=by
 have hp:0<gs.size:=(Array.getElem?_eq_some_iff.1 h0).1;have kg:=λ(i:Nat) (hi:i<gs.size+4) (p:Pd α->Prop)=>@Setup.cases α S gs.size q i hi p;refine⟨hp,λi hi=>?_,by show gs.size<=gs.size+4;omega,λi hi=>?_,λi j hi hj j9 b=>?_,.inl ⟨0,by omega,?_,rfl⟩,h.Dm,h.DZ,?_,h.ne,?_⟩;refine kg i hi (λd=>Ok (S.cfg gs.size) t i gs[i]? d) ?_ ?_ ?_ ?_;rintro rfl;exact⟨a,h0,h.gr0,h.acV⟩;intro h1 h2;refine⟨⟨gs[i],Array.getElem?_eq_getElem h2,hL.old i _ h1 (Array.getElem?_eq_getElem h2)⟩,λe=>by cases e⟩;intro h1 h2;have e:i≠0:=by omega
 refine⟨Array.getElem?_eq_none (by omega),if_neg e,?_,h.acT⟩;show GR S.P S.E S.Xw (if i=0 then S.cs else [base S.P]) S.gw (started S.P (if i<gs.size+3 then S.fw else S.ff) (if i<gs.size+3 then S.aw else S.af));rw[if_neg e,if_pos h2,if_pos h2];exact h.grw;intro h3;have e:i≠0:=by omega
 have e2:¬i<gs.size+3:=by omega
 refine⟨Array.getElem?_eq_none (by omega),if_neg e,?_,h.acU⟩;show GR S.P S.E S.Xf (if i=0 then S.cs else [base S.P]) S.gf (started S.P (if i<gs.size+3 then S.fw else S.ff) (if i<gs.size+3 then S.aw else S.af));rw[if_neg e,if_neg e2,if_neg e2];exact h.grf;exact kg i hi (λd=>jq (S.cfg gs.size) w d) (λ_=>h.wr0) (λ_ _=>h.wrn) (λ_ _=>h.wrw) (λ_=>h.wrf);show b∈(S.D gs.size q i).X->b∈(S.D gs.size q j).X->S.Sh b;refine kg i hi (λd=>b∈d.X->b∈(S.D gs.size q j).X->S.Sh b) ?_ ?_ ?_ ?_;intro fP hb;refine kg j hj (λd=>b∈d.X->S.Sh b) (λX6=>absurd (fP.trans X6.symm) j9) (λ_ _ hb=>by cases hb) (λ_ _=>h.d0w b hb) (λ_=>h.d0f b hb);intro _ _ hb;cases hb;intro _ _ hb _;exact h.dww b hb;intro US hb;refine kg j hj (λd=>b∈d.X->S.Sh b) (λ_ pf=>h.d0f b pf hb) (λ_ _ hb=>by cases hb) (λ_ _ pf=>h.dww b pf) (λhj3=>absurd (US.trans hj3.symm) j9);show(S.D gs.size q 0).st=_;unfold Setup.D;rw[if_pos rfl];show w.heap[S.N.D]? =some (.chan 3 (Array.replicate (0-0) S.N.dv) false 0 0 false);exact h.Hz;have hn:(S.cfg gs.size).n=gs.size:=rfl;refine⟨λi hi=>?_,λp=>?_,ν,?_,λi hi=>?_,λi j hi hj=>?_,λi j hi hj=>?_,λi k hi=>?_,ν⟩;unfold kp.rl;rw[hn];refine kg i hi (λd=>d.st.role=if i=0 then 3 else if i<gs.size then 0 else if i<gs.size+3 then 1 else 2) ?_ ?_ ?_ ?_;intro e;rw[if_pos e];rfl;intro e1 e2;rw[if_neg (by omega),if_pos e2];rfl;intro e1 e2;rw[if_neg (by omega),if_neg (by omega),if_pos e2];rfl;intro e;rw[if_neg (by omega),if_neg (by omega),if_neg (by omega)];rfl;have hj:gs.size+3<gs.size+4:=by omega
 refine(Vz (j:=gs.size+3) hj λi hi bZ=>?_).trans ?_;refine kg i hi (λd=>d.st.tok p=0) (λ_=>rfl) (λ_ _=>rfl) (λ_ _=>rfl) (λe=>absurd e bZ);refine kg _ hj (λd=>d.st.tok p=S.all.countP p) (λe=>by omega) (λ_ e=>by omega) (λ_ e=>by omega) (λ_=>rfl);refine(zW λi hi=>?_).symm;refine kg i hi (λd=>d.st.said=0) (λ_=>rfl) (λ_ _=>rfl) (λ_ _=>rfl) (λ_=>rfl);refine kg i hi (λd=>fj false false 0 d.st) (λ_=>trivial) (λ_ _=>trivial) (λ_ _=>rfl) (λ_=>⟨rfl,rfl,rfl⟩);refine kg i hi (λd=>d.st=.bc .bg->_) ?_ ?_ ?_ ?_<;>(intros;simp_all);intro a g;refine kg i hi (λd=>d.st=.bc (.b8 a)->_) ?_ ?_ ?_ ?_<;>(intros;simp_all);refine kg i hi (λd=>d.st=.bc (.br k)->_) ?_ ?_ ?_ ?_<;>(intros;simp_all)
def VC(h0:gs[0]? =some a)(hL:Leavers S.P t gs q)(hP:iw t):Tr (S.cfg gs.size) t (S.D gs.size q) 0 0:=by
 have hp:0<gs.size:=(Array.getElem?_eq_some_iff.1 h0).1;have kg:=λ(i:Nat) (hi:i<gs.size+4) (p:Pd α->Prop)=>@Setup.cases α S gs.size q i hi p;have aM:∀i,(S.cfg gs.size).gZ i->i<gs.size+4:=λi hi=>by rcases hi with rfl|⟨_,hi⟩;omega;exact hi
 refine⟨hP.clean,λp a ha hm=>.inl λi hi hu=>?_,λi hi _=>?_,λi q' hi=>?_,λq'=>?_,λj hj=>hL.above j (by have:(S.cfg gs.size).n=gs.size:=rfl;omega)⟩;have:i=0:=by revert hu;refine kg i (aM i hi) (λd=>(∀c,d.st≠.bS c)->i=0) (λe _=>e) (λe1 e2 _=>?_) (λ_ _ hu=>absurd rfl (hu _)) (λ_ hu=>absurd rfl (hu _));rcases hi with hi|⟨hi,_⟩;exact hi;have:(S.cfg gs.size).n=gs.size:=rfl;omega
 subst this;exact hP.known p a ha hm;rcases hi with rfl|⟨hi,_⟩;exact hP.hears;exact hL.above i hi;refine kg i hi (λd=>d.st=.old 1 q'->_) ?_ ?_ ?_ ?_<;>(intros;simp_all);refine kg (gs.size+3) (by omega) (λd=>d.st=.old 2 q'->_) ?_ ?_ ?_ ?_<;>(intros;simp_all)
def Us(h:Zw S a w):Dp S.P (aed S w) a w:=by
 intro gs sl t q h0 hL hP;have hp:0<gs.size:=(Array.getElem?_eq_some_iff.1 h0).1;have fT:∀i,(S.cfg gs.size).n<=i->i< (S.cfg gs.size).n+4->(S.cfg gs.size).R i=[base (S.cfg gs.size).P]:=λi hi _=>by have:(S.cfg gs.size).n=gs.size:=rfl;exact if_neg (by omega)
 obtain⟨N,gs',w',pB,t',D',cD,hk,hf⟩:=phase (sl:=sl) (h.law gs.size) fT (Rq h h0 hL) (VC h0 hL hP) ⟨[],by unfold Setup.D;rw[if_pos rfl];exact(List.append_nil _).symm⟩;obtain⟨bD,a',h1,h2,h2o,h3,h4⟩:=hf.start;obtain⟨q',hq'⟩:=hf.leave;have hz:(0:Nat)<gs.size+4:=by omega
 have hf3:gs.size+3<gs.size+4:=by omega
 have e0:(S.D gs.size q 0).X=S.X0:=by unfold Setup.D;rw[if_pos rfl]
 have e3:(S.D gs.size q (gs.size+3)).X=S.Xf:=by refine S.cases gs.size q hf3 (p:=λd=>d.X=S.Xf) (λe=>by omega) (λ_ e=>by omega) (λ_ e=>by omega) (λ_=>rfl)
 obtain⟨Y,hY,hY2⟩:=hk.grow 0;obtain⟨Z,hZ,_⟩:=hk.grow (gs.size+3);rw[e0]at hY;rw[e3]at hZ;have s0:WR S.E S.Sh (D' 0).X ((D' 0).v.re w'.tape w'.drawn) w':=hf.vq 0 hz;have s3:WR S.E S.Sh (D' (gs.size+3)).X ((D' (gs.size+3)).v.re w'.tape w'.drawn) w':=hf.vq (gs.size+3) hf3;refine⟨N,gs',a',w',pB,t',q',cD,h1,hq',hf.ao4,bD,(D' 0).X,(D' 0).g,(D' 0).v,(D' (gs.size+3)).X,(D' (gs.size+3)).g,(D' (gs.size+3)).v,h2,h2o,h3,h4,s0,⟨Y,hY,hY2⟩,hf.agt,s3,⟨Z,hZ⟩,hk.size,λb hb n1 n2 n3 hx=>?_,hk.os,hk.output,hk.tape⟩;refine hk.heap b hb n1 n2 n3 (hx.imp (λhx i hi=>?_) id);exact S.cases gs.size q hi (p:=λd=>b∉d.X) (λ_=>hx.1) (λ_ _=>by simp) (λ_ _=>hx.2.1) (λ_=>hx.2.2)
end
end Ph
namespace Tp
open Go.Conc
def oG(ops:Array Oper)(p:List Nat->Bool):Nat->Array Bool->List Nat->Bool
 |0,_,acc=>p acc.reverse|fuel+1,listed,acc=>match Region.ready .any ops listed with
  |[]=>p acc.reverse
  |x::r=>(x::r).all λi=>oG ops p fuel (listed.setIfInBounds i true) (i::acc)
theorem FJ{ops p}:∀fuel t listed acc,oG ops p fuel listed acc=true->p (Region.linearise.go .any ops fuel t listed acc)=true
 |0,t,listed,acc,h=>h|fuel+1,t,listed,acc,h=>by
  simp only[Region.linearise.go];change p (match(Region.ready .any ops listed)[t % (Region.ready .any ops listed).length]? with
   |some i=>Region.linearise.go .any ops fuel (t/(Region.ready .any ops listed).length) (listed.setIfInBounds i true) (i::acc)
   |none=>acc.reverse)=true
  unfold oG at h;cases hr:Region.ready .any ops listed with|nil=>rw[hr]at h;exact h|cons x r=>rw[hr]at h;cases hi:(x::r)[t % (x::r).length]? with|none=>have aM:t % (x::r).length< (x::r).length:=Nat.mod_lt _ (by simp);rw[List.getElem?_eq_none_iff]at hi;omega|some i=>dsimp only at h|-;rw[List.all_eq_true]at h;exact FJ fuel _ _ _ (h i (List.mem_of_getElem? hi))
def ED{P:Program}{ops p}(hm:P.follows .mixedOrders=true)(h:oG ops p ops.size (Array.replicate ops.size false) []=true) t:p (Region.schedule (P.follows .mixedOrders) ops t)=true:=by simp only[Region.schedule,hm,Bool.true_or,if_true];exact FJ ops.size t _ _ h
def lastB(s:Nat)(l:List Nat):Bool:=l.getLast?==some s&& !l.dropLast.contains s
def BF{s l}(h:lastB s l=true):∃l1,l=l1++[s]/\s∉l1:=by unfold lastB at h;rw[Bool.and_eq_true,beq_iff_eq,Bool.not_eq_true',<-Bool.not_eq_true,List.contains_iff_mem]at h;obtain⟨l1,rfl⟩:=List.getLast?_eq_some_iff.1 h.1;exact⟨l1,rfl,by simpa using h.2⟩
def MH{ops pL}(hs:pL.size=ops.size)(ha:∀i:Nat,(pL[i]?).map (λo:Oper=>o.after)=(ops[i]?).map (λo:Oper=>o.after)) listed:Region.ready .any pL listed=Region.ready .any ops listed:=by
 unfold Region.ready;rw[hs];refine List.filter_congr λi _=>?_;have h:=ha i;cases h1:pL[i]? with
 |none=>rw[h1]at h;cases h2:ops[i]? with|none=>rfl|some o=>rw[h2]at h;cases h
 |some o'=>rw[h1]at h;cases h2:ops[i]? with
 |none=>rw[h2]at h;cases h
 |some o=>rw[h2]at h;have:o'.after=o.after:=Option.some.inj h;simp only[Option.map_some,this]
theorem go_same{ops pL}(hs:pL.size=ops.size)(ha:∀i:Nat,(pL[i]?).map (λo:Oper=>o.after)=(ops[i]?).map (λo:Oper=>o.after)):∀fuel t listed acc,Region.linearise.go .any pL fuel t listed acc=Region.linearise.go .any ops fuel t listed acc
 |0,_,_,_=>rfl|fuel+1,t,listed,acc=>by
  simp only[Region.linearise.go];change (match(Region.ready .any pL listed)[t % (Region.ready .any pL listed).length]? with
   |some i=>Region.linearise.go .any pL fuel (t/(Region.ready .any pL listed).length) (listed.setIfInBounds i true) (i::acc)
   |none=>acc.reverse)=(match(Region.ready .any ops listed)[t % (Region.ready .any ops listed).length]? with
   |some i=>Region.linearise.go .any ops fuel (t/(Region.ready .any ops listed).length) (listed.setIfInBounds i true) (i::acc)
   |none=>acc.reverse)
  rw[MH hs ha];cases(Region.ready .any ops listed)[t % (Region.ready .any ops listed).length]? with|none=>rfl|some i=>exact go_same hs ha fuel _ _ _
def sH{P:Program}{ops pL}(hm:P.follows .mixedOrders=true)(hs:pL.size=ops.size)(ha:∀i:Nat,(pL[i]?).map (λo:Oper=>o.after)=(ops[i]?).map (λo:Oper=>o.after)) t:Region.schedule (P.follows .mixedOrders) pL t=Region.schedule (P.follows .mixedOrders) ops t:=by simp only[Region.schedule,hm,Bool.true_or,if_true];unfold Region.linearise;rw[hs];exact go_same hs ha _ _ _ _
section
variable{P:Program}{ops pL:Array Oper}{Q:Exit->Act->World->Prop}
theorem nk(hQ:∀e a w,Q e a w->e=.normal):∀l a w,wpOps P ops Q l a w->∀r (b:Frame)(k)(cs),∃a' w',Q .normal a' w'/\Steps P (lone (b.at a (.inRegion ops (l++r)::k)) cs w) (lone (b.at a' (.inRegion ops r::k)) cs w')
 |[],a,w,h,r,b,k,cs=>⟨a,w,h,.refl _ _⟩|i::l,a,w,h,r,b,k,cs=>by
  have ih:=λa w h=>nk hQ l a w h r b k cs;rw[List.cons_append];simp only[wpOps]at h;cases ho:ops[i]? with
  |none=>simp only[ho]at h;obtain⟨a',w',hq,aS⟩:=ih a w h;have hs:=step_op_skip (P:=P) (b:=b) (a:=a) (k:=k) (cs:=cs) (w:=w) (ops:=ops) (i:=i) (rest:=l++r) (by simp[ho]);simp only[ho,Option.bind_none,Act.put]at hs;exact⟨a',w',hq,.head hs aS⟩
  |some o=>
  simp only[ho]at h;by_cases hw:Region.wanted o (yielded ops a.tmps)=true
  ·simp only[hw,if_true]at h;rcases h with h|⟨_,arT,aoT,hq⟩;case inr=>have:=hQ _ _ _ hq;cases this
   simp only[Oper.wp,Oper.upon]at h;have hg:=stepG_op (P:=P) (b:=b) (k:=k) (cs:=cs) (w:=w) (rest:=l++r) ho hw;have il:∀v,(b.at a (.inRegion ops (i::(l++r))::k)).finish v=b.at (a.put o.dst v) (.inRegion ops (l++r)::k):=by intro v;rw[Frame.finish_at,ho];rfl
   split at h;rename_i v w' hr;obtain⟨a',u9,hq,aS⟩:=ih _ _ h;refine⟨a',u9,hq,.head (step_lone_go ?_) aS⟩;rw[hg,<-il];simp[stepG.apply,hr];rename_i w' hr;obtain⟨a',u9,hq,aS⟩:=ih _ _ h;refine⟨a',u9,hq,.head (step_lone_go ?_) aS⟩;rw[hg,<-il];simp[stepG.apply,hr];rename_i d w' hr;obtain⟨a',u9,hq,aS⟩:=ih _ _ h;refine⟨a',u9,hq,.head (step_lone_go ?_) aS⟩;have:({b.at a (.inRegion ops (i::(l++r))::k)with defers:=d::a.defers}:Frame).finish undef =
     b.at ({a with defers:=d::a.defers}.put o.dst undef) (.inRegion ops (l++r)::k):=by
    have:=Frame.finish_at b {a with defers:=d::a.defers} ops i (l++r) k undef
    rw[ho]at this;exact this
   rw[hg];simp only[stepG.apply,Sem.runT_eq,hr,GStep.bare_after];exact congrArg (λfr=>GStep.go {frame:=fr,callers:=cs,status:=.running,dying:=none} w') this;rename_i f args w' hr;obtain⟨e,u9,fr,hR,NR,_,afN⟩:=h (b.at a (.inRegion ops (i::(l++r))::k)::cs);have Ob:step P (lone (b.at a (.inRegion ops (i::(l++r))::k)) cs w)=.next (lone (Frame.enter P f args .normal) (b.at a (.inRegion ops (i::(l++r))::k)::cs) w'):=
    step_lone_go (by rw[hg];simp[stepG.apply,hr,Frame.at])
   cases e with
   |returned v=>obtain⟨a',aei,hq,aS⟩:=ih _ _ hR;refine⟨a',aei,hq,.head Ob (Steps.trans NR (.head ?_ aS))⟩;rw[<-il];exact step_leave_returned afN
   |panicked chain=>have:=hQ _ _ _ hR;cases this
   |outgrown=>obtain⟨arT,aoT,hq⟩:=hR;have:=hQ _ _ _ hq;cases this
   rename_i row args w' hr;obtain⟨v,u9,hR,NR⟩:=h (b.at a (.inRegion ops (i::(l++r))::k)) cs;have Ob:step P (lone (b.at a (.inRegion ops (i::(l++r))::k)) cs w)=.next (lone (Frame.ofRow P row args .normal) (b.at a (.inRegion ops (i::(l++r))::k)::cs) w'):=
    step_lone_go (by rw[hg];simp[stepG.apply,hr,Frame.at])
   obtain⟨a',aei,hq,aS⟩:=ih _ _ hR;exact⟨a',aei,hq,.head Ob (Steps.trans (by rw[<-il];exact NR) aS)⟩;have:=hQ _ _ _ h;cases this;exact h.elim
  simp only[hw,if_false,Bool.false_eq_true]at h;obtain⟨a',w',hq,aS⟩:=ih _ _ h;have hs:=step_op_skip (P:=P) (b:=b) (a:=a) (k:=k) (cs:=cs) (w:=w) (ops:=ops) (i:=i) (rest:=l++r) (by simp[ho];simpa using hw);simp only[ho,Option.bind_some]at hs;exact⟨a',w',hq,.head hs aS⟩
def On(o:Oper):Oper:={o with op:=.move (.const undef),dst:=none}
def jw(ops:Array Oper)(s:Nat):Array Oper:=match ops[s]? with
 |some o=>ops.setIfInBounds s (On o)
 |none=>ops
def QK{s j}(h:j≠s):(jw ops s)[j]? =ops[j]?:=by unfold jw;split;rw[Array.getElem?_setIfInBounds_ne (Ne.symm h)];rfl
def wP s:(jw ops s).size=ops.size:=by unfold jw;split<;>simp
def te(s i:Nat):((jw ops s)[i]?).map (λo:Oper=>o.after)=(ops[i]?).map (λo:Oper=>o.after):=by by_cases h:i=s;subst h;unfold jw;split;rename_i o ho;have aM:i<ops.size:=(Array.getElem?_eq_some_iff.1 ho).1;rw[Array.getElem?_setIfInBounds_self_of_lt aM,ho];rfl;rfl;rw[QK h]
def PU(ops:Array Oper):Prop:=∀(i:Nat) o,ops[i]? =some o->o.guard=none
def jh(ops:Array Oper):Bool:=ops.toList.all λo=>o.guard.isNone
def pS(h:jh ops=true):PU ops:=λi o ho=>by unfold jh at h;rw[List.all_eq_true]at h;have:=h o (by simpa using Array.mem_of_getElem? ho);simpa using this
theorem nR{s o}(hg:PU ops)(ho:ops[s]? =some o)(hQ:∀e a w,Q e a w->e=.normal):∀l a w,s∉l->wpOps P (jw ops s) Q (l++[s]) a w->wpOps P ops Q l a w
 |[],a,w,_,h=>by
  have aM:s<ops.size:=(Array.getElem?_eq_some_iff.1 ho).1;have hf:(jw ops s)[s]? =some (On o):=by unfold jw;rw[ho];exact Array.getElem?_setIfInBounds_self_of_lt aM
  rw[List.nil_append]at h;simp only[wpOps,hf]at h;rw[mU (show(On o).guard=none from hg s o ho)]at h;simp only[if_true]at h;rcases h with h|⟨_,_,_,hq⟩;exact h;have:=hQ _ _ _ hq;cases this
 |i::l,a,w,hs,h=>by rw[List.cons_append]at h;have hi:i≠s:=λe=>hs (by rw[e];exact List.mem_cons_self);have ih:=λa w=>nR hg ho hQ l a w (λhm=>hs (List.mem_cons_of_mem _ hm));simp only[wpOps,QK hi]at h|-;cases NV:ops[i]? with|none=>simp only[NV]at h|-;exact ih a w h|some oi=>simp only[NV]at h|-;rw[mU (hg i oi NV)]at h|-;simp only[if_true]at h|-;rcases h with h|⟨h1,h2⟩;exact .inl (Oper.wp_mono ih h);exact .inr ⟨h1,h2⟩
def zK{S}(hm:P.follows .mixedOrders=true){a w}(h:wpAnyH P .any ops Q S ops.size (Array.replicate ops.size false) a w) t:wpOps P ops Q (Region.schedule (P.follows .mixedOrders) ops t) a w:=by simp only[Region.schedule,hm,Bool.true_or,if_true];exact wpAny_sound ops.size t _ a _ (wpAny_of_held _ _ _ _ h)
def MG{S id s o}(hm:P.follows .mixedOrders=true)(hl:oG ops (lastB s) ops.size (Array.replicate ops.size false) []=true)(hg:jh ops=true)(ho:ops[s]? =some o)(hQ:∀e a w,Q e a w->e=.normal){a w} (h:wpAnyH P .any (jw ops s) Q S (jw ops s).size (Array.replicate (jw ops s).size false) a {w with drawn:=w.drawn+1}) (b:Frame) k cs:∃a' w',Q .normal a' w'/\Steps P (lone (b.at a (.code (.region id ops true)::k)) cs w) (lone (b.at a' (.inRegion ops [s]::k)) cs w'):=by have h1:=zK hm h (w.tape w.drawn (.order b.fn id));rw[sH hm (wP s) (te s)]at h1;obtain⟨l,hls,hs⟩:=BF (ED hm hl (w.tape w.drawn (.order b.fn id)));have aS:=step_region_draw (P:=P) (b:=b) (a:=a) (k:=k) (cs:=cs) (w:=w) (ops:=ops) (id:=id);rw[hls]at h1 aS;obtain⟨a',w',hq,h2⟩:=nk hQ l a _ (nR (pS hg) ho hQ l a _ hs h1) [s] b k cs;exact⟨a',w',hq,.head aS h2⟩
def JF{id s r}(hr:List.range ops.size=List.range s++r)(hQ:∀e a w,Q e a w->e=.normal){a w}(h:wpOps P ops Q (List.range s) a w)(b:Frame) k cs:∃a' w',Q .normal a' w'/\Steps P (lone (b.at a (.code (.region id ops false)::k)) cs w) (lone (b.at a' (.inRegion ops r::k)) cs w'):=by have aS:=step_region (P:=P) (b:=b) (a:=a) (k:=k) (cs:=cs) (w:=w) (ops:=ops) (id:=id);rw[hr]at aS;obtain⟨a',w',hq,h2⟩:=nk hQ _ a w h r b k cs;exact⟨a',w',hq,.head aS h2⟩
def pN(K:Act->World->Prop):Exit->Act->World->Prop
 |.normal,a,w=>K a w|_,_,_=>False
def pM{K}:∀e a w,pN K e a w->e=.normal:=λe a w h=>by cases e<;>first|rfl|exact h.elim
end
end Tp
namespace Ph
open Go.Conc Rn
def OH{P} off:QuitsD P 1 0 ⟨base P,[],.running,none,off⟩:=by
 refine .inr ⟨rfl,⟨base P,[],.finished,none,none⟩,#[],by simp,λw=>?_,⟨rfl,rfl⟩⟩;have e1:stepG P false ⟨base P,[],.running,none,off⟩ w=unwind P false (base P) [] none w:=rfl;rw[e1];unfold unwind;have h1:(base P).defers=[]:=rfl;have h2:(base P).mode=.panicking [goexitEntry]:=rfl;have h3:(base P).catches P=false:=by unfold Frame.catches;have:(base P).todo=[]:=rfl;rw[this];split<;>first|rfl|(rename_i h;cases h)
 simp only[h1,h2,h3];rfl
def M0{P fr fn ops off}(hf:P.funcs[fr.fn]? =some fn)(hr:fn.results=#[])(hm:fr.mode=.run)(ht:fr.todo=[.inRegion ops []])(hd:fr.defers=[])(kQ:fr.roundOf=none)(hk:fr.kind=.deferred):QuitsD P 4 0 ⟨fr,[base P],.running,none,off⟩:=by
 refine .inr ⟨rfl,⟨{fr with todo:=[]},[base P],.running,none,none⟩,#[],by simp,λw=>?_,?_⟩;have e1:stepG P false ⟨fr,[base P],.running,none,off⟩ w=stepG.exec P false true fr [base P] none w:=by unfold stepG;simp only[hm]
 rw[e1];unfold stepG.exec;simp only[ht];refine .inr ⟨rfl,⟨{fr with todo:=[],mode:=.returning},[base P],.running,none,none⟩,#[],by simp,λw=>?_,?_⟩;have e1:stepG P false ⟨{fr with todo:=[]},[base P],.running,none,none⟩ w=stepG.exec P false true {fr with todo:=[]} [base P] none w:=by unfold stepG;simp only[hm]
 rw[e1];unfold stepG.exec;simp only[kQ];rfl;refine .inr ⟨rfl,⟨base P,[],.running,none,none⟩,#[],by simp,λw=>?_,OH none⟩;have e1:stepG P false ⟨{fr with todo:=[],mode:=.returning},[base P],.running,none,none⟩ w=unwind P false {fr with todo:=[],mode:=.returning} [base P] none w:=rfl;rw[e1];unfold unwind;have oA:(results fn fr.tmps).runT P w #[]=(.ok (.tuple #[]) w,#[]):=by rw[Sem.runT_eq,results_none hr _ P w];exact congrArg (Prod.mk _) (events_results_none hr _ _)
 simp only[hd,hf,oA];unfold doReturn;simp only[hk];rfl
end Ph
namespace Ph
open Go.Conc Rn
open Tp (bG Term Ld bE bt bR da gu Fit cm bI gT)
def cl:Code->Code
 |.seq x _=>x|c=>c
def cr:Code->Code
 |.seq _ y=>y|c=>c
def ci:Code->Code
 |.block _ c=>c|.loop c=>c|c=>c
def co:Code->Array Oper
 |.region _ o _=>o|_=>#[]
def cb(f:Func):Code:=f.body.getD .skip
def iy(v:World)(l:List Obj):Prop:=∀(i:Nat)(o:Obj),l[i]? =some o->v.heap[i]? =some o
def iy.alloc{v l}(h:iy v l) o:iy (v.alloc o) l:=λi x hx=>by have h1:=h i x hx;have aM:=(Array.getElem?_eq_some_iff.1 h1).1;show(v.heap.push o)[i]? =some x;rw[Array.getElem?_push_lt aM];rw[Array.getElem?_eq_getElem aM]at h1;exact h1
def iy.mk l v(h:v.heap=l.toArray):iy v l:=λi o ho=>by rw[h];simpa using ho
def iy.keep{v w l}(h:iy v l)(hk:∀b,b<l.length->w.heap[b]? =v.heap[b]?):iy w l:=λi o ho=>by rw[hk i (List.getElem?_eq_some_iff.1 ho).1];exact h i o ho
def iy.le{v l}(h:iy v l):l.length<=v.heap.size:=by rcases Nat.lt_or_ge v.heap.size l.length with aM|hge;have:=h v.heap.size l[v.heap.size] (List.getElem?_eq_getElem aM);rw[Array.getElem?_eq_none ν]at this;cases this;exact hge
def eY:Obj:=.cells #[] 0 (0,0)
def fz(c:List Value)(t:TypeId):Obj:=.cells c.toArray t (0,c.length)
def iy.row{v l}(h:iy v l){i c t}(hi:l[i]? =some (fz c t)) j:v.cell? ⟨i,j,none⟩=c[j]?:=by have h1:=h i _ hi;unfold World.cell?;simp only[h1,fz];simp
def YC:Item->Bool
 |.code _|.inBlock _|.inLoop _|.inRegion _ _=>true|_=>false
def Cq{l}(h:l.all YC=true):bI l:=λit hi=>by rw[List.all_eq_true]at h;have:=h it hi;cases it<;>first|trivial|cases this
def TT:gT [wall]:=λc hc=>by rw[List.mem_singleton]at hc;subst hc;exact Cq rfl
def TV{fr}(h:fr.todo.all YC=true):cm none fr [wall]:=⟨Cq h,TT,λhd=>by cases hd⟩
section
variable{P:Program}{Stop:Goroutine->World->Prop}{b:Frame}{a:Act}{k:List Item}{cs:List Frame}{v w w':World}
def dn(hB:bG P)(hS:∀g w τ n,Stop g w->Stop g (w.re τ n)){fr}(hf:fr.todo.all YC=true)(h:∀τ n,bE P Stop fr [wall] (v.re τ n)):Term P Stop (gu fr [wall]) v:=Tp.tB hB hS ⟨rfl,(λd hd=>by cases hd),TV hf⟩ rfl (Tp.cE h)
def agG{c}(h:c.wp P (Tp.pN λa' w'=>bE P Stop (b.at a' k) cs w') a w):bE P Stop (b.at a (.code c::k)) cs w:=by obtain⟨e,a',w',q,r⟩:=h b k cs;have he:=Tp.pM _ _ _ q;subst he;exact da r q
def uX{ops l r}(h:wpOps P ops (Tp.pN λa' w'=>bE P Stop (b.at a' (.inRegion ops r::k)) cs w') l a w):bE P Stop (b.at a (.inRegion ops (l++r)::k)) cs w:=by obtain⟨a',w',q,hs⟩:=Tp.nk Tp.pM l a w h r b k cs;exact da hs q
def LK{id s r ops}(hr:List.range ops.size=List.range s++r)(h:wpOps P ops (Tp.pN λa' w'=>bE P Stop (b.at a' (.inRegion ops r::k)) cs w') (List.range s) a w):bE P Stop (b.at a (.code (.region id ops false)::k)) cs w:=by obtain⟨a',w',q,hs⟩:=Tp.JF (id:=id) hr Tp.pM h b k cs;exact da hs q
def acn{S id s o ops}(hm:P.follows .mixedOrders=true)(hl:Tp.oG ops (Tp.lastB s) ops.size (Array.replicate ops.size false) []=true)(hg:Tp.jh ops=true)(ho:ops[s]? =some o) (h:wpAnyH P .any (Tp.jw ops s) (Tp.pN λa' w'=>bE P Stop (b.at a' (.inRegion ops [s]::k)) cs w') S (Tp.jw ops s).size (Array.replicate (Tp.jw ops s).size false) a {w with drawn:=w.drawn+1}):bE P Stop (b.at a (.code (.region id ops true)::k)) cs w:=by obtain⟨a',w',q,hs⟩:=Tp.MG (id:=id) hm hl hg ho Tp.pM h b k cs;exact da hs q
def aq{c x y}(h:c=.seq x y)(h':bE P Stop (b.at a (.code x::.code y::k)) cs w):bE P Stop (b.at a (.code c::k)) cs w:=by subst h;exact Tp.acm h'
def cG{c x id}(h:c=.block id x)(h':bE P Stop (b.at a (.code x::.inBlock id::k)) cs w):bE P Stop (b.at a (.code c::k)) cs w:=by subst h;exact Tp.Uw h'
def gM{c x}(h:c=.loop x)(h':bE P Stop (b.at a (.code x::.inLoop x::k)) cs w):bE P Stop (b.at a (.code c::k)) cs w:=by subst h;exact Tp.Zg h'
def ba{c x y q t}(h:c=.cond q x y)(hc:a.eval q=.bool t)(h':bE P Stop (b.at a (.code (if t then x else y)::k)) cs w):bE P Stop (b.at a (.code c::k)) cs w:=by subst h;exact Tp.Zj hc h'
def cR{c}(h:c=.skip)(h':bE P Stop (b.at a k) cs w):bE P Stop (b.at a (.code c::k)) cs w:=by subst h;exact Tp.Ze h'
def gN{c id}(h:c=.exit id){k'}(hk:exitTo id k=some k')(h':bE P Stop (b.at a k') cs w):bE P Stop (b.at a (.code c::k)) cs w:=by subst h;exact Tp.Zh hk h'
def aF{c c'}(e:c=c')(h:c'.wp P (Tp.pN λa' w'=>bE P Stop (b.at a' k) cs w') a w):bE P Stop (b.at a (.code c::k)) cs w:=by subst e;exact agG h
def wY{c id s r ops}(e:c=.region id ops false)(hr:List.range ops.size=List.range s++r)(h:wpOps P ops (Tp.pN λa' w'=>bE P Stop (b.at a' (.inRegion ops r::k)) cs w') (List.range s) a w):bE P Stop (b.at a (.code c::k)) cs w:=by subst e;exact LK hr h
theorem de{ops Q}:∀l os,l.map (λi=>ops[i]?)=os.map some->∀a w,wpList P ops Q os a w->wpOps P ops Q l a w
 |[],os,h,a,w,hw=>by
  have:os=[]:=by simpa using h.symm
  subst this;exact hw|i::l,os,h,a,w,hw=>by cases os with|nil=>simp at h|cons o os=>simp only[List.map_cons,List.cons.injEq]at h;unfold wpList at hw;simp only[wpOps,h.1];split at hw;rename_i hg;rw[if_pos hg];exact hw.imp (λx=>Oper.wp_mono (λa' w' h'=>de l os h.2 a' w' h') x) id;rename_i hg;rw[if_neg hg];exact de l os h.2 _ _ hw
def sI{L:List Oper} n(h:n<=L.length):(List.range n).map (λi=>L.toArray[i]?)=(L.take n).map some:=by apply List.ext_getElem?;intro i;by_cases hi:i<n;simp[hi,List.getElem?_take_of_lt hi,List.getElem?_eq_getElem (show i<L.length by omega)];simp[hi];omega
def eh{c id} s r{L:List Oper}(e:c=.region id L.toArray false)(hr:List.range L.length=List.range s++r)(hs:s<=L.length)(h:wpList P L.toArray (Tp.pN λa' w'=>bE P Stop (b.at a' (.inRegion L.toArray r::k)) cs w') (L.take s) a w):bE P Stop (b.at a (.code c::k)) cs w:=by subst e;exact LK (by simpa using hr) (de _ _ (sI s hs) _ _ h)
def Zi{c S id s o ops fo}(e:c=.region id ops true)(hm:P.follows .mixedOrders=true)(hl:Tp.oG ops (Tp.lastB s) ops.size (Array.replicate ops.size false) []=true)(hg:Tp.jh ops=true)(ho:ops[s]? =some o)(hf:Tp.jw ops s=fo) (h:wpAnyH P .any fo (Tp.pN λa' w'=>bE P Stop (b.at a' (.inRegion ops [s]::k)) cs w') S fo.size (Array.replicate fo.size false) a {w with drawn:=w.drawn+1}):bE P Stop (b.at a (.code c::k)) cs w:=by subst e;subst hf;exact acn hm hl hg ho h
def iN{ops i r o}(ho:ops[i]? =some o) x:Go.Conc.served (gu (b.at a (.inRegion ops (i::r)::k)) cs) x=gu (b.at (a.put o.dst x) (.inRegion ops r::k)) cs:=by unfold Go.Conc.served;dsimp only;rw[Frame.finish_at,ho];rfl
def Cz{ops i r o}(ho:ops[i]? =some o) x:dQ (gu (b.at a (.inRegion ops (i::r)::k)) cs) x=gu (b.at (a.put o.dst x) (.inRegion ops r::k)) cs:=by unfold dQ;dsimp only;rw[Frame.finish_at,ho];rfl
end
end Ph
namespace Rn
def CK:Nat->Value->Bool
 |0,_=>false|n+1,v=>match v with
  |.bool _|.int _ _|.string _|.pointer none|.slice none _ _|.map none|.chan none|.nilFunc|.nilIface=>true
  |.agg a|.tuple a=>a.toList.all (CK n)
  |_=>false
theorem wQ:∀n v,CK n v=true->Clean v
 |0,_,h=>by cases h
 |n+1,v,h=>by
  have key:∀a:Array Value,a.toList.all (CK n)=true->∀(i:Nat) x,a[i]? =some x->Clean x:=λa ha i x hx=>by rw[List.all_eq_true]at ha;exact wQ n x (ha x (by have:=Array.mem_of_getElem? hx;simpa using this))
  cases v with
  |bool b=>exact .bool b|int k n=>exact .int k n
  |string s=>exact .string s|pointer a=>cases a with|none=>exact .ptrN|some a=>cases h
  |slice a n c=>cases a with|none=>exact .fp n c|some a=>cases h
  |map a=>cases a with|none=>exact .Bu|some a=>cases h
  |chan a=>cases a with|none=>exact .sq|some a=>cases h
  |nilFunc=>exact .nilFunc|nilIface=>exact .nilIface
  |agg a=>exact .agg a (key a h)|tuple a=>exact .tuple a (key a h)
  |_=>cases h
section
variable(P:Program)(fl:List Nat)
def Em(t:TypeId):Bool:=match P.info? t with
 |some i=>match i.zero with
  |some z=>CK 100 z
  |none=>true
 |none=>true
def tn{t}(h:Em P t=true):jN P t:=λi z hi hz=>by unfold Em at h;rw[hi]at h;dsimp only at h;rw[hz]at h;exact wQ _ _ h
def Li(t:TypeId):Bool:=match P.underlying t with
 |some (.slice e)=>Em P e
 |_=>true
def Cy{t}(h:Li P t=true):∀e,P.underlying t=some (.slice e)->jN P e:=λe he=>by unfold Li at h;rw[he]at h;exact tn P h
def Mn(t:TypeId):Bool:=match P.underlying t with
 |some (.struct fs)=>fs.toList.all λf=>match P.info? f.type with
  |some i=>i.size != 0
  |none=>true
 |_=>true
def Rt{t}(h:Mn P t=true):IC P t:=λfs f i n hu hf hi=>by unfold Mn at h;rw[hu]at h;dsimp only at h;rw[List.all_eq_true]at h;have:=h f (by have:=Array.mem_of_getElem? hf;simpa using this);rw[hi]at this;simpa using this
def YP(s d:TypeId):Bool:=match P.underlying d,P.underlying s with
 |some (.int _),some (.int _)=>true
 |some .string,some (.slice e)=>match P.underlying e with
  |some (.int .u8)=>true
  |_=>false
 |_,_=>false
def YO{s d}(h:YP P s d=true):OX P s d:=by unfold YP at h;split at h;rename_i k j h1 h2;exact .inl ⟨k,j,h1,h2⟩;rename_i e h1 h2;split at h;rename_i h3;exact .inr ⟨h1,e,h2,h3⟩;cases h;cases h
def aa7(t:TypeId):Bool:=match P.underlying t with
 |some (.map k e)=>(match P.underlying k with|some .string=>true|_=>false)&&Em P e
 |_=>false
def PY{t}(h:aa7 P t=true):LU P t:=by unfold aa7 at h;split at h;rename_i k e h1;rw[Bool.and_eq_true]at h;obtain⟨h2,h3⟩:=h;split at h2;rename_i h4;exact⟨k,e,h1,h4,tn P h3⟩;cases h2;cases h
def MW(t:TypeId):Bool:=match P.underlying t with
 |some (.map _ _)=>true
 |_=>false
def Sm{t}(h:MW P t=true):∀d,P.underlying t=some d->∃k e,d=.map k e:=λd hd=>by unfold MW at h;rw[hd]at h;cases d<;>first|exact⟨_,_,rfl⟩|cases h
def alu:BinOp->Bool
 |.add|.sub|.mul|.and|.or|.xor|.shl|.shr|.lss|.geq=>true|_=>false
def aci{op}(h:alu op=true):u5 op:=by cases op<;>first|exact trivial|cases h
def afc(t:TypeId):Bool:=match P.underlying t with
 |some (.map _ _)|some (.chan _ _)=>false
 |_=>true
def aa9{t}(h:afc P t=true):∀d,P.underlying t=some d->(∀k e,d≠.map k e)/\∀a b,d≠.chan a b:=λd hd=>by unfold afc at h;rw[hd]at h;refine⟨λk e e1=>?_,λa b e1=>?_⟩<;>subst e1<;>cases h
def agI(t u:TypeId):Bool:=Li P t&&match P.underlying u with
 |some (.int _)=>false
 |some _=>true
 |none=>false
def acp{t u}(h:agI P t u=true):Q0 P t u:=by unfold agI at h;rw[Bool.and_eq_true]at h;refine⟨Cy P h.1,?_⟩;have h2:=h.2;split at h2;cases h2;rename_i d bZ hd;exact⟨d,hd,λk e=>by subst e;exact bZ k rfl⟩;cases h2
def qB:Operand->Bool
 |.tmp _=>true|.const v=>CK 100 v|.func f=>fl.contains f|.global _=>false
def pF{E}(hF:∀f∈fl,E.F f){x}(h:qB fl x=true):QX E x:=by cases x with|tmp t=>exact trivial|const v=>exact wQ _ _ h|func f=>exact hF f (by simpa[qB]using h)|global g=>cases h
def qoB:Option Operand->Bool
 |none=>true|some x=>qB fl x
def Y0(c:Call):Bool:=c.args.toList.all (qB fl)&&match c.callee with
 |.value f=>qB fl f
 |.builtin .len=>match c.argTypes.toList,c.args.toList with
  |[t],[_]=>afc P t
  |_,_=>false
 |.builtin .append=>match c.argTypes.toList,c.args.toList with
  |[t,u],[_,_]=>agI P t u
  |_,_=>false
 |_=>false
def IM(o:Oper):Bool:=match o.op with
 |.move x|.assign x|.nilCheck x|.load _ x|.box _ x|.extract x _|.entry x=>qB fl x
 |.pick c a b=>qB fl c&&qB fl a&&qB fl b
 |.alloc e=>Em P e
 |.build t l=>Em P t&&l.toList.all λx=>qB fl x.2
 |.buildSlice t _ l=>Li P t&&l.toList.all λx=>qB fl x.2
 |.store _ a x=>qB fl a&&qB fl x
 |.binOp op _ x y _=>alu op&&qB fl x&&qB fl y
 |.convert s d x=>YP P s d&&qB fl x
 |.makeFunc (.func f) a c=>fl.contains f&&a.toList.all (qB fl)&&c.toList.all (qB fl)
 |.makeMap _ none=>true
 |.makeSlice t l c=>Li P t&&qB fl l&&qB fl c
 |.slice _ x a b c=>qB fl x&&qoB fl a&&qoB fl b&&qoB fl c
 |.fieldAddr t x _=>Mn P t&&qB fl x
 |.indexAddr _ x i|.index _ x i=>qB fl x&&qB fl i
 |.lookup t x i _=>aa7 P t&&qB fl x&&qB fl i
 |.mapUpdate t m k x=>aa7 P t&&qB fl m&&qB fl k&&qB fl x
 |.range t x=>MW P t&&qB fl x
 |.next x s=> !s&&qB fl x
 |.call c=>Y0 P fl c
 |_=>false
def Ji(o:Oper):Bool:=match o.op with
 |.send ch x=>qB fl ch&&qB fl x
 |.recv _ ch _=>qB fl ch
 |.call c=>(match c.callee with|.builtin .close=>true|_=>false)&&match c.args.toList with
  |[x]=>qB fl x
  |_=>false
 |.go c=>(match c.callee with|.value x=>qB fl x|_=>false)&&c.args.toList.isEmpty
 |_=>false
def aeJ(o:Oper):Bool:=o.guard.isNone&& (IM P fl o || Ji fl o)
def lN:Code->Bool
 |.region _ ops _=>ops.toList.all (aeJ P fl)|.seq a b=>lN a&&lN b|.cond c a b=>qB fl c&&lN a&&lN b|.block _ b|.loop b=>lN b|.exit _|.ret|.skip|.refuse _=>true|_=>false
def WQ{β a}{x:β}(h:a.toList=[x]):a=#[x]:=by apply Array.ext';simpa using h
def ac8{β a}{x y:β}(h:a.toList=[x,y]):a=#[x,y]:=by apply Array.ext';simpa using h
def Ii{E}(hF:∀f∈fl,E.F f){a:Array Operand}(h:a.toList.all (qB fl)=true):∀x∈a,QX E x:=λx hx=>by rw[List.all_eq_true]at h;exact pF fl hF (h x (by simpa using hx))
def EY{E}(hF:∀f∈fl,E.F f){a:Array (Nat×Operand)}(h:(a.toList.all λx=>qB fl x.2)=true):∀x∈a,QX E x.2:=λx hx=>by rw[List.all_eq_true]at h;exact pF fl hF (h x (by simpa using hx))
def M6{E}(hF:∀f∈fl,E.F f){x}(h:qoB fl x=true):QO (QX E) x:=by cases x with|none=>exact trivial|some x=>exact pF fl hF h
def YZ{E}(hF:∀f∈fl,E.F f){c}(h:Y0 P fl c=true):OY P (QX E) c:=by
 unfold Y0 at h;rw[Bool.and_eq_true]at h;obtain⟨h1,h2⟩:=h;refine⟨Ii fl hF h1,?_⟩;cases hc:c.callee with
 |value f=>rw[hc]at h2;exact pF fl hF h2|builtin b=>
  rw[hc]at h2;cases b with
  |len=>dsimp only at h2|-;split at h2;rename_i t x e1 e2;exact⟨t,x,WQ e1,WQ e2,aa9 P h2⟩;cases h2
  |append=>dsimp only at h2|-;split at h2;rename_i t u x y e1 e2;exact⟨t,u,x,y,ac8 e1,ac8 e2,acp P h2⟩;cases h2
  |_=>cases h2
 |invoke r n=>rw[hc]at h2;cases h2
def ae3{E}(hF:∀f∈fl,E.F f){o}(h:IM P fl o=true):acC P E (QX E) o:=by
 obtain⟨dst,op,type,pos,after,guard⟩:=o;have q:=λ{x:Operand} (h:qB fl x=true)=>pF (E:=E) fl hF h;cases op with
 |makeFunc fn a c=>cases fn with|func f=>simp only[IM,Bool.and_eq_true]at h;exact⟨hF f (by simpa using h.1.1),Ii fl hF h.1.2,Ii fl hF h.2⟩|_=>cases h
 |makeMap t r=>cases r with|none=>exact trivial|some r=>cases h
 |call c=>exact YZ P fl hF h|move x=>exact q h
 |assign x=>exact q h|nilCheck x=>exact q h
 |load t x=>exact q h|box t x=>exact q h
 |extract x i=>exact q h|entry x=>exact q h
 |pick c a b=>simp only[IM,Bool.and_eq_true]at h;exact⟨q h.1.1,q h.1.2,q h.2⟩|alloc e=>exact tn P h
 |build t l=>simp only[IM,Bool.and_eq_true]at h;exact⟨tn P h.1,EY fl hF h.2⟩|buildSlice t n l=>simp only[IM,Bool.and_eq_true]at h;exact⟨Cy P h.1,EY fl hF h.2⟩
 |store t a x=>simp only[IM,Bool.and_eq_true]at h;exact⟨q h.1,q h.2⟩|binOp op t x y t2=>simp only[IM,Bool.and_eq_true]at h;exact⟨aci h.1.1,q h.1.2,q h.2⟩
 |convert s d x=>simp only[IM,Bool.and_eq_true]at h;exact⟨YO P h.1,q h.2⟩|makeSlice t l c=>simp only[IM,Bool.and_eq_true]at h;exact⟨Cy P h.1.1,q h.1.2,q h.2⟩
 |slice t x a b c=>simp only[IM,Bool.and_eq_true]at h;exact⟨q h.1.1.1,M6 fl hF h.1.1.2,M6 fl hF h.1.2,M6 fl hF h.2⟩|fieldAddr t x i=>simp only[IM,Bool.and_eq_true]at h;exact⟨Rt P h.1,q h.2⟩
 |indexAddr t x i=>simp only[IM,Bool.and_eq_true]at h;exact⟨q h.1,q h.2⟩|index t x i=>simp only[IM,Bool.and_eq_true]at h;exact⟨q h.1,q h.2⟩
 |lookup t x i ok=>simp only[IM,Bool.and_eq_true]at h;exact⟨PY P h.1.1,q h.1.2,q h.2⟩|mapUpdate t m k x=>simp only[IM,Bool.and_eq_true]at h;exact⟨PY P h.1.1.1,q h.1.1.2,q h.1.2,q h.2⟩
 |range t x=>simp only[IM,Bool.and_eq_true]at h;exact⟨Sm P h.1,q h.2⟩|next x s=>simp only[IM,Bool.and_eq_true]at h;exact⟨by simpa using h.1,q h.2⟩
 |_=>cases h
def Vv{E}(hF:∀f∈fl,E.F f){o}(h:Ji fl o=true):Zr E o:=by
 obtain⟨dst,op,type,pos,after,guard⟩:=o;cases op with
 |send ch x=>simp only[Ji,Bool.and_eq_true]at h;exact⟨pF fl hF h.1,pF fl hF h.2⟩|recv t ch ok=>exact pF fl hF h
 |call c=>simp only[Ji,Bool.and_eq_true]at h;obtain⟨h1,h2⟩:=h;refine⟨?_,?_⟩;split at h1;rename_i e;exact e;cases h1;split at h2;rename_i x e;exact⟨x,WQ e,pF fl hF h2⟩;cases h2
 |go c=>simp only[Ji,Bool.and_eq_true]at h;obtain⟨h1,h2⟩:=h;refine⟨?_,by simpa using h2⟩;split at h1;rename_i x e;exact⟨x,e,pF fl hF h1⟩;cases h1
 |_=>cases h
theorem ir{E}(hF:∀f∈fl,E.F f):∀ {c:Code},lN P fl c=true->gB P E c
 |.region _ ops _,h=>λo ho=>by unfold lN at h;rw[List.all_eq_true]at h;have:=h o (by simpa using ho);unfold aeJ at this;rw[Bool.and_eq_true,Bool.or_eq_true]at this;exact⟨by simpa using this.1,this.2.imp (ae3 P fl hF) (Vv fl hF)⟩|.seq a b,h=>by unfold lN at h;rw[Bool.and_eq_true]at h;exact⟨ir hF h.1,ir hF h.2⟩|.cond c a b,h=>by unfold lN at h;rw[Bool.and_eq_true,Bool.and_eq_true]at h;exact⟨pF fl hF h.1.1,ir hF h.1.2,ir hF h.2⟩|.block _ b,h=>ir (c:=b) hF (by unfold lN at h;exact h)|.loop b,h=>ir (c:=b) hF (by unfold lN at h;exact h)|.exit _,_=>trivial|.ret,_=>trivial|.skip,_=>trivial|.refuse _,_=>trivial|.scope _,h=>by cases h
 |.label _,h=>by cases h
 |.goto _,h=>by cases h
 |.rangeFunc ..,h=>by cases h
end
end Rn
namespace Tp
section
variable{P:Program}
def Oo k k2 k3 x y c sg:Pl P (Extern.RuntimeError.boundsError #[.agg #[.int k x,.int k2 y,.bool sg,.int k3 c]]):=by show Pl P (match(if sg&&x<0 then Extern.RuntimeError.boundsNegErrorFmts else Extern.RuntimeError.boundsErrorFmts)[c.toNat]? with|some fmt=>_|none=>_);split<;>exact trivial
def Ua a:Pl P (Extern.RuntimeError.boundsError a):=by
 obtain⟨l⟩:=a;rcases l with _|⟨x,_|⟨_,_⟩⟩;exact trivial;cases x with
 |agg b=>
  obtain⟨m⟩:=b;rcases m with _|⟨x,_|⟨y,_|⟨sg,_|⟨c,_|⟨_,_⟩⟩⟩⟩⟩;exact trivial;cases x<;>exact trivial;cases x<;>first|exact trivial|(cases y<;>exact trivial)
  cases x<;>first|exact trivial|(cases y<;>first|exact trivial|(cases sg<;>exact trivial))
  cases x with
  |int k x=>cases y with
   |int k2 y=>cases sg with
    |bool sg=>cases c with|int k3 c=>exact Oo k k2 k3 x y c sg|_=>exact trivial
    |_=>exact trivial
   |_=>exact trivial
  |_=>exact trivial
  cases x<;>first|exact trivial|(cases y<;>first|exact trivial|(cases sg<;>first|exact trivial|(cases c<;>exact trivial)))
 |_=>exact trivial
 cases x<;>exact trivial
def kT v:Pl P (Extern.RuntimeError.described v):=by unfold Extern.RuntimeError.described;refine oh ?_;split;exact trivial;exact aK (oe _) λ_=>aK (bB _) λ_=>trivial;exact trivial
def Ho i:Pl P (Extern.RuntimeError.pkgpathOf i):=by unfold Extern.RuntimeError.pkgpathOf;split;exact trivial;refine aK (bB _) λ_=>?_;split<;>exact trivial;all_goals exact trivial
def Ub a:Pl P (Extern.RuntimeError.typeAssertionError a):=by
 unfold Extern.RuntimeError.typeAssertionError;refine aK (kZ _) λa=>aK (qR _ _) λx=>aK (kT _) λd=>?_;refine aK (qR _ _) λx=>aK (kT _) λd=>aK (qR _ _) λx=>aK (kT _) λd=>?_
 (repeat' (first|exact trivial|with_reducible apply aI|with_reducible apply Ho|with_reducible apply mh|with_reducible exact qR _ _|refine aK ?_ (λ_=>?_)|with_reducible apply fu|split|intro _|dsimp only))
def Cw t:Pl P (Extern.RuntimeError.unhashableTypeError #[.agg #[t]]):=by show Pl P (Extern.RuntimeError.described t >>= λx=>match x with|some t=>Extern.RuntimeError.text ("hash of unhashable type: " ++t.str)|_=>runtimePanic .nilDeref);refine aK (kT _) λx=>?_;split;exact trivial;exact aI _
def DW a:Pl P (Extern.RuntimeError.unhashableTypeError a):=by
 obtain⟨l⟩:=a;rcases l with _|⟨x,_|⟨_,_⟩⟩;exact trivial;cases x with
 |agg b=>obtain⟨m⟩:=b;rcases m with _|⟨x,_|⟨_,_⟩⟩;exact trivial;exact Cw x;exact trivial
 |_=>exact trivial
 cases x<;>exact trivial
def aaD:∀p∈Extern.RuntimeError.rows,∀args,Pl P (p.2 args):=by intro p hp args;unfold Extern.RuntimeError.rows at hp;simp only[List.mem_cons,List.not_mem_nil,or_false]at hp;rcases hp with rfl|rfl|rfl|rfl|rfl|rfl|rfl|rfl|rfl|rfl|rfl|rfl|rfl|rfl|rfl;exact aK (mh _) λ_=>trivial;exact aK (mh _) λ_=>trivial;exact aK (AX _) λ_=>aK (mh _) λ_=>trivial;exact aK (AX _) λ_=>aK (ig _) λ_=>trivial;exact Ua _;exact Ub _;exact trivial;exact DW _;all_goals exact trivial
def abd:∀e,Extern.ReflectliteType.rows.lookup "(internal/abi.Kind).String" =some e->∀args,Pl P (e args):=by intro e he args;simp[Extern.ReflectliteType.rows,List.lookup]at he;subst he;exact aK (ig _) λ_=>trivial
end
def y7:List String:=Extern.RuntimeError.rows.map (·.1)
def Rz:∀n∈y7,Extern.allRows.lookup n=Extern.RuntimeError.rows.lookup n/\(Extern.allGenericRows.lookup n).isNone=true/\(Extern.allTypedRows.lookup n).isNone=true/\(Extern.RuntimeError.rows.lookup n).isSome=true:=by intro n hn;unfold y7 Extern.RuntimeError.rows at hn;simp only[List.map_cons,List.map_nil,List.mem_cons,List.not_mem_nil,or_false]at hn;rcases hn with rfl|rfl|rfl|rfl|rfl|rfl|rfl|rfl|rfl|rfl|rfl|rfl|rfl|rfl|rfl;all_goals (refine⟨?_,?_,?_,?_⟩<;>kernel_rfl)
def Ks:Extern.allRows.lookup "(internal/abi.Kind).String" =Extern.ReflectliteType.rows.lookup "(internal/abi.Kind).String" /\(Extern.allGenericRows.lookup "(internal/abi.Kind).String").isNone=true/\(Extern.allTypedRows.lookup "(internal/abi.Kind).String").isNone=true/\(Extern.ReflectliteType.rows.lookup "(internal/abi.Kind).String").isSome=true:=by refine⟨?_,?_,?_,?_⟩<;>kernel_rfl
def QH{fn n e0}(hn:fn.name=n)(h1:Extern.allGenericRows.lookup n=none)(h2:Extern.allTypedRows.lookup n=none)(h3:Extern.allRows.lookup n=some e0):Extern.find fn=some e0:=by unfold Extern.find;simp only[hn,h1,h2,h3];rfl
def als(fn:Func):Bool:= !(fn.name== "runtime.NumGoroutine")&& (!fn.body.isNone ||((Extern.findNext fn).isNone&& ((Extern.find fn).isNone || y7.contains fn.name || fn.name== "(internal/abi.Kind).String")))
theorem iE{β}:∀ {l:List (String×β)}{n:String}{e:β},l.lookup n=some e->∃m,(m,e)∈l
 |[],_,_,h=>by cases h
 |(m,b)::l,n,e,h=>by rw[List.lookup_cons]at h;split at h;cases h;exact⟨m,List.mem_cons_self⟩;obtain⟨m',h'⟩:=iE h;exact⟨m',List.mem_cons_of_mem _ h'⟩
def Um{P}(h:P.funcs.toList.all als=true):bG P:=by
 intro f fn hf;rw[List.all_eq_true]at h;have:=h fn (by have:=Array.mem_of_getElem? hf;simpa using this);unfold als at this;rw[Bool.and_eq_true,Bool.or_eq_true,Bool.and_eq_true,Bool.or_eq_true,Bool.or_eq_true]at this;obtain⟨h1,h2⟩:=this;refine⟨by simpa using h1,?_⟩;rcases h2 with h2|⟨h2,h3⟩;exact .inl (by simpa using h2);refine .inr ⟨by simpa using h2,λe he args=>?_⟩;rcases h3 with(h3|h3)|h3;rw[he]at h3;cases h3;have hm:fn.name∈y7:=by simpa using h3
 obtain⟨a1,a2,a3,a4⟩:=Rz _ hm;cases hl:Extern.RuntimeError.rows.lookup fn.name with
 |none=>rw[hl]at a4;cases a4
 |some e0=>have:=QH (fn:=fn) rfl (by simpa using a2) (by simpa using a3) (a1.trans hl);rw[he]at this;cases this;obtain⟨m,Cd⟩:=iE hl;exact aaD _ Cd args
 have hn:fn.name= "(internal/abi.Kind).String" :=by simpa using h3
 obtain⟨a1,a2,a3,a4⟩:=Ks;cases hl:Extern.ReflectliteType.rows.lookup "(internal/abi.Kind).String" with
 |none=>rw[hl]at a4;cases a4
 |some e0=>have:=QH (fn:=fn) hn (by simpa using a2) (by simpa using a3) (a1.trans hl);rw[he]at this;cases this;exact abd _ hl args
end Tp
namespace Tp
def bo:bG Tryz.prog:=Tp.Um (by kernel_rfl)
end Tp
