import Derived.Test.YtlpcjiollnnmgabGreatDoorM13
set_option maxRecDepth 100000
set_option maxHeartbeats 8000000
set_option linter.all false
namespace Go.Proofs.YtlpcjiollnnmgabGreatDoor
open Go.Proofs.Tryz
def t078{p:Prop}(h:p:=by refine⟨I7 h1 rfl,λb w s r VT=>?_⟩;rw[h3,h1.close rfl e1 (by rw[h4];exact λe=>by cases e) _ _ _ _ VT];rfl):p:=h
namespace Ph
open Go.Conc Rn iz
open Go.RowKit
open Tp (iT iy Term Ld mL)
def fl:List Nat:=[39,67,109,75,110,87,88]
def PE(J R D:Nat):Env:=⟨5,λr=>if r=2 then some J else if r=3 then some R else if r=4 then some D else none,λf=>f∈fl⟩
def PA(kd:List UInt8)(P:List (List UInt8))(es:Array MapEntry)(clock:Nat):pI (List UInt8)->Goroutine->World->Prop
 |.iC=>WA kd .iC|.jh t=>WA kd (.jh t)|.lS=>WA kd .lS|.feed _=>λ_ _=>False|.jJ t rem=>FA P es clock (.jJ t rem)|.lM=>FA P es clock .lM|.iK k=>FA P es clock (.iK k)|.jV=>FA P es clock .jV|.spawn k=>SA kd (.spawn k)|.iq iP=>SA kd (.iq iP)
def PN(kd:List UInt8)(P:List (List UInt8))(es:Array MapEntry)(clock J R D:Nat):Net (List UInt8):=⟨J,R,D,Mi,fvT kd,.agg #[],.agg j1.toArray,.agg V8.toArray,.agg #[],PA kd P es clock,λ_=>True⟩
noncomputable def ajg(f:Nat):Bool:=match prog.funcs[f]? with
 |some fn=>(match fn.body with
  |some b=>rf prog fl b
  |none=>false)&& !(fn.name== "runtime.NumGoroutine")
 |none=>false
def ark:fl.all ajg=true:=κ
def V0{f}(hf:f∈fl):∃fn b,prog.funcs[f]? =some fn/\fn.body=some b/\rf prog fl b=true/\(fn.name== "runtime.NumGoroutine")=false:=by
 have:=List.all_eq_true.1 ark f hf;unfold ajg at this;cases h1:prog.funcs[f]? with
 |none=>rw[h1]at this;cases this
 |some fn=>
 rw[h1]at this;dsimp only at this;cases h2:fn.body with
 |none=>rw[h2]at this;cases this
 |some b=>rw[h2]at this;dsimp only at this;rw[Bool.and_eq_true]at this;exact⟨fn,b,rfl,h2,this.1,by simpa using this.2⟩
noncomputable def aoN:Item->Bool
 |.code c=>rf prog fl c|.inBlock _=>true|.inLoop b=>rf prog fl b|.inRegion ops _=>ops.toList.all (aj5 prog fl)|_=>false
section
variable{J R D:Nat}
def agE:∀f∈fl,(PE J R D).F f:=λ_ h=>h
def acn{l}(h:l.all aoN=true):me prog (PE J R D) l:=λx hx=>by rw[List.all_eq_true]at h;have hb:=h x hx;cases x with|code c=>exact ns prog fl agE hb|inBlock _=>trivial|inLoop b=>exact ns prog fl agE hb|inRegion ops l=>exact ns prog fl agE (c:=.region 0 ops false) hb|_=>cases hb
def Wf:∀f fn b,(PE J R D).F f->prog.funcs[f]? =some fn->fn.body=some b->mO prog (PE J R D) b:=λf fn b hf h1 h2=>by obtain⟨fn',b',e1,e2,e3,_⟩:=V0 hf;rw[h1]at e1;cases e1;rw[h2]at e2;cases e2;exact ns prog fl agE e3
def al8:Bod prog (PE J R D):=λf fn hf h1=>by obtain⟨fn',b',e1,e2,_,e4⟩:=V0 hf;rw[h1]at e1;cases e1;exact⟨by rw[e2];rfl,e4⟩
def adW:∀r b,(PE J R D).C r=some b->r<5:=λr b h=>by show r<5;have h':(if r=2 then some J else if r=3 then some R else if r=4 then some D else none)=some b:=h;split at h';omega;split at h';omega;split at h';omega;cases h'
def rW{X Rs}{b:Frame}{a k cs ops i l o g'}(h:GR prog (PE J R D) X Rs (mL (b.at a (.inRegion ops (i::l)::k)) cs) g')(ho:ops[i]? =some o)(hg:o.guard=none):Ec g'.frame o/\(∀x,QX (PE J R D) x->Rn.V (PE J R D) X (a.eval x) (g'.frame.eval x))/\g'=⟨g'.frame,g'.callers,.running,none,g'.offers⟩/\g'.frame.kind=b.kind:=by obtain⟨hr,hd,hf,_⟩:=h;refine⟨⟨hf.mode,hf.round.2,hg,ops,i,l,k,hf.todo,ho⟩,λx hx=>?_,?_,hf.kind⟩;have:=hf.eval x hx;rwa[Frame.eval_at]at this;obtain⟨fr,lT,st,dy,off⟩:=g';dsimp only at hr hd|-;rw[hr.2,hd.2]
def ve{X r b v}(h:Rn.V (PE J R D) X (.chan (some r)) v)(hr:(PE J R D).C r=some b):v=.chan (some b):=by cases h with|chan _ b' h'=>rw[hr]at h';rw[aA h']
def nX:∀l (i:Nat)(v),(w8 l)[i]? =some v->Exact v:=λl i v h=>by unfold w8 at h;rw[aE]at h;obtain⟨x,_,rfl⟩:=aS.1 h;exact .int _ _
def q9{l:List Value}(h:∀(i:Nat) v,l[i]? =some v->Exact v):Exact (.agg l.toArray):=.agg _ λi v hv=>h i v aJd
def nL{x l}(hx:Exact x)(h:∀(i:Nat) v,l[i]? =some v->Exact v):∀(i:Nat) v,(x::l)[i]? =some v->Exact v:=λi v hv=>by
 cases i with
 |zero=>cases hv;exact hx
 |succ i=>exact h i v aJd
def GW t:Exact (Mi t):=q9 (nL (.string _) (nX _))
def J0:Exact (.agg j1.toArray):=q9 (nL (.string _) (nX _))
def Pu kd t:Exact (fvT kd t):=q9 (nL (.string _) (nL (.string _) (nX _)))
def ZA:Exact (.agg V8.toArray):=q9 (nL (.string _) (nL (.string _) (nX _)))
def J8:Exact (.agg #[]):=.agg _ λi v hv=>by simp at hv
def abS{b:Frame}{a ops l k cs}:¬Ea (mL (b.at a (.inRegion ops l::k)) cs):=λh=>by rcases h.bad with⟨_,h⟩|⟨_,_,_,h⟩<;>cases h
section
variable{kd:List UInt8}{P:List (List UInt8)}{es:Array MapEntry}{clock:Nat}
def I7{g' o}(h:Ec g'.frame o){b xs ts}(ho:o.op=.call ⟨.builtin b,xs,ts⟩):mayWake prog g'=true:=by obtain⟨ops,i,l,k,h1,h2⟩:=h.todo;unfold mayWake;rw[h.mode,h1];dsimp only;rw[h2];simp only[Option.map_some,ho]
def PA.re{c g v}(h:PA kd P es clock c g v) τ n:PA kd P es clock c g (v.re τ n):=by cases c with|feed=>exact h|iC=>exact WA.re (c:=.iC) h τ n|jh t=>exact WA.re (c:=.jh t) h τ n|lS=>exact WA.re (c:=.lS) h τ n|jJ t r=>exact FA.re (c:=.jJ t r) h τ n|lM=>exact FA.re (P:=P) (c:=.lM) h τ n|iK k=>exact FA.re (P:=P) (c:=.iK k) h τ n|jV=>exact FA.re (P:=P) (c:=.jV) h τ n|spawn k=>exact SA.re (c:=.spawn k) h τ n|iq iP=>exact SA.re (c:=.iq iP) h τ n
def PA.head{c g v}(h:PA kd P es clock c g v):∃b a ops l k,g=mL (Frame.at b a (.inRegion ops l::k)) [wall]:=by
 cases c with
 |feed=>exact h.elim|iC=>obtain⟨⟨_,_,_,_,_,_,_,_,_,_,_,_,_,rfl⟩,_⟩:=h;exact⟨_,_,_,_,_,rfl⟩
 |jh t=>obtain⟨⟨_,_,_,_,_,_,_,_,_,_,_,rfl⟩,_⟩:=h;exact⟨_,_,_,_,_,rfl⟩
 |lS=>obtain⟨⟨_,_,_,_,_,_,_,_,_,_,_,rfl⟩,_⟩:=h;exact⟨_,_,_,_,_,rfl⟩
 |jJ t r=>obtain⟨⟨_,_,_,_,_,_,_,_,_,_,_,_,_,_,_,_,_,rfl⟩,_⟩:=h;exact⟨_,_,_,_,_,rfl⟩
 |lM=>obtain⟨⟨_,_,_,_,_,_,_,_,_,_,_,_,_,_,_,_,_,_,_,rfl⟩,_⟩:=h;exact⟨_,_,_,_,_,rfl⟩
 |iK k=>obtain⟨⟨_,_,_,_,_,_,_,_,_,_,_,_,_,_,_,_,_,_,rfl⟩,_⟩:=h;exact⟨_,_,_,_,_,rfl⟩
 |jV=>obtain⟨⟨_,_,_,_,_,_,_,_,_,_,_,_,_,_,_,_,_,_,_,rfl⟩,_⟩:=h;exact⟨_,_,_,_,_,rfl⟩
 |spawn k=>obtain⟨⟨_,_,_,_,_,_,_,_,_,_,_,_,_,_,_,_,_,_,_,_,_,_,_,_,_,_,_,_,_,rfl⟩|⟨_,_,_,_,_,_,_,_,_,_,_,_,_,_,_,_,_,_,_,_,_,_,_,_,_,_,_,_,_,_,rfl⟩,_⟩:=h;exact⟨_,_,_,_,_,rfl⟩;exact⟨_,_,_,_,_,rfl⟩
 |iq iP=>obtain⟨⟨_,_,_,_,_,_,_,_,_,_,_,_,_,_,_,_,_,_,_,_,_,_,_,_,_,_,_,_,rfl⟩,_⟩:=h;exact⟨_,_,_,_,_,rfl⟩
def PA.XU{c g v}(h:PA kd P es clock c g v):¬Ea g:=by obtain⟨b,a,ops,l,k,rfl⟩:=h.head;exact abS
def Lg{t z}(h:(prog.info? t).map (·.zero)=some (some z)):∃i,prog.info? t=some i/\i.zero=some z:=by
 cases hi:prog.info? t with
 |none=>rw[hi]at h;cases h
 |some i=>rw[hi]at h;exact⟨i,rfl,aA h⟩
def amg c X Rs g v g'(hc:c.aaU=true)(h:PA kd P es clock c g v)(hg:GR prog (PE J R D) X Rs g g') b w:stepG prog b g' w=.comm {g' with status:=.running,offers:=none} ((PN kd P es clock J R D).cases c) true ((PN kd P es clock J R D).shape c) w #[]:=by
 cases c with
 |iC=>obtain⟨⟨_,_,_,_,_,_,_,_,_,_,_,_,_,rfl⟩,_⟩:=h;obtain⟨h1,h2,h3,_⟩:=rW (o:=⟨some 6,.recv 145 (.tmp 5) true,_,_,_,_⟩) hg rfl rfl;obtain⟨i,hi,hz⟩:=Lg (t:=78) (z:=.agg j1.toArray) κ;have e1:=ve (h2 (.tmp 5) trivial) (b:=J) rfl;rw[h3,h1.recv rfl (by kernel_rfl:prog.underlying 145=some (.chan .both 78)) hi hz,e1];rfl
 |jh t=>obtain⟨⟨_,_,_,_,_,_,_,_,_,_,_,rfl⟩,_⟩:=h;obtain⟨h1,h2,h3,_⟩:=rW (o:=⟨none,.send (.tmp 9) (.tmp 15),_,_,_,_⟩) hg rfl rfl;have e1:=ve (h2 (.tmp 9) trivial) (b:=R) rfl;have e2:=(Pu kd t).eq (h2 (.tmp 15) trivial);rw[h3,h1.send rfl,e1,e2];rfl
 |lS=>obtain⟨⟨_,_,_,_,_,_,_,_,_,_,_,rfl⟩,_⟩:=h;obtain⟨h1,h2,h3,_⟩:=rW (o:=⟨none,.send (.tmp 16) (.tmp 17),_,_,_,_⟩) hg rfl rfl;have e1:=ve (h2 (.tmp 16) trivial) (b:=D) rfl;have e2:=J8.eq (h2 (.tmp 17) trivial);rw[h3,h1.send rfl,e1,e2];rfl
 |jJ t r=>obtain⟨⟨_,_,_,_,_,_,_,_,_,_,_,_,_,_,_,_,_,rfl⟩,_⟩:=h;obtain⟨h1,h2,h3,_⟩:=rW (o:=⟨none,.send (.tmp 15) (.tmp 16),_,_,_,_⟩) hg rfl rfl;have e1:=ve (h2 (.tmp 15) trivial) (b:=J) rfl;have e2:=(GW t).eq (h2 (.tmp 16) trivial);rw[h3,h1.send rfl,e1,e2];rfl
 |iK k=>obtain⟨⟨_,_,_,_,_,_,_,_,_,_,_,_,_,_,_,_,_,_,rfl⟩,_⟩:=h;obtain⟨h1,h2,h3,_⟩:=rW (o:=⟨some 21,.recv 147 (.tmp 20) false,_,_,_,_⟩) hg rfl rfl;obtain⟨i,hi,hz⟩:=Lg (t:=150) (z:=.agg #[]) κ;have e1:=ve (h2 (.tmp 20) trivial) (b:=D) rfl;rw[h3,h1.recv rfl (by kernel_rfl:prog.underlying 147=some (.chan .both 150)) hi hz,e1];rfl
 |iq iP=>obtain⟨⟨_,_,_,_,_,_,_,_,_,_,_,_,_,_,_,_,_,_,_,_,_,_,_,_,_,_,_,_,rfl⟩,_⟩:=h;obtain⟨h1,h2,h3,_⟩:=rW (o:=⟨some 20,.recv 146 (.tmp 19) true,_,_,_,_⟩) hg rfl rfl;obtain⟨i,hi,hz⟩:=Lg (t:=149) (z:=.agg V8.toArray) κ;have e1:=ve (h2 (.tmp 19) trivial) (b:=R) rfl;rw[h3,h1.recv rfl (by kernel_rfl:prog.underlying 146=some (.chan .both 149)) hi hz,e1];rfl
 |_=>cases hc
def adV c ch X Rs g v g'(hc:c=.lM/\ch=J∨c=.jV/\ch=R)(h:PA kd P es clock c g v)(hg:GR prog (PE J R D) X Rs g g'):mayWake prog g'=true/\∀b w s r,w.heap[ch]? =some (.chan 0 #[] false s r false)->stepG prog b g' w=.go (ks g' (.tuple #[])) {w with heap:=w.heap.setIfInBounds ch (.chan 0 #[] true s r false)} #[⟨.obj ch,false,true⟩,⟨.obj ch,true,true⟩]:=by rcases hc with⟨rfl,rfl⟩|⟨rfl,rfl⟩;obtain⟨⟨_,_,_,_,_,_,_,_,_,_,_,_,_,_,_,_,_,_,_,rfl⟩,_⟩:=h;obtain⟨h1,h2,h3,h4⟩:=rW (o:=⟨none,.call ⟨.builtin .close,#[.tmp 17],_⟩,_,_,_,_⟩) hg rfl rfl;have e1:=ve (h2 (.tmp 17) trivial) (b:=ch) rfl;exact t078;obtain⟨⟨_,_,_,_,_,_,_,_,_,_,_,_,_,_,_,_,_,_,_,rfl⟩,_⟩:=h;obtain⟨h1,h2,h3,h4⟩:=rW (o:=⟨none,.call ⟨.builtin .close,#[.tmp 23],_⟩,_,_,_,_⟩) hg rfl rfl;have e1:=ve (h2 (.tmp 23) trivial) (b:=ch) rfl;exact t078
def aaB{X f}{l:List (Nat×Nat)}{u}(h:Rn.V (PE J R D) X (.func (.func f) #[] (l.map λp=>lp p.1).toArray) u)(hX:∀p∈l,5<=p.1/\X[p.1-5]? =some p.2):u=.func (.func f) #[] (l.map λp=>lp p.2).toArray:=by
 cases h with
 |func _ _ a' _ c' hF h1 h2 h3 h4=>
 have ha:a'=#[]:=Array.eq_empty_of_size_eq_zero (by rw[<-h1];rfl);subst ha;congr 1;apply bL;intro i;by_cases hi:i<l.length;have hl:(l.map λp=>lp p.1).toArray[i]? =some (lp l[i].1):=by simp[hi]
 have hc:i<c'.size:=by rw[<-h3];simpa using hi
 have hv:=h4 i _ _ hl (Array.getElem?_eq_getElem hc);have hr:(l.map λp=>lp p.2).toArray[i]? =some (lp l[i].2):=by simp[hi]
 rw[Array.getElem?_eq_getElem hc,hr];obtain⟨_,hx⟩:=hX l[i] (bq hi);generalize c'[i]=y at hv;cases hv with|ptr r b o sp q8=>have:=q8.2;rw[show l[i].1-(PE J R D).G=l[i].1-5 from rfl,hx]at this;rw[aA this]
 rw[aI (by rw[<-h3];simpa using hi),aI aGd]
def aa7 cp ck cj cr cd n k X Rs g v g'(hX:∃Y,X=[cp,ck,cj,cr,cd]++Y)(hk:k<=3)(h:PA kd P es clock (.spawn k) g v)(hg:GR prog (PE J R D) X Rs g g') b w:stepG prog b g' w=.spawn (ks g' undef) (oB prog ⟨.fn (.func (if n+k<n+3 then 87 else 88)) (if n+k<n+3 then #[lp cj,lp cr,lp ck,lp cd]else #[lp cp,lp cj,lp cd,lp cr]),#[]⟩) w #[]:=by obtain⟨Y,rfl⟩:=hX;obtain⟨⟨II,_,_,_,_,_,_,_,_,_,_,_,_,_,_,_,_,_,_,_,_,_,_,_,_,_,_,_,_,rfl⟩|⟨rfl,_,_,_,_,_,_,_,_,_,_,_,_,_,_,_,_,_,_,_,_,_,_,_,_,_,_,_,_,_,rfl⟩,_⟩:=h;obtain⟨h1,h2,h3,_⟩:=rW (o:=⟨none,.go ⟨.value (.tmp 15),#[],#[]⟩,_,_,_,_⟩) hg rfl rfl;have e1:=aaB (l:=[(7,cj),(8,cr),(6,ck),(9,cd)]) (h2 (.tmp 15) trivial) (by intro p hp;simp only[List.mem_cons,List.not_mem_nil,or_false]at hp;rcases hp with rfl|rfl|rfl|rfl<;>exact⟨by dsimp only;omega,rfl⟩);rw[h3,h1.go rfl e1,if_pos ω,if_pos ω];rfl;obtain⟨h1,h2,h3,_⟩:=rW (o:=⟨none,.go ⟨.value (.tmp 17),#[],#[]⟩,_,_,_,_⟩) hg rfl rfl;have e1:=aaB (l:=[(5,cp),(7,cj),(9,cd),(8,cr)]) (h2 (.tmp 17) trivial) (by intro p hp;simp only[List.mem_cons,List.not_mem_nil,or_false]at hp;rcases hp with rfl|rfl|rfl|rfl<;>exact⟨by dsimp only;omega,rfl⟩);rw[h3,h1.go rfl e1,if_neg ω,if_neg ω];rfl
end
end
end Ph
namespace Ph
open Go.Conc Rn iz
open Go.RowKit
open Tp (iT iy Term Ld mL)
structure Bn where
 cp:Nat
 ck:Nat
 cj:Nat
 cr:Nat
 cd:Nat
 rb:Nat
 mb:Nat
 J:Nat
 R:Nat
 D:Nat
def Bn.Sh(N:Bn)(b:Nat):Prop:=b=N.cp∨b=N.ck∨b=N.cj∨b=N.cr∨b=N.cd∨b=N.rb
def Bn.X0(N:Bn):List Nat:=[N.cp,N.ck,N.cj,N.cr,N.cd]
def Bn.Xw(N:Bn):List Nat:=[N.cj,N.cr,N.ck,N.cd]
def Bn.Xf(N:Bn):List Nat:=[N.cp,N.cj,N.cd,N.cr,N.rb,N.mb]
def lw(w:World)(l:List Obj):World:={w with heap:=l.toArray}
noncomputable def PS(kd:List UInt8)(P:List (List UInt8))(es:Array MapEntry)(clock:Nat)(N:Bn)(cs:List Frame)(w:World):Setup (List UInt8) where
 P:=prog;E:=PE N.J N.R N.D;Sh:=N.Sh;N:=PN kd P es clock N.J N.R N.D;cs:=cs;fw:=87;ff:=88;aw:=#[lp N.cj,lp N.cr,lp N.ck,lp N.cd];af:=#[lp N.cp,lp N.cj,lp N.cd,lp N.cr];all:=P;g0:=mL (bm.at ⟨#[Bb,.agg (iu kd).toArray,lp 5,lp 6,.map none,lp 7,lp 8,lp 9,undef,undef,.chan (some 2),.chan (some 3),.chan (some 4),.int .i64 0,.bool true,.func (.func 87) #[] #[lp 7,lp 8,lp 6,lp 9],undef,undef,undef,undef,undef,undef,undef,undef,undef,undef,undef,undef,undef,undef,undef,undef,undef,undef,undef],[]⟩ tG) [wall];gw:=mL (Frame.enter prog 87 #[lp 5,lp 6,lp 7,lp 8] .deferred) [wall];gf:=mL (Frame.enter prog 88 #[lp 5,lp 6,lp 7,lp 8] .deferred) [wall];v0:=lw w (Hs kd);vw:=lw w (Hw kd);vf:=lw w (Hf es clock);vn:=lw w [lH,lH,lH,lH,lH];X0:=N.X0;Xw:=N.Xw;Xf:=N.Xf
noncomputable def gR(kd:List UInt8)(N:Bn)(cs:List Frame):Goroutine:=mL (bm.at ⟨#[.pointer (some ⟨N.rb,0,none⟩),.agg (iu kd).toArray,lp N.cp,lp N.ck,.map none,lp N.cj,lp N.cr,lp N.cd,undef,undef,.chan (some N.J),.chan (some N.R),.chan (some N.D),.int .i64 0,.bool true,.func (.func 87) #[] #[lp N.cj,lp N.cr,lp N.ck,lp N.cd],undef,undef,undef,undef,undef,undef,undef,undef,undef,undef,undef,undef,undef,undef,undef,undef,undef,undef,undef],[]⟩ tG) cs
section
variable{kd:List UInt8}{P:List (List UInt8)}{es:Array MapEntry}{clock:Nat}{N:Bn}{cs:List Frame}{w:World}
def Al{E X Rs fr g'}(h:GR prog E X Rs (mL fr [wall]) g'):g'.callers=Rs:=by
 obtain⟨cs,lT,e1,e2,hc⟩:=h.callers;have:cs=[]:=by
  have hl:[wall].length=(cs++[wall]).length:=by rw[<-e1]
  simp at hl;exact hl
 subst this;cases hc;simpa using e2
def NI{E X}{b:Frame}{a ops i fn g'}(h:GR prog E X [base prog] (mL (b.at a [.inRegion ops [i]]) [wall]) g')(hf:prog.funcs[b.fn]? =some fn)(hr:fn.results=#[])(hk:b.kind=.deferred) u:QuitsD prog 4 0 {g' with frame:=g'.frame.finish u,status:=.running,offers:=none}:=by have hc:=Al h;obtain⟨_,hd,mD,_⟩:=h;obtain⟨fr,lT,st,dy,off⟩:=g';dsimp only at hc hd mD|-;obtain⟨_,rfl⟩:=hd;subst hc;have hkd:fr.kind=.deferred:=mD.kind.trans hk;have VP:fr.mode=.run:=mD.mode;have Oz:fr.todo=[.inRegion ops [i]]:=mD.todo;have hdf:fr.defers=[]:=mD.defers.2;have uW:fr.roundOf=none:=mD.round.2;have hfn:fr.fn=b.fn:=mD.fn;clear mD;obtain⟨f1,f2,f3,f4,f5,f6,f7⟩:=fr;dsimp only at hkd VP Oz hdf uW hfn;subst hkd;subst VP;subst Oz;subst hdf;subst uW;subst hfn;unfold Frame.finish;dsimp only;exact RI (ops:=ops) hf hr rfl rfl rfl rfl rfl
def law(nU:Pl.Up Mk.gC P)(h20:P.length<=1000)(n:Nat):Eb ((PS kd P es clock N cs w).cfg n) where
 code:=Wf;iy:=al8;ari:=by show prog.globals.size<=5;exact of_decide_eq_true κ
 adX:=adW;re:=λc g v τ n h=>PA.re h τ n;XU:=λc g v h=>PA.XU h;started:=λi h1 h2=>by show(if i<n+3 then _ else _)∈fl/\∃fn,prog.funcs[if i<n+3 then _ else _]? =some fn;split;obtain⟨fn,b,h,_⟩:=V0 (f:=87) ψ;exact⟨(by decide:87∈fl),fn,h⟩;obtain⟨fn,b,h,_⟩:=V0 (f:=88) ψ;exact⟨(by decide:88∈fl),fn,h⟩
 act:=λc X R g v g' hc h hg b w=>amg c X R g v g' hc h hg b w;Ho:=λc ch X R g v g' hc h hg=>adV c ch X R g v g' hc h hg;app0:=λX Y ⟨Z,hZ⟩=>⟨Z++Y,by rw[hZ,aL]⟩;Qa:=λk X R g v g' hk hX h hg b w=>aa7 (P:=P) (es:=es) (clock:=clock) N.cp N.ck N.cj N.cr N.cd n k X R g v g' hX hk h hg b w;Qy:=⟨λa=>(GW a).clean,λa=>(Pu kd a).clean,J8.clean,J0.clean,ZA.clean⟩;tx:=λ_ _ _ _ _=>trivial;abY:=λa g v h _=>ajB h;aiF:=λg v h=>aoa h;abU:=λa g v h=>ajA h;abW:=λX g v g' h hg=>by obtain⟨⟨_,_,_,_,_,_,_,_,_,_,_,rfl⟩,_⟩:=h;exact⟨4,NI hg func87 rfl rfl undef⟩
 abV:=λa rem g v h=>alZ nU h;Vn:=λg v h=>adC (P:=P) h;Sl:=λk g v hk h=>ahB (P:=P) _ hk h;K9:=λg v h=>al0 (P:=P) _ h;Vm:=λX g v g' h hg=>by obtain⟨⟨_,_,_,_,_,_,_,_,_,_,_,_,_,_,_,_,_,_,_,rfl⟩,_⟩:=h;exact⟨4,NI hg func88 rfl rfl _⟩
 abT:=λk g v hk h=>ajS hk h;Vl:=λg v h=>aom h;abX:=λa iP g v hn h=>ajT (ak hn h20) h
end
end Ph
def t096{p:Prop}(h:p:=by exact⟨_,_,rfl,h.qH,ox (ou rfl),λ_=>kr _ _⟩):p:=h
def t095{p:Prop}(h:p:=by exact⟨_,_,rfl,h.Lr,ox (ou rfl),λ_=>kr _ _⟩):p:=h
def t094{p:Prop}(h:p:=by exact⟨_,_,rfl,h.Lp,ox (ou rfl),λ_=>kr _ _⟩):p:=h
def t031{p:Prop}(h:p:=by simp only[List.mem_cons,List.not_mem_nil,or_false]at sB;show(bn B rb mb).Sh b;unfold Bn.Sh bn;dsimp only;omega):p:=h
def t030{p:Prop}(h:p:=by simp only[List.nodup_cons,List.mem_cons,List.not_mem_nil,or_false,List.nodup_nil,and_true,not_false_eq_true];omega):p:=h
namespace Ph
open Go.Conc Rn iz
open Go.RowKit
open Tp (iT iy Term Ld mL)
section
variable{E:Env}{X:List Nat}
inductive VL(E:Env)(X:List Nat):List Value->List Value->Prop
 |nil:VL E X [] []
 |cons {a b:Value} {l m:List Value} (h:Rn.V E X a b) (t:VL E X l m):VL E X (a::l) (b::m)
def VL.length{l m}(h:VL E X l m):l.length=m.length:=by induction h with|nil=>rfl|cons _ _ ih=>simp[ih]
def VL.get{l m}(h:VL E X l m):∀(i:Nat)(a b),l[i]? =some a->m[i]? =some b->Rn.V E X a b:=by
 induction h with
 |nil=>intro i a b h;simp at h|cons h _ ih=>
 intro i a b h1 h2;cases i with
 |zero=>cases h1;cases h2;exact h
 |succ i=>exact ih i a b aFV aFR
def VL.va{l m}(h:VL E X l m):VA E X l.toArray m.toArray:=⟨by simpa using h.length,λi v v' h1 h2=>h.get i v v' aFV aFR⟩
def j4:Rn.V E X undef undef:=V.lf (VA.empty _)
def aob kd:Rn.V E X (.agg (iu kd).toArray) (.agg (iu kd).toArray):=Clean.self (.agg _ λi v hv=>by
 have VD:(iu kd)[i]? =some v:=aJd;unfold iu at VD;match i,VD with
 |0,h=>cases h;exact .int _ _
 |1,h=>cases h;exact .int _ _
 |i+2,h=>simp at h) _
def at_{J R D r b X}(h:5<=r)(h2:X[r-5]? =some b):At (PE J R D) X r b:=⟨h,h2⟩
def kr c t:∃c' e,fz c t=.cells c' e (0,c'.size):=⟨c.toArray,t,by simp[fz]⟩
def ox{c c' t}(h:VL E X c c'):sw E X (fz c t) (.cells c'.toArray t (0,0)):=.cells _ _ _ _ _ h.va (.inr ζ)
def Uq{Sh:Nat->Prop}{w:World}{l:List Obj}(hG:E.G=5)(hs:l.length=5+X.length)(hj:∀i,i<5->l[i]? =some lH)(hn:X.Nodup)(uq:∀b,Sh b->b<w.heap.size) (h:∀(i b:Nat),X[i]? =some b->∃o o',l[5+i]? =some o/\w.heap[b]? =some o'/\sw E X o o'/\(Sh b->∃c e,o=.cells c e (0,c.size))):WR E Sh X ((lw w l).re w.tape w.drawn) w where
 size:=by show l.toArray.size=_;rw[hG];simpa using hs
 el:=λi b hb=>by obtain⟨o,o',h1,h2,h3,_⟩:=h i b hb;exact⟨o,o',by show l.toArray[E.G+i]? =_;rw[hG];simpa using h1,h2,h3⟩
 lH:=λr hr=>by show l.toArray[r]? =_;rw[hG]at hr;exact(by simpa using hj r hr:l.toArray[r]? =some lH)
 nodup:=hn;shared:=λi b hb hsb=>by obtain⟨o,o',h1,_,_,h4⟩:=h i b hb;obtain⟨c,e,rfl⟩:=h4 hsb;exact⟨c,e,by show l.toArray[E.G+i]? =_;rw[hG];simpa using h1⟩
 low:=uq;tape:=rfl;drawn:=rfl
end
def bn(B rb mb:Nat):Bn:=⟨B,B+1,B+3,B+5,B+7,rb,mb,B+2,B+4,B+6⟩
structure AtGo(kd:List UInt8)(es:Array MapEntry)(clock B rb mb:Nat)(w:World):Prop where
 size:w.heap.size=B+8
 hcp:w.heap[B]? =some (.cells #[.pointer (some ⟨rb,0,none⟩)] 74 (0,0))
 hck:w.heap[B+1]? =some (.cells (iu kd).toArray 89 (0,0))
 hJ:w.heap[B+2]? =some (.chan 0 #[] false 0 0 false)
 Lp:w.heap[B+3]? =some (.cells #[.chan (some (B+2))] 145 (0,0))
 hR:w.heap[B+4]? =some (.chan 0 #[] false 0 0 false)
 qH:w.heap[B+5]? =some (.cells #[.chan (some (B+4))] 146 (0,0))
 hD:w.heap[B+6]? =some (.chan 3 #[] false 0 0 false)
 Lr:w.heap[B+7]? =some (.cells #[.chan (some (B+6))] 147 (0,0))
 VK:∃a b c,w.heap[rb]? =some (.cells #[.map (some mb),a,b,c] 44 (0,0))/\flat a/\flat b/\flat c
 Td:w.heap[mb]? =some (.map es clock)
 rlt:rb<B
 mlt:mb<B
section
variable{kd:List UInt8}{P:List (List UInt8)}{es:Array MapEntry}{clock B rb mb:Nat}{cs:List Frame}{w:World}
def AtGo.ne(h:AtGo kd es clock B rb mb w):rb≠mb:=λe=>by obtain⟨a,b,c,h1,_⟩:=h.VK;rw[e,h.Td]at h1;cases h1
def LJ(h:AtGo kd es clock B rb mb w):∀b,(bn B rb mb).Sh b->b<w.heap.size:=λb hb=>by have h1:=h.size;have h2:=h.rlt;unfold Bn.Sh bn at hb;dsimp only at hb;omega
def ZP{p:Nat->Nat->Prop}{a b c d e}(h0:p 0 a)(h1:p 1 b)(h2:p 2 c)(h3:p 3 d)(h4:p 4 e):∀i x,[a,b,c,d,e][i]? =some x->p i x:=λi x hx=>by
 match i,hx with
 |0,h=>cases h;exact h0
 |1,h=>cases h;exact h1
 |2,h=>cases h;exact h2
 |3,h=>cases h;exact h3
 |4,h=>cases h;exact h4
 |i+5,h=>simp at h
def ZQ{p:Nat->Nat->Prop}{a b c d}(h0:p 0 a)(h1:p 1 b)(h2:p 2 c)(h3:p 3 d):∀i x,[a,b,c,d][i]? =some x->p i x:=λi x hx=>by
 match i,hx with
 |0,h=>cases h;exact h0
 |1,h=>cases h;exact h1
 |2,h=>cases h;exact h2
 |3,h=>cases h;exact h3
 |i+4,h=>simp at h
def ZO{p:Nat->Nat->Prop}{a b c d e f}(h0:p 0 a)(h1:p 1 b)(h2:p 2 c)(h3:p 3 d)(h4:p 4 e)(h5:p 5 f):∀i x,[a,b,c,d,e,f][i]? =some x->p i x:=λi x hx=>by
 match i,hx with
 |0,h=>cases h;exact h0
 |1,h=>cases h;exact h1
 |2,h=>cases h;exact h2
 |3,h=>cases h;exact h3
 |4,h=>cases h;exact h4
 |5,h=>cases h;exact h5
 |i+6,h=>simp at h
def Vw{l}:∀i,i<5->(lH::lH::lH::lH::lH::l)[i]? =some lH:=λi hi=>by
 match i,hi with
 |0,_=>rfl
 |1,_=>rfl
 |2,_=>rfl
 |3,_=>rfl
 |4,_=>rfl
def ou{X J R D r b}(h:(PE J R D).C r=some b):VL (PE J R D) X [.chan (some r)] [.chan (some b)]:=.cons (.chan _ _ h) .nil
def ack{E X}:VL E X (iu kd) (iu kd):=.cons (.int _ _) (.cons (.int _ _) .nil)
def wr0(h:AtGo kd es clock B rb mb w):WR (PE (B+2) (B+4) (B+6)) (bn B rb mb).Sh (bn B rb mb).X0 ((lw w (Hs kd)).re w.tape w.drawn) w:=by refine Uq rfl rfl Vw ?_ (LJ h) (ZP ?_ ?_ ?_ ?_ ?_);show [B,B+1,B+3,B+5,B+7].Nodup;exact t030;exact⟨_,_,rfl,h.hcp,ox (.cons (.undef (.pointer (some ⟨rb,0,none⟩)) trivial) .nil),λ_=>kr _ _⟩;exact⟨_,_,rfl,h.hck,ox ack,λ_=>kr _ _⟩;exact t094;exact t096;exact t095
def wrw(h:AtGo kd es clock B rb mb w):WR (PE (B+2) (B+4) (B+6)) (bn B rb mb).Sh (bn B rb mb).Xw ((lw w (Hw kd)).re w.tape w.drawn) w:=by refine Uq rfl rfl Vw ?_ (LJ h) (ZQ ?_ ?_ ?_ ?_);show [B+3,B+5,B+1,B+7].Nodup;exact t030;exact t094;exact t096;exact⟨_,_,rfl,h.hck,ox ack,λ_=>kr _ _⟩;exact t095
def wrf(h:AtGo kd es clock B rb mb w)(tu:∀e∈es.toList,Rn.Clean e.key/\Rn.Clean e.val):WR (PE (B+2) (B+4) (B+6)) (bn B rb mb).Sh (bn B rb mb).Xf ((lw w (Hf es clock)).re w.tape w.drawn) w:=by have iZ:=h.ne;have hr:=h.rlt;have hm:=h.mlt;refine Uq rfl rfl Vw ?_ (LJ h) (ZO ?_ ?_ ?_ ?_ ?_ ?_);show [B,B+3,B+7,B+5,rb,mb].Nodup;exact t030;exact⟨_,_,rfl,h.hcp,ox (.cons (.ptr _ _ _ _ (at_ ψ rfl)) .nil),λ_=>kr _ _⟩;exact t094;exact t095;exact t096;obtain⟨a,b,c,h1,ha,hb,hc⟩:=h.VK;exact⟨_,_,rfl,h1,ox (.cons (.map _ _ (at_ ψ rfl)) (.cons (.undef _ ha) (.cons (.undef _ hb) (.cons (.undef _ hc) .nil)))),λ_=>kr _ _⟩;refine⟨_,_,rfl,h.Td,.map _ _ _ ⟨rfl,λi e e' h1 h2=>?_⟩,λtn=>?_⟩;rw[h1]at h2;cases h2;obtain⟨k1,k2⟩:=tu e (by simpa using Array.mem_of_getElem? h1);exact⟨k1.self _,k2.self _,rfl⟩;have apr:(bn B rb mb).Sh mb:=tn;unfold Bn.Sh bn at apr;dsimp only at apr;omega
def wrn(h:AtGo kd es clock B rb mb w):WR (PE (B+2) (B+4) (B+6)) (bn B rb mb).Sh [] ((lw w [lH,lH,lH,lH,lH]).re w.tape w.drawn) w:=Uq rfl rfl Vw List.nodup_nil (LJ h) (λi b hb=>by simp at hb)
def atU(N:Bn):Rn.V (PE N.J N.R N.D) N.X0 (.func (.func 87) #[] #[lp 7,lp 8,lp 6,lp 9]) (.func (.func 87) #[] #[lp N.cj,lp N.cr,lp N.ck,lp N.cd]):=by have hc:VA (PE N.J N.R N.D) N.X0 #[lp 7,lp 8,lp 6,lp 9] #[lp N.cj,lp N.cr,lp N.ck,lp N.cd]:=VL.va (.cons (.ptr _ _ _ _ (at_ ψ rfl)) (.cons (.ptr _ _ _ _ (at_ ψ rfl)) (.cons (.ptr _ _ _ _ (at_ ψ rfl)) (.cons (.ptr _ _ _ _ (at_ ψ rfl)) .nil))));exact .func _ _ _ _ _ (by show _∈fl;decide) rfl (VA.empty _).el hc.size hc.el
def adm N:GR prog (PE N.J N.R N.D) N.X0 cs (mL (bm.at ⟨#[Bb,.agg (iu kd).toArray,lp 5,lp 6,.map none,lp 7,lp 8,lp 9,undef,undef,.chan (some 2),.chan (some 3),.chan (some 4),.int .i64 0,.bool true,.func (.func 87) #[] #[lp 7,lp 8,lp 6,lp 9],undef,undef,undef,undef,undef,undef,undef,undef,undef,undef,undef,undef,undef,undef,undef,undef,undef,undef,undef],[]⟩ tG) [wall]) (gR kd N cs):=by refine⟨⟨rfl,rfl⟩,⟨rfl,rfl⟩,⟨rfl,rfl,acn κ,VL.va (.cons (.undef (.pointer (some ⟨N.rb,0,none⟩)) trivial) (.cons (aob kd) (.cons (.ptr _ _ _ _ (at_ ψ rfl)) (.cons (.ptr _ _ _ _ (at_ ψ rfl)) (.cons (.Gh) (.cons (.ptr _ _ _ _ (at_ ψ rfl)) (.cons (.ptr _ _ _ _ (at_ ψ rfl)) (.cons (.ptr _ _ _ _ (at_ ψ rfl)) (.cons (j4) (.cons (j4) (.cons (.chan _ _ rfl) (.cons (.chan _ _ rfl) (.cons (.chan _ _ rfl) (.cons (.int _ _) (.cons (.bool _) (.cons (atU N) (.cons (j4) (.cons (j4) (.cons (j4) (.cons (j4) (.cons (j4) (.cons (j4) (.cons (j4) (.cons (j4) (.cons (j4) (.cons (j4) (.cons (j4) (.cons (j4) (.cons (j4) (.cons (j4) (.cons (j4) (.cons (j4) (.cons (j4) (.cons (j4) (.cons (j4) (.nil)))))))))))))))))))))))))))))))))))),⟨rfl,rfl⟩,rfl,.inl rfl,rfl,⟨rfl,rfl⟩⟩,[],[],rfl,rfl,.nil⟩
def Pk(N:Bn)(X:List Nat)(f:FuncId)(hf:f∈fl){a a':List Value}(h:VL (PE N.J N.R N.D) X a a'):GR prog (PE N.J N.R N.D) X [base prog] (mL (Frame.enter prog f a.toArray .deferred) [wall]) (started prog f a'.toArray):=⟨⟨rfl,rfl⟩,⟨rfl,rfl⟩,Ex.enter Wf f hf h.va _ _ rfl,[],[],rfl,rfl,.nil⟩
def abI{m m' n Dt}{w v:World}(h:w.ownsMap prog 76 Mp.AH m n Dt)(hb:v.heap[m']? =w.heap[m]?):v.ownsMap prog 76 Mp.AH m' n Dt:=by obtain⟨es,clock,h1,h2⟩:=h;exact⟨es,clock,hb.trans h1,h2⟩
def ready(h:AtGo kd es clock B rb mb w)(hM:Mp.Map w mb P)(tu:∀e∈es.toList,Rn.Clean e.key/\Rn.Clean e.val):aet (PS kd P es clock (bn B rb mb) cs w) (gR kd (bn B rb mb) cs) w where
 law:=law hM.up (ak hM.le ω);gr0:=adm _;air:=.stop ⟨.inl ⟨by omega,_,_,_,_,_,_,_,_,_,_,_,_,_,_,_,_,_,_,_,_,_,_,_,_,_,_,_,_,rfl⟩,nD.mk _ _ rfl,rfl⟩;grw:=Pk (bn B rb mb) _ _ ψ (.cons (.ptr _ _ _ _ (at_ ψ rfl)) (.cons (.ptr _ _ _ _ (at_ ψ rfl)) (.cons (.ptr _ _ _ _ (at_ ψ rfl)) (.cons (.ptr _ _ _ _ (at_ ψ rfl)) .nil))));aip:=afK (nD.mk _ _ rfl);grf:=Pk (bn B rb mb) _ _ ψ (.cons (.ptr _ _ _ _ (at_ ψ rfl)) (.cons (.ptr _ _ _ _ (at_ ψ rfl)) (.cons (.ptr _ _ _ _ (at_ ψ rfl)) (.cons (.ptr _ _ _ _ (at_ ψ rfl)) .nil))));aiq:=ahA hM.up (nD.mk _ _ rfl) rfl (abI hM.own h.Td.symm);wr0:=wr0 h;wrw:=wrw h;wrf:=wrf h tu;wrn:=wrn h;d0w:=λb hb _=>by have sB:b∈[B,B+1,B+3,B+5,B+7]:=hb;exact t031
 d0f:=λb hb _=>by have sB:b∈[B,B+1,B+3,B+5,B+7]:=hb;exact t031
 dww:=λb hb=>by have sB:b∈[B+3,B+5,B+1,B+7]:=hb;exact t031
 Ig:=⟨_,_,h.hJ⟩;IW:=⟨_,_,h.hR⟩;LH:=h.hD;ne:=by show B+2≠B+4/\B+2≠B+6/\B+4≠B+6;omega
end
end Ph
namespace Ph
open Go.Conc Rn iz
open Go.RowKit
open Tp (iT iy Term Ld mL)
structure Aq(B:Nat)(w w':World):Prop where
 os:w'.os=w.os
 output:w'.output=w.output
 size:w.heap.size<=w'.heap.size
 block:∀k,k<B->w'.heap[k]? =w.heap[k]?
theorem Aq.trans{B w w' tK}(h:Aq B w w')(h':Aq B w' tK):Aq B w tK:=⟨h'.os.trans h.os,h'.output.trans h.output,ak h.size h'.size,λk hk=>(h'.block k hk).trans (h.block k hk)⟩
def Aq.mono{B C w w'}(h:Aq B w w')(hc:C<=B):Aq C w w':=⟨h.os,h.output,h.size,λk hk=>h.block k ω⟩
def Aq.of{B w w'}(h:Below B w w'):Aq B w w':=⟨h.os,h.output,h.size,h.block⟩
section
variable{E:Env}{Sh:Nat->Prop}{X:List Nat}{v w:World}
def amb(hn:X.Nodup){g g' b}(h:At E X g b)(h':At E X g' b):g=g':=by have h1:=h.1;have h2:=h'.1;have gV:=(aB.1 h.2).1;have:=(eM gV hn).1 (h.2.trans h'.2.symm);omega
def agn(hw:WR E Sh X v w){B B'}(qY:∀g b,At E X g b->B'<=g->B<=b){e z n x x' xs}(hx:∀u∈xs,Exact u)(h0:0<n)(hz:0<z)(h:v.ownsRow B' e z x n xs)(hv:Rn.V E X x x'):w.ownsRow B e z x' n xs/\∃g b,x.ownBlock=some g/\x'.ownBlock=some b/\At E X g b:=by
 rcases h.2 with⟨_,hn⟩|⟨g,cap,cur,rfl,hb,hc,h1,h2,h3,h4⟩;omega;cases hv with
 |slice _ b off sp _ _ q8=>
 obtain⟨o,o',e1,e2,hr⟩:=hw.obj q8;rw[hc]at e1;cases e1;cases hr with
 |cells _ c' _ _ Lt hva hf=>
 have hcz:0<cur.size:=by rw[h3];exact Nat.mul_pos ω hz
 have hfz:Lt=(0,0):=by rcases hf with hf|hf;exact hf;have:=(Prod.mk.inj hf).2;omega
 subst hfz;refine⟨⟨h.1,.inr ⟨b,cap,c',rfl,qY g b q8 hb,e2,h1,h2,by rw[<-hva.size];exact h3,?_⟩⟩,g,b,rfl,rfl,q8⟩;rw[<-h4];apply b9;intro i;rw[eE,eE];split;rename_i hi;rcases hva.get i with⟨y,y',e1,e2,hy⟩|⟨e1,e2⟩;have hm:y∈xs:=by rw[<-h4];refine List.mem_of_getElem? (i:=i) ?_;rw[eE,if_pos hi];simpa using e1
 have:=(hx y hm).eq hy;rw[bE,bE,e1,e2,this];rw[bE,bE,e1,e2];rfl
def Zz ts:∀u∈il ts,Exact u:=λu hu=>by unfold il at hu;obtain⟨l,hl,hm⟩:=List.mem_flatten.1 hu;obtain⟨t,_,rfl⟩:=List.mem_map.1 hl;obtain⟨i,hi⟩:=cD hm;exact nL (.string _) (nX _) i u hi
def aaA{x v'}(h:Rn.V E X (.string x) v'):v'=.string x:=by cases h;rfl
def abM(hw:WR E Sh X v w){B B' m M}(qY:∀g b,At E X g b->B'<=g->B<=b){f iP}(h:mN v B' m f iP)(hm:At E X m M):mN w B M f iP:=by
 obtain⟨es,clock,K,h1,h2,h3,h4,h5,h6⟩:=h;obtain⟨o,o',e1,e2,hr⟩:=hw.obj hm;rw[h1]at e1;cases e1;cases hr with
 |map _ nM _ Te=>
 have hlen:es.toList.length=K.length:=by have:=congrArg List.length h2;simpa using this
 have aiY:nM.toList.length=K.length:=by rw[<-hlen];simpa using Te.size.symm
 have sq:∀(i:Nat)(p':By×Value),((K.zip nM.toList).map λp=>(p.1.1,p.2.val))[i]? =some p'->∃p e',K[i]? =some p/\nM[i]? =some e'/\p'=(p.1,e'.val)/\Rn.V E X p.2 e'.val/\e'.key=.string (str p.1):=λi p' hp=>by
  rw[aE]at hp;obtain⟨q,hq,rfl⟩:=aS.1 hp;obtain⟨hq1,hq2⟩:=List.getElem?_zip_eq_some.1 hq;have IN:nM[i]? =some q.2:=by simpa using hq2
  have hi:i<es.size:=by have:=(ae.1 IN).1;rw[Te.size];exact this
  have hkv:(es.toList.map λe=>(e.key,e.val))[i]? =(K.map xN)[i]?:=by rw[h2]
  rw[aE,aE,hq1,bE,Array.getElem?_eq_getElem hi]at hkv;have hp:=aA hkv;have hme:=Te.el i es[i] q.2 (Array.getElem?_eq_getElem hi) IN;have BM:es[i].key=.string (str q.1.1):=(Prod.mk.inj hp).1;have sm:es[i].val=q.1.2:=(Prod.mk.inj hp).2;refine⟨q.1,q.2,hq1,IN,rfl,by rw[<-sm];exact hme.val,?_⟩;have:=hme.key;rw[BM]at this;exact aaA this
 have jb:∀p'∈(K.zip nM.toList).map λp=>(p.1.1,p.2.val),∀(i:Nat),((K.zip nM.toList).map λp=>(p.1.1,p.2.val))[i]? =some p'->w.ownsRow B 78 33 p'.2 (na f iP p'.1).length (il (na f iP p'.1))/\∃p g b,K[i]? =some p/\p.2.ownBlock=some g/\p'.2.ownBlock=some b/\At E X g b:=λp' _ i hi=>by obtain⟨p,e',k1,k2,rfl,k4,_⟩:=sq i p' hi;have hpm:=List.mem_of_getElem? k1;obtain⟨t,ht,hf⟩:=(h4 p.1).1 (dP hpm);have hn:0< (na f iP p.1).length:=List.length_pos_of_mem (a:=t) (by unfold na;simp[ht,hf]);obtain⟨r1,g,b,r2,r3,r4⟩:=agn hw qY (Zz _) hn ω (h5 p hpm) k4;exact⟨r1,p,g,b,k1,r2,r3,r4⟩
 have aqa:((K.zip nM.toList).map λp=>(p.1.1,p.2.val)).map (·.1)=K.map (·.1):=by rw[List.map_map];apply b9;intro i;rw[aE,aE];by_cases hi:i<K.length;rw[ag (by simpa[aiY]using hi),ag hi];simp;rw[bT aFJ,bT ω];rfl
 refine⟨nM,clock,_,e2,?_,by rw[aqa];exact h3,λs=>by rw[aqa];exact h4 s,λp' hp=>?_,λi j p q hp hq qG=>?_⟩;apply b9;intro i;rw[aE,aE];by_cases hi:i<K.length;have hi2:i< ((K.zip nM.toList).map λp=>(p.1.1,p.2.val)).length:=by simp at aiY|-;omega
 obtain⟨p,e',k1,k2,k3,_,k5⟩:=sq i _ (ag hi2);rw[ag hi2,bE,k2,k3];simp only[Option.map_some];unfold xN;rw[k5];rw[bT ω,bT aFJ];rfl;obtain⟨i,hi⟩:=cD hp;exact(jb p' hp i hi).1;obtain⟨_,p0,g,b,k1,k2,k3,k4⟩:=jb p (List.mem_of_getElem? hp) i hp;obtain⟨_,q0,g',b',l1,l2,l3,l4⟩:=jb q (List.mem_of_getElem? hq) j hq;rw[k3,l3];intro e;rw[aA e]at k4;have:=amb hw.nodup k4 l4;have hd:=h6 i j p0 q0 k1 l1 qG;rw[k2,l2,this]at hd;exact hd rfl
end
end Ph
def t081{p:Prop}(h:p:=by simp only[List.mem_cons,List.not_mem_nil,or_false];omega):p:=h
namespace Ph
open Go.Conc Rn iz
open Go.RowKit
open Tp (iT iy Term Ld mL jk iw iQ Ih mn kQ Fit)
noncomputable def aaY:List Item:=[.inRegion (co (cl MY)) [1],.code (cr MY),.inLoop MY,.inBlock 2,.code M14]
def Aft(kd:List UInt8)(P:List (List UInt8))(B:Nat)(w:World)(cs:List Frame)(a':Goroutine)(w':World):Prop:=∃(iP:List (List UInt8))(M:Nat)(arr:Array Value)(z:Value),a'=mL (bm.at ⟨arr,[]⟩ aaY) cs/\arr.size=35/\arr[8]? =some (.map (some M))/\arr[20]? =some (.tuple #[z,.bool false])/\(∀p,iP.countP p=P.countP p)/\mN w' B M (ja kd) iP/\B<=M/\Aq B w w'
def Zu{fr}{b:Frame}{a t}(h1:fr.fn=b.fn)(h2:fr.tmps=a)(h3:fr.todo=t)(h4:fr.defers=[])(h5:fr.mode=.run)(h6:fr.kind=b.kind)(h7:fr.roundOf=none):fr=b.at ⟨a,[]⟩ t:=by obtain⟨f1,f2,f3,f4,f5,f6,f7⟩:=fr;dsimp only at h1 h2 h3 h4 h5 h6 h7;subst h1;subst h2;subst h3;subst h4;subst h5;subst h6;subst h7;rfl
section
variable{kd:List UInt8}{P:List (List UInt8)}{es:Array MapEntry}{clock B rb mb:Nat}{cs:List Frame}{w wg:World}
def amf(h:AtGo kd es clock B rb mb wg)(tu:∀e∈es.toList,Exact e.key/\Exact e.val){a' w'}(ha:ajt (PS kd P es clock (bn B rb mb) cs wg) wg a' w'):Aft kd P B wg cs a' w':=by
 obtain⟨iP,X,g,v,Xf,gf,vf,h1,pU,h2,h3,h4,⟨Y,rfl,hY⟩,h6,h7,⟨Z,rfl⟩,h9,h10,h11,h12,h13⟩:=ha;obtain⟨⟨x0,x1,x4,x9,nz,mR,nd,od,mP,m9,m4,n7,rm,rU,qw,pN,qa,xD,ym,yl,yj,yh,yg,yf,ye,xZ,xe,xd,rfl⟩,Zd,uo,_⟩:=(show SA kd (.iq iP) g v from h2);have h1:GR prog (PE (B+2) (B+4) (B+6)) ((bn B rb mb).X0++Y) cs (Go.Conc.served (mL (bm.at ⟨#[x0,x1,lp 5,lp 6,x4,lp 7,lp 8,lp 9,.map (some 10),x9,nz,mR,nd,od,mP,m9,m4,n7,rm,.chan (some 3),rU,qw,pN,qa,xD,ym,yl,yj,yh,yg,yf,ye,xZ,xe,xd],[]⟩ tRR) [wall]) (.tuple #[.agg V8.toArray,.bool false])) a':=h1;unfold tRR at h1;rw[nR (o:=⟨some 20,_,_,_,_,_⟩) rfl]at h1;have h1:GR prog (PE (B+2) (B+4) (B+6)) ((bn B rb mb).X0++Y) cs (mL (bm.at ⟨#[x0,x1,lp 5,lp 6,x4,lp 7,lp 8,lp 9,.map (some 10),x9,nz,mR,nd,od,mP,m9,m4,n7,rm,.chan (some 3),.tuple #[.agg V8.toArray,.bool false],qw,pN,qa,xD,ym,yl,yj,yh,yg,yf,ye,xZ,xe,xd],[]⟩ aaY) [wall]) a':=h1;have hc:=Al h1;obtain⟨hr,hd,hf,_⟩:=h1;have hX5:∃M,((bn B rb mb).X0++Y)[5]? =some M:=by have hs:=h4.size;obtain⟨DU,axe,K,he,_⟩:=uo;have gV:=(ae.1 he).1;have hs':v.heap.size=5+((bn B rb mb).X0++Y).length:=hs;exact⟨_,ag (show 5< ((bn B rb mb).X0++Y).length by omega)⟩
 obtain⟨M,hM⟩:=hX5;have alF:At (PE (B+2) (B+4) (B+6)) ((bn B rb mb).X0++Y) 10 M:=⟨by show 5<=10;omega,hM⟩;have pL:=h.size;have qY:∀g b,At (PE (B+2) (B+4) (B+6)) ((bn B rb mb).X0++Y) g b->10<=g->B<=b:=λg b hg h10=>by have h1:((bn B rb mb).X0++Y)[g-5]? =some b:=hg.2;rw[aK (by show 5<=g-5;omega)]at h1;have:=hY b (List.mem_of_getElem? h1);omega
 have hve:∀t x,(hx:(⟨#[x0,x1,lp 5,lp 6,x4,lp 7,lp 8,lp 9,.map (some 10),x9,nz,mR,nd,od,mP,m9,m4,n7,rm,.chan (some 3),.tuple #[.agg V8.toArray,.bool false],qw,pN,qa,xD,ym,yl,yj,yh,yg,yf,ye,xZ,xe,xd],[]⟩:Act).tmps[t]? =some x)->∃x',a'.frame.tmps[t]? =some x'/\Rn.V (PE (B+2) (B+4) (B+6)) ((bn B rb mb).X0++Y) x x':=λt x hx=>by rcases hf.tmps.get t with⟨y,y',e1,e2,hy⟩|⟨e1,_⟩;have:some y=some x:=e1.symm.trans hx;cases this;exact⟨y',e2,hy⟩;have:none=some x:=e1.symm.trans hx;cases this
 obtain⟨y8,e8,v8⟩:=hve 8 _ rfl;obtain⟨y20,e20,v20⟩:=hve 20 _ rfl;have e8':y8=.map (some M):=by cases v8 with|map _ b hb=>have:=hb.2.symm.trans alF.2;rw[aA this]
 obtain⟨z,rfl⟩:∃z,y20=.tuple #[z,.bool false]:=by
  cases v20 with
  |tuple _ a2 zU hel=>
  have hs3:a2.size=2:=zU.symm;have hb:=hel 1 (.bool false) a2[1] rfl (Array.getElem?_eq_getElem ω);have kD:a2[1]=.bool false:=by generalize a2[1]=q at hb;cases hb;rfl
  refine⟨a2[0],?_⟩;congr 1;apply Array.ext;simpa using hs3;intro i hi1 hi2;have:i=0∨i=1:=by simp at hi2;omega
  rcases this with rfl|rfl;rfl;exact kD
 refine⟨iP,M,a'.frame.tmps,z,?_,?_,by rw[e8,e8'],e20,h3,abM h4 (λg b hg h11=>qY g b hg ω) uo alF,qY 10 M alF ν,?_⟩;have mD:a'.frame=bm.at ⟨a'.frame.tmps,[]⟩ aaY:=Zu (b:=bm) hf.fn rfl hf.todo hf.defers.2 hf.mode hf.kind hf.round.2;obtain⟨fr,lT,st,dy,off⟩:=a';dsimp only at mD hc hr hd pU|-;obtain⟨_,rfl⟩:=hr;obtain⟨_,rfl⟩:=hd;subst hc;subst pU;exact congrArg (λf=>mL f lT) mD;exact hf.tmps.size.symm;refine⟨h11,h12,h9,λk hk=>?_⟩;by_cases Td:k=mb;subst Td;obtain⟨_,hpf⟩:=(show FA P es clock .jV gf vf from h6);obtain⟨o,o',f1,f2,f3⟩:=h7.el 5 k rfl;have f1':vf.heap[10]? =some o:=f1;rw[hpf 10 _ rfl]at f1';cases f1';rw[f2,h.Td];cases f3 with
 |map _ nM _ Te=>
  congr 2;apply bL;intro i;by_cases hi:i<es.size;have Qn:i<nM.size:=by rw[<-Te.size];exact hi
  have hme:=Te.el i es[i] nM[i] (Array.getElem?_eq_getElem hi) (Array.getElem?_eq_getElem Qn);obtain⟨x1,x2⟩:=tu es[i] ζ;rw[Array.getElem?_eq_getElem hi,Array.getElem?_eq_getElem Qn];congr 1;have k1:=x1.eq hme.key;have k2:=x2.eq hme.val;have k3:=hme.born;generalize nM[i]=e' at k1 k2 k3;generalize es[i]=e at k1 k2 k3;obtain⟨a1,a2,a3⟩:=e';obtain⟨b1,b2,b3⟩:=e;dsimp only at k1 k2 k3;subst k1;subst k2;subst k3;rfl;rw[aI (by rw[<-Te.size];omega),aI ω]
 refine h10 k ω (by show k≠B+2;omega) (by show k≠B+4;omega) (by show k≠B+6;omega) ?_;by_cases VK:k=rb;right;show(bn B rb mb).Sh k;unfold Bn.Sh bn;dsimp only;omega;left;refine⟨?_,?_,?_⟩;show k∉ [B,B+1,B+3,B+5,B+7];exact t081;show k∉ [B+3,B+5,B+1,B+7];exact t081;show k∉ [B,B+3,B+7,B+5,rb,mb];exact t081
def Zx:Tp.iU aaY:=GQ κ
def Ua(h:AtGo kd es clock B rb mb w)(hM:Mp.Map w mb P)(tu:∀e∈es.toList,Exact e.key/\Exact e.val):mn prog (Aft kd P B w cs) (gR kd (bn B rb mb) cs) w:=by
 intro hf τ n;have h1:AtGo kd es clock B rb mb (w.re τ n):=⟨h.size,h.hcp,h.hck,h.hJ,h.Lp,h.hR,h.qH,h.hD,h.Lr,h.VK,h.Td,h.rlt,h.mlt⟩;have hM1:Mp.Map (w.re τ n) mb P:=hM.block rfl;have hb:=ZR (ready (cs:=cs) h1 hM1 (λe he=>⟨(tu e he).1.clean,(tu e he).2.clean⟩));refine hb.mono λa' w' ha=>?_;have hA:=amf h1 tu ha;have hA':Aft kd P B w cs a' w':=by obtain⟨iP,M,arr,z,h1,h2,h3,h4,h5,h6,h7,h8⟩:=hA;exact⟨iP,M,arr,z,h1,h2,h3,h4,h5,h6,h7,⟨h8.os,h8.output,h8.size,h8.block⟩⟩
 refine⟨?_,hA'⟩;obtain⟨iP,M,arr,z,rfl,_⟩:=hA';exact⟨⟨rfl,aHU,⟨Zx,hf.1.ady.rest,(λhd=>by cases hd)⟩⟩,rfl⟩
def alO:M14=.seq (cl M14) (cr M14):=rfl
def IT(hM:Mp.Map w mb P)(Td:w.heap[mb]? =some (.map es clock)):∀e∈es.toList,Exact e.key/\Exact e.val:=λe he=>by obtain⟨nM,rh,h1,hF,_⟩:=hM.own;rw[Td]at h1;cases h1;obtain⟨yy,hyy⟩:=hF.reads e he;unfold WideElems.rd at hyy;simp only[Option.bind_eq_some_iff,aS]at hyy;obtain⟨kl,hk,y,hy,_⟩:=hyy;obtain⟨d,_,hd,_⟩:=Lf hk;refine⟨by rw[hd];exact q9 (nX d),?_⟩;rcases Mp.Ko hy with⟨t,ht,_⟩|⟨ht,_⟩;rw[ht];exact GW t;rw[ht];exact J0
def aw7:prog.funcs[45]? =some Tryz.f45:=func45
def adE{B0 c Stop}(K:∀v w',(∃M iP,v=.map (some M)/\(∀p,iP.countP p=P.countP p)/\mN w' B M (ja kd) iP/\B<=M/\Aq B B0 w')->mn prog Stop (mL (c.finish v) cs) w') (hw:Aq B B0 w) {a' w'} (ha:Aft kd P B w (c::cs) a' w'):mn prog Stop a' w':=by
 obtain⟨iP,M,arr,z,rfl,hs,h8,h20,h5,h6,h7,h9⟩:=ha;have K1:=K (.map (some M)) w' ⟨M,iP,rfl,h5,h6,h7,hw.trans h9⟩;refine Tp.iH iy (Tp.iW λτ n=>?_);have K1:mn prog Stop (mL (c.finish (.map (some M))) cs) (w'.re τ n):=K1.re τ n;generalize w'.re τ n=w2 at K1;have e20:∀(ar:Array Value)(d:Nat)(v:Value),d≠20->ar[20]? =some (.tuple #[z,.bool false])->(ar.setIfInBounds d v)[20]? =some (.tuple #[z,.bool false]):=λar d v hd h=>by rw[ah hd];exact h
 unfold aaY;refine Tp.o8 (o:=⟨some 21,.extract (.tmp 20) 1,_,_,_,_⟩) (v:=.bool false) (w':=w2) rfl rfl ?_ ?_;unfold execOp;have:(Act.mk arr []).eval (.tmp 20)=.tuple #[z,.bool false]:=by show arr.getD 20 undef=_;rw[aN,h20];rfl
 simp only[this];rfl;show jk _ _ (bm.at ⟨arr.setIfInBounds 21 (.bool false),[]⟩ _) _ _;refine Tp.iS (gH aqP (ix (t:=false) rfl ?_ (n5 rfl rfl ?_)));show(arr.setIfInBounds 21 (.bool false)).getD 21 undef=_;rw[aN,aj ω];rfl;refine gH alO ?_;refine Ci (s:=0) (r:=[0,1]) rfl rfl ?_;show jk _ _ _ _ _;refine Tp.o8 (o:=⟨some 34,.move (.tmp 8),_,_,_,_⟩) (v:=.map (some M)) (w':=w2) rfl rfl ?_ ?_;unfold execOp;have:(Act.mk (arr.setIfInBounds 21 (.bool false)) []).eval (.tmp 8)=.map (some M):=by show(arr.setIfInBounds 21 (.bool false)).getD 8 undef=_;rw[aN,ah ω,h8];rfl
 simp only[this];rfl;show jk _ _ (bm.at ⟨(arr.setIfInBounds 21 (.bool false)).setIfInBounds 34 (.map (some M)),[]⟩ _) _ _;refine Tp.o8 (o:=⟨some 4,.assign (.tmp 34),_,_,_,_⟩) (v:=.map (some M)) (w':=w2) rfl rfl ?_ ?_;unfold execOp;have:(Act.mk ((arr.setIfInBounds 21 (.bool false)).setIfInBounds 34 (.map (some M))) []).eval (.tmp 34)=.map (some M):=by show((arr.setIfInBounds 21 (.bool false)).setIfInBounds 34 (.map (some M))).getD 34 undef=_;rw[aN,aj aFJ];rfl
 simp only[this];rfl;show jk _ _ (bm.at ⟨((arr.setIfInBounds 21 (.bool false)).setIfInBounds 34 (.map (some M))).setIfInBounds 4 (.map (some M)),[]⟩ _) _ _;have h4:(((arr.setIfInBounds 21 (.bool false)).setIfInBounds 34 (.map (some M))).setIfInBounds 4 (.map (some M)))[4]? =some (.map (some M)):=by rw[aj aFJ]
 generalize((arr.setIfInBounds 21 (.bool false)).setIfInBounds 34 (.map (some M))).setIfInBounds 4 (.map (some M))=ar at h4;refine Tp.iS (iQ step_ret ?_);refine iQ (step_leave_returned (v:=.map (some M)) ⟨rfl,rfl,rfl,_,aw7,?_⟩) (iw K1);refine(fR (t:=4) (fn:=Tryz.f45) rfl _ _ _).trans ?_;show Result.ok (ar.getD 4 undef) w2=_;rw[aN,h4];rfl
def hMa:Ph.M=.seq (cl Ph.M) (cr Ph.M):=rfl
def hMb:cr Ph.M=.seq (cl (cr Ph.M)) (cr (cr Ph.M)):=rfl
def hMc:cr (cr Ph.M)=.seq (cl (cr (cr Ph.M))) (cr (cr (cr Ph.M))):=rfl
def hMd:cr (cr (cr Ph.M))=.seq (cl (cr (cr (cr Ph.M)))) M4:=rfl
def ahG p q:Frame.enter prog 45 #[p,q] .normal=bm.at ⟨#[p,q,undef,undef,undef,undef,undef,undef,undef,undef,undef,undef,undef,undef,undef,undef,undef,undef,undef,undef,undef,undef,undef,undef,undef,undef,undef,undef,undef,undef,undef,undef,undef,undef,undef],[]⟩ [.code Ph.M]:=by unfold Frame.enter;rw[func45];kernel_rfl
def arz{u B}(hs:u.heap.size=B)(hr:∃a b c,u.heap[rb]? =some (.cells #[.map (some mb),a,b,c] 44 (0,0))/\flat a/\flat b/\flat c)(Td:u.heap[mb]? =some (.map es clock))(Qh:rb<B)(Ay:mb<B):AtGo kd es clock B rb mb ((((((((u.alloc (.cells #[.pointer (some ⟨rb,0,none⟩)] 74)).alloc (.cells (iu kd).toArray 89)).alloc (.chan 0 #[] false 0 0 false)).alloc (.cells #[.chan (some (B+2))] 145)).alloc (.chan 0 #[] false 0 0 false)).alloc (.cells #[.chan (some (B+4))] 146)).alloc (.chan 3 #[] false 0 0 false)).alloc (.cells #[.chan (some (B+6))] 147))/\Aq B u ((((((((u.alloc (.cells #[.pointer (some ⟨rb,0,none⟩)] 74)).alloc (.cells (iu kd).toArray 89)).alloc (.chan 0 #[] false 0 0 false)).alloc (.cells #[.chan (some (B+2))] 145)).alloc (.chan 0 #[] false 0 0 false)).alloc (.cells #[.chan (some (B+4))] 146)).alloc (.chan 3 #[] false 0 0 false)).alloc (.cells #[.chan (some (B+6))] 147)):=by
 have hg:∀(x:World)(o:Obj)(k:Nat),(x.alloc o).heap[k]? =if k=x.heap.size then some o else x.heap[k]?:=λx o k=>by show(x.heap.push o)[k]? =_;rw[du]
 obtain⟨a,b,c,h1,h2⟩:=hr;refine⟨⟨by simp only[World.size_alloc,hs],?_,?_,?_,?_,?_,?_,?_,?_,⟨a,b,c,?_,h2⟩,?_,Qh,Ay⟩,rfl,rfl,by simp only[World.size_alloc];omega,λk hk=>?_⟩;all_goals simp only[hg,World.size_alloc,hs]
 all_goals repeat(first|rw[if_neg ω])
 all_goals first|done|exact h1|exact Td|exact if_pos trivial
def Im(kd:List UInt8)(P:List (List UInt8))(rb mb:Nat)(w:World)(hr:∃a b c,w.heap[rb]? =some (.cells #[.map (some mb),a,b,c] 44 (0,0))/\flat a/\flat b/\flat c)(hM:Mp.Map w mb P):kQ prog 45 #[.pointer (some ⟨rb,0,none⟩),.agg (iu kd).toArray] w λv w'=>∃M iP,v=.map (some M)/\(∀p,iP.countP p=P.countP p)/\mN w' w.heap.size M (ja kd) iP/\w.heap.size<=M/\Aq w.heap.size w w':=λc cs Stop K=>by
 have Zh:=hM.lt;have Qh:rb<w.heap.size:=by obtain⟨a,b,c,h1,_⟩:=hr;exact(ae.1 h1).1
 obtain⟨es,clock,Td,_⟩:=hM.own;refine Tp.iH iy (Tp.iW λτ n=>?_);rw[ahG];have hJ:∀u:World,(Instr.makeChan 145 (.int .i64 0)).run prog u=.ok (.chan (some u.heap.size)) (u.alloc (.chan 0 #[] false 0 0 false)):=λu=>by kernel_rfl
 have hR:∀u:World,(Instr.makeChan 146 (.int .i64 0)).run prog u=.ok (.chan (some u.heap.size)) (u.alloc (.chan 0 #[] false 0 0 false)):=λu=>by kernel_rfl
 have hD:∀u:World,(Instr.makeChan 147 (.int .i64 3)).run prog u=.ok (.chan (some u.heap.size)) (u.alloc (.chan 3 #[] false 0 0 false)):=λu=>by kernel_rfl
 refine gH hMa (ib (c':=.region _ _ _) rfl ?_);go_wp2_with fail;show jk _ _ _ _ _;refine gH hMb (ib (c':=.region _ _ _) rfl ?_);go_wp2_with fail;show jk _ _ _ _ _;refine gH hMc (ib (c':=.region _ _ _) rfl ?_);go_wp2_with fail;show jk _ _ _ _ _;refine gH hMd (ib (c':=.region _ _ _) rfl ?_);go_wp2_with fail;show jk _ _ _ _ _;have hs:(w.re τ n).heap.size=w.heap.size:=rfl;rw[hs];obtain⟨hA,hB⟩:=arz (kd:=kd) (u:=w.re τ n) (es:=es) (clock:=clock) hs hr Td Qh Zh;have hM:Mp.Map _ mb P:=hM.block ((hB.block mb Zh).trans rfl);have hB:Aq w.heap.size w _:=⟨hB.os,hB.output,hB.size,hB.block⟩;simp only[aZ,Nat.reduceAdd]at hA hB hM|-;generalize(World.alloc _ _)=w8 at hA hB hM|-;have tu:=IT hM hA.Td;have HA:=η hA;have HB:=η hB;have HM:=η hM;have HC:=η tu;have HK:=η K;clear hA hB hM tu hJ hR hD hr Td K hs;refine gH hM4 (gH awu (ib (c':=.region _ _ _) rfl ?_));go_wp2_with fail;show jk _ _ _ _ _;refine jf awv (nZ awt ?_);refine gH hMX (ib (c':=.region _ _ _) rfl ?_);go_wp2_with fail;show jk _ _ _ _ _;refine gH alN (ix (t:=true) rfl rfl (jz rfl (gH aqR (jf aqQ ?_))));refine m3 1 [1] rfl rfl aFK ?_;show wpList _ _ _ [_] _ _;go_wp2_with fail;show jk _ _ (bm.at _ tG) _ _;exact iw ((Ua (P:=P) (cs:=c::cs) HA.o HM.o HC.o).trans λa' w' ha=>adE (c:=c) (B0:=w) HK.o HB.o ha)
end
end Ph
section
open Go.RowKit iz
open Ph (cb cl cr ci co mN na tO ja)
noncomputable def CM:Code:=cb Tryz.f21
noncomputable def amv:Code:=cr (cr (cr (cr (cr (cr (cr (cr (cr (cr CM)))))))))
def abJ{w B e v l}(h:w.ownsRow B e 1 v l.length (yo l)):sA w v (Cp.ints l):=by by_cases h0:l.length=0;obtain⟨a,c,rfl⟩:=gZ h;have:l=[]:=aR h0;subst this;exact .inl ⟨a,c,rfl,rfl⟩;obtain⟨g,cap,rfl,_,hg,q8⟩:=jQ h ω;refine .inr ⟨g,0,cap,by rw[Cp.pD],hg,λj hj=>?_⟩;rw[Cp.pD]at hj;rw[aC,q8 j ω];unfold yo Cp.ints;rw[aE,ab,aE,ag hj];rfl
def QZ{w g off t}(hr:w.rangeAt g off (gD t)):(Instr.loadAt 78 (.pointer (some ⟨g,off,none⟩))).run prog w=.ok (.agg (gD t).toArray) w:=fV w g off _ (gD t) _ hr fG rfl (by rw[kj,gQ])
def EC{ops rest o a C Q}(hw:Region.wanted o (yielded ops a.tmps)=true) x(ho:o.op=.load 78 x) g off t (hx:a.eval x=.pointer (some ⟨g,off,none⟩)) (hr:∀w,C w->w.rangeAt g off (gD t)) (h:wpQuiet prog ops C Q rest (a.put o.dst (.agg (gD t).toArray))):wpQuiet prog ops C Q (o::rest) a:=by refine vzq hw (λw hC=>?_) h;unfold execOp;simp only[ho,hx,fh,QZ (hr w hC),fi,fj]
def ik.AI{O w w1 w2}(h:ik O w w1)(k:Below w.heap.size w1 w2):ik O w w2:=⟨k.os.trans h.os,k.tape.trans h.tape,k.output.trans h.output,ak h.size k.size,λj hj ho=>(k.block j hj).trans (h.block j hj ho)⟩
def Tw(rb T A:Nat)(k:Nat):Prop:=k=rb∨k=T∨k=A
def Ck(w:World)(rb mb C:Nat)(s:Cp.RS):Prop:=(s=Cp.idle/\kn w rb (xf mb))∨(Cp.IZ s/\∃T mv,kn w rb (n8 mb s.header (.slice (some ⟨T,0,none⟩) s.jX.length s.jX.length) mv)/\Tz.At w T s.jX/\C<=T/\w.ownsRow C 3 1 mv s.missing.length (yo s.missing))
def LA(c:Wr.Cb)(P iP:List (List UInt8))(f:List UInt8->List UInt8)(L0:List (List UInt8))(rb mb A D T M C0 CS B:Nat)(sa:Option Addr)(sc:Nat)(av tv:Value)(w:World) (hT:km w) (vR:1<rb) (jo:Wr.arX c) (hP:∀t∈P,t≠ []/\t.length<=610) (GF:∀p:List UInt8->Bool,iP.countP p=P.countP p) (hR:kn w rb (n8 mb c.header (.slice (some ⟨T,0,none⟩) (c.gA.length+c.gB.length) (c.gA.length+c.gB.length)) (.slice none 0 0))) (hA:Row w A (an 0 [])) (hD:Row w D (cc c.header c.ie (.slice sa c.gA.length sc) av tv)) (hS:w.ownsRow CS 9 1 (.slice sa c.gA.length sc) c.gA.length (wt c.gA)) (hTz:Tz.At w T L0) (hM:mN w B M f iP) (hF:Cp.FI f P c.gB c.gA (c.gA.length+c.gB.length) 0 L0 [] 0) (hrC:rb<C0) (hCA:C0<=A) (aEb:A<CS) (hAT:A<T) (hDT:D<T) (hAD:A<D) (xT:T<B) (hBM:B<=M) (hMw:B<=w.heap.size) (hsT:∀k,Value.ownBlock (.slice sa c.gA.length sc)=some k->k<T) (x1 x2 x3 x5 x7 x8 x9 nz nd od mP m9 m4 n7 rm tI rU qw pN qa xD ym yl yj yh yg yf ye xZ xe xd x35 x36 x37 x38 x39 x40 x41 x42 x43 x44 x45 x46 x47 x48 x49 x50 x51 x52 x53 x54 x55 x56 x57 x58 x59 x60 x61 x62 x63 x64 x65 x66 x67 x68 x69 x70 x71 x72 x73 x74 x75 x76 x77 x78 x79 x80 x81 x82 x83 x84 x85 x86 x87 x88 x89 x90 x91 x92 x93 x94 x95 x96 x97 x98 x99 XG XF XE XD XC XB XA Xz Xy Xx Xv Xu Xt Xs Xr Xq Xp Xo Xn Xm Xl Xk Xj Xi Xh Xg Xe Xd Xc Xb Xa W9 W8 W6 WZ WY WV WU WQ WO WN WM WL WK WJ WI WH WG WE WD WC WB Wz Wy Wx Ww Wv Wu Wt:Value):amv.wp prog (bodyPost prog Tryz.f21 λ|.returned v,w'=>(v=.tuple #[.agg (an (Cp.nC f P c).1.1 (Cp.nC f P c).1.2).toArray,.int .i64 0]/\Ck w' rb mb C0 (Cp.nC f P c).2/\ik (Tw rb T A) w w')|_,_=>False) ⟨List.toArray (.pointer (some ⟨rb,0,none⟩)::x1::x2::x3::.pointer (some ⟨A,0,none⟩)::x5::.pointer (some ⟨D,0,none⟩)::x7::x8::x9::nz::.map (some M)::nd::od::mP::m9::m4::n7::rm::tI::rU::qw::pN::qa::xD::ym::yl::yj::yh::yg::yf::ye::xZ::xe::xd::x35::x36::x37::x38::x39::x40::x41::x42::x43::x44::x45::x46::x47::x48::x49::x50::x51::x52::x53::x54::x55::x56::x57::x58::x59::x60::x61::x62::x63::x64::x65::x66::x67::x68::x69::x70::x71::x72::x73::x74::x75::x76::x77::x78::x79::x80::x81::x82::x83::x84::x85::x86::x87::x88::x89::x90::x91::x92::x93::x94::x95::x96::x97::x98::x99::XG::XF::XE::XD::XC::XB::XA::Xz::Xy::Xx::Xv::Xu::Xt::Xs::Xr::Xq::Xp::Xo::Xn::Xm::Xl::Xk::Xj::Xi::Xh::Xg::Xe::Xd::Xc::Xb::Xa::W9::W8::W6::WZ::WY::WV::WU::WQ::WO::WN::WM::WL::WK::WJ::WI::WH::WG::WE::WD::WC::WB::Wz::Wy::Wx::Ww::Wv::Wu::Wt::[]),[]⟩ w:=by
 have GA:=jo.le;have hn0:=jo.pos;have HR:=η hR;have HA:=η hA;have HD:=η hD;have HS:=η hS;have HTz:=η hTz;have HM:=η hM;have HF:=η hF;have HP:=η hP;have HG:=η GF;have HST:=η hsT;have HT:=η hT;have ES:=η (show Cp.nC f P c=if(Cp.fill f P c.gB (c.gA.length+c.gB.length) 0 c.gA).2=[]then(Cp.finish c.header (Cp.fill f P c.gB (c.gA.length+c.gB.length) 0 c.gA).1,Cp.idle)else((1,Cp.request c.header (Cp.fill f P c.gB (c.gA.length+c.gB.length) 0 c.gA).2),⟨c.header,(Cp.fill f P c.gB (c.gA.length+c.gB.length) 0 c.gA).1,(Cp.fill f P c.gB (c.gA.length+c.gB.length) 0 c.gA).2⟩)from rfl);obtain⟨ans,adb⟩:∃p,Cp.nC f P c=p:=⟨_,rfl⟩;rw[adb]at ES|-;clear hR hA hD hS hTz hM hF hP GF hsT adb hT;have pM:=HR.o.cell 2;rw[show(n8 mb c.header (.slice (some ⟨T,0,none⟩) (c.gA.length+c.gB.length) (c.gA.length+c.gB.length)) (.slice none 0 0))[2]? =some (.slice (some ⟨T,0,none⟩) (c.gA.length+c.gB.length) (c.gA.length+c.gB.length))from rfl]at pM;obtain⟨n,hn⟩:∃n,c.gA.length+c.gB.length=n:=⟨_,rfl⟩;rw[hn]at HR HF ES pM GA hn0;have ayC:c.gA.length<=16:=ω;have HN:=η hn;have Qd:=η (show Cp.nN n c.gB by rw[<-hn];exact jo.gB);clear hn;generalize hQ:bodyPost prog Tryz.f21 _=Q;simp only[amv,CM,Ph.cb,Tryz.f21,cV,Ph.cr];subst hQ;go_wp2_with fail;clear pM;obtain⟨i1,hi1,hq0,hq1,hq2⟩:=fy zO;have HI:=η hi1;clear hi1;go_loopw [12,13,14,95] (λnv jv lv iv wr=>∃(i nx:Nat)(L:List (List UInt8))(ms:List Nat)(mv:Value),i<=n/\iv=.int .i64 i/\nv=.int .i64 nx/\Cp.FI f P c.gB c.gA n i L ms nx/\ms.length<=i/\kn wr rb (n8 mb c.header (.slice (some ⟨T,0,none⟩) n n) mv)/\wr.ownsRow w.heap.size 3 1 mv ms.length (yo ms)/\Tz.At wr T L/\ik (Tw rb T A) w wr/\Row wr A (an 0 [])) (λ_ _ _ iv _=>n-(intOf iv).toNat);exact⟨0,0,L0,[],_,by omega,rfl,rfl,HF.o,by simp,HR.o,fc _ _ _ _,HTz.o,ik.refl _ _,HA.o⟩;obtain⟨i,nx,L,ms,mv,hi,rfl,rfl,hF,Ay,hR,hmo,hTz,hK,hA⟩:=hrel;have F1:=η hF;have R1:=η hR;have M1:=η hmo;have Z1:=η hTz;have K1:=η hK;have A1:=η hA;have ql:=hK.size;have hLl:=hF.len;have Qq:=η hLl;clear hF hR hmo hTz hK hA;by_cases gV:i<n
 ·have p1:(i:Int)< (n:Int):=by omega
  have pM:=R1.o.cell 2;rw[show(n8 mb c.header (.slice (some ⟨T,0,none⟩) n n) mv)[2]? =some (.slice (some ⟨T,0,none⟩) n n)from rfl]at pM;have rC:=Z1.o.bytes i ω;rw[br]at rC;have HY:=η rC;clear hLl;by_cases hz:L.getD i []=[]
  ·have Ax:=F1.o.next Qd.o HN.o.symm gV hz;have p2:(nx:Int)< (c.gA.length:Int):=ω;obtain⟨g,Cc,VD,Zl,hg,q8⟩:=jQ HS.o (by omega:0<c.gA.length);cases VD;have hgT:=HST.o g rfl;have kC:wr.cell? ⟨g,nx,none⟩=some (.string (str (c.gA.getD nx []))):=by rw[<-wtq c.gA nx Ax,<-q8 nx ω];exact fb (w:=w) (K1.o.block g hg aHR)
   have hD2:=(K1.o.row HD.o aHR).cell 2;rw[show(cc c.header c.ie (.slice (some ⟨g,0,none⟩) c.gA.length sc) av tv)[2]? =some (.slice (some ⟨g,0,none⟩) c.gA.length sc)from rfl]at hD2;obtain⟨es,clock,KK,BJ⟩:=HM.o.slot (c.gA.getD nx []);have awp:M<w.heap.size:=(ae.1 BJ.at_).1;have OV:=Ph.Gl (w:=wr) ((K1.o.block M awp aHR).trans BJ.at_) BJ.key (c.gA.getD nx []);have hlo:=K1.o.own BJ.own (λk hk=>by have:=(BJ.own.lt k hk).1;unfold Tw;omega);have hho:=Cp.ahc (f:=f) HG.o (c.gA.getD nx []);have HMI:=η (λh=>F1.o.aku Qd.o HN.o.symm gV hz h);have HHI:=η (λt h=>F1.o.hit (t:=t) Qd.o HN.o.symm gV hz h);obtain⟨s,VI⟩:∃s,c.gA.getD nx []=s:=⟨_,rfl⟩;rw[VI]at kC OV hlo hho HMI HHI;obtain⟨la,lc,hvl⟩:=gZ hlo;rw[hvl]at OV hlo;rw[hz]at rC;have HO:=η hlo;have HH:=η hho;have IM:([]:List UInt8).isEmpty=true:=rfl;have q1:IntKind.i64.wrap ((nx:Int)+1)=((nx+1:Nat):Int):=fF _ ω;clear BJ VI hlo hho hz q8 hvl;obtain⟨gl,Ia⟩:∃gl,(na f iP s).length=gl:=⟨_,rfl⟩;rw[Ia]at OV HO HH;have HGL:=η Ia;clear Ia;by_cases h1:gl=1
   ·subst h1;obtain⟨t,ht⟩:=dF.1 HGL.o;have HF2:=η (HHI.o t (HH.o.2 t ht));have HF3:=η (HH.o.2 t ht);rw[ht]at HO;clear HHI HMI HH HGL ht;obtain⟨g2,c2',hv2,aCR,Th,hta⟩:=Ej (ts:=[t]) HO.o ζ;cases hv2;have qX:wr.rangeAt g2 0 (gD t):=hta 0 ζ;clear HO hta;go_upto_region 24 with fail;have pZ:∀u:gI.Of (λu=>Row u rb (n8 mb c.header (.slice (some ⟨T,0,none⟩) n n) mv)/\u.rangeAt g2 0 (gD t)),u.w.cell? ⟨rb,2,none⟩=some (.slice (some ⟨T,0,none⟩) n n):=λu=>u.h.1.cell 2;haveI iZ:Nonempty (gI.Of (λu=>Row u rb (n8 mb c.header (.slice (some ⟨T,0,none⟩) n n) mv)/\u.rangeAt g2 0 (gD t))):=⟨⟨wr,R1.o.row,qX⟩⟩;refine gI.jl [0,1,2,3,4,5,6,7,8] 1 mixed κ rfl rfl θ ξ rfl (λu=>Row u rb (n8 mb c.header (.slice (some ⟨T,0,none⟩) n n) mv)/\u.rangeAt g2 0 (gD t)) ⟨R1.o.row.drew,qX⟩ ?_;show wpQuiet _ _ _ _ [_,_,_,_,_,_,_,_,_] _;go_big_quiet_step (fail);go_big_quiet_step (fail);go_big_quiet_step (fail);go_big_quiet_step (fail);go_big_quiet_step (fail);go_big_quiet_step (fail);go_big_quiet_step (fail);refine EC (o:=⟨some 126,_,_,_,_,_⟩) rfl _ rfl g2 0 t rfl aFW ?_;go_frame;go_big_quiet_step (fail);refine fe ?_;clear pZ;have hTn:t≠ []:=(HP.o t (Cp.OX (HF3.o))).1;have Z2:=η (show Tz.At wr.drew T L from Z1.o);have R2:=η R1.o.drew;have M2:=η (show wr.drew.ownsRow w.heap.size 3 1 mv ms.length (yo ms)from M1.o);have K2:=η K1.o.drew;have A2:=η A1.o.drew;have Qi:wr.drew.rangeAt g2 0 (gD t):=qX;have hth:=Z2.o.there i (by rw[Qq.o];exact gV);have hlT:=Z2.o.lt;clear Z1 R1 M1 K1 A1 qX;generalize wr.drew=w2 at Z2 R2 M2 K2 A2 Qi hth hlT|-;have Z3:=η (show Tz.At (w2.setCells T (i*33) (gD t)) T (L.set i t)by have:=Z2.o.put i t (by rw[Qq.o];exact gV);rwa[Tz.QH hTn,br]at this);have IQ:=Tz.MV w2 T (i*33) (gD t) w2.heap.size;have R3:=η (R2.o.same (IQ.block rb R2.o.lt ω));have M3:=η (ju M2.o IQ ω);have A3:=η (IQ.row A2.o A2.o.lt ω);have K3:=η (K2.o.trans (ik.lG IQ (.inr (.inl rfl))));have hr4:=rangeAt_of_block Qi (IQ.block g2 (by have:=fQ w2 _ (Qi 0 _ (show(gD t)[0]? =some (.string (str t))from rfl));exact this) ω);refine gI.one 9 _ κ rfl rfl ?_;refine wpList_store_mid rfl _ _ _ rfl T (i*33) (gD t).toArray rfl rfl (by rw[az,gQ,br];exact hth) (kj.trans (by rw[az,gQ])) (by rw[ee];exact iV t) ?_;refine⟨gI.gF ⟨R3.o.row,hr4⟩,?_⟩;refine fg κ ?_ 0;try go_frame
    go_wp2_with fail;go_roundw
    ·exact⟨i+1,nx+1,L.set i t,ms,mv,by omega,by go_num,by go_num,HF2.o,by omega,R3.o,M3.o,Z3.o,K3.o,A3.o⟩
    simp[intOf];omega
   have p3:¬(gl:Int)=1:=by omega
   have HF2:=η (HMI.o (by rw[<-HH.o.1];exact h1));clear HHI HMI HH HGL HO;have Ib:=R1.o.cell 3;obtain⟨ma,mc,rfl⟩:=gZ M1.o;rw[show(n8 mb c.header (.slice (some ⟨T,0,none⟩) n n) (.slice ma ms.length mc))[3]? =some (.slice ma ms.length mc)from rfl]at Ib;have hTw:T<w.heap.size:=ω;have hAw:A<w.heap.size:=ω;have hmx:ms.length<1000:=ω;go_wp2_with (at_builtin;refine wpList_append_own _ rfl _ _ 25 rfl w.heap.size 3 i1 (.int .i64 0) 1 8 fC HI.o hq0 hq1 hq2 rfl ψ _ _ _ rfl (M1.o.alloc _) ⟨wr.heap.size,0,none⟩ 1 1 [.int .i64 (i:Int)] rfl rfl (cell_one_new _ _ _) aF8 ι ω χ ?_;intro XO w3 iM jF _;have mQ:Below w.heap.size wr w3:=((Below.refl w.heap.size wr).alloc ql _).grown jF χ (λk hk=>(M1.o.lt k hk).1);obtain⟨pa,pc,rfl⟩:=gZ iM;have R3:=R1.o.below mQ ω;have rn:=R3.free 3;have avU:=R3.cell 3;have N3:=η iM;have G3:=η mQ;have R3':=η R3;clear iM jF mQ R3)
   go_roundw
   ·exact⟨i+1,nx+1,L,ms++[i],_,by omega,by go_num,by go_num,HF2.o,by rw[ai];simp;omega,R3'.o.set 3 _,by rw[ai,<-yZ];exact iJ (a:=⟨rb,3,none⟩) N3.o _ (by show rb<_;omega),(Z1.o.below G3.o hTw).of_block (ft _ _ _ _ (by show T≠rb;omega)),((K1.o.AI G3.o).set ⟨rb,3,none⟩ _ (.inl rfl)),(A1.o.below G3.o hAw).other (a:=⟨rb,3,none⟩) (show rb≠A by omega) _⟩
   simp[intOf];omega
  have HF2:=η (F1.o.skip Qd.o gV hz);obtain⟨x,IE⟩:∃x,L.getD i []=x:=⟨_,rfl⟩;rw[IE]at rC hz;have iZ:x.isEmpty=false:=by cases x with
   |nil=>exact absurd rfl hz
   |cons a l=>rfl
  clear HY IE hz;go_wp2_with fail;go_roundw
  ·exact⟨i+1,nx,L,ms,mv,by omega,by go_num,rfl,HF2.o,by omega,R1.o,M1.o,Z1.o,K1.o,A1.o⟩
  simp[intOf];omega
 obtain rfl:i=n:=by omega
 have JS:=F1.o.done;have VQ:=Cp.Ad (f:=f) Qd.o HP.o i 0 c.gA;rw[JS]at VQ ES;obtain⟨o1,o2,o3⟩:=VQ;rw[aC]at o3;have OK1:=η o1;have OK2:=η o2;have OK3:=η o3;have TW:=η (K1.o.AL HT.o aHR aHR);obtain⟨ma,mc,rfl⟩:=gZ M1.o;have Ib:=R1.o.cell 3;rw[show(n8 mb c.header (.slice (some ⟨T,0,none⟩) i i) (.slice ma ms.length mc))[3]? =some (.slice ma ms.length mc)from rfl]at Ib;have hAl:=A1.o.lt;have Tu:=Z1.o.lt;have hRl:=R1.o.lt;clear JS o1 o2 o3 hLl HF HTz HR HA HM;by_cases hm:ms=[]
 ·subst hm;have hLn:∀t∈L,t≠ []:=λt ht e=>by obtain⟨j,hj,he⟩:=cR.1 ht;have:=OK2.o j (by rw[<-Qq.o];exact hj) (by rw[ab,ag hj];simpa[e]using he);cases this
  have hto:wr.ownsRow T 78 33 (.slice (some ⟨T,0,none⟩) i i) L.length (il L):=by have:=Z1.o.own (C:=T) ν (by rw[Qq.o];omega);rw[Tz.aaK L hLn]at this;rwa[Qq.o]at this|-
  have T1:=η (Lu rb mb c.header (.slice (some ⟨T,0,none⟩) i i) (.slice ma 0 mc) L T wr TW.o vR R1.o hto OK1.o (by rw[Qq.o];exact hn0) (by rw[Qq.o];exact GA) jo.head ω);have Ul:=η (show ans=(Cp.finish c.header L,Cp.idle)by rw[ES.o,if_pos rfl]);clear hto ES OK1 OK2 OK3 M1 hLn;obtain⟨fa,hfa⟩:∃p,Cp.finish c.header L=p:=⟨_,rfl⟩;rw[hfa]at T1 Ul;obtain⟨k1,bs⟩:=fa;go_wp2_with fail;refine T1.o.mono ?_;clear T1 Ib;rintro e w4⟨rfl,hr4,tA⟩;have rA4:=tA.row A1.o hAl ω;have R4:=η hr4;have K4:=η (K1.o.trans (ik.lG tA (.inl rfl)));clear hr4 tA;go_wp2_with (with_reducible refine gJ (o:=⟨none,_,_,_,_,_⟩) rfl _ _ _ rfl A (an 0 []) (an k1 bs) rfl rfl rA4 (gY.trans rfl) rfl rfl ?_);have S9:=rA4.setRow (an k1 bs);refine bodyPost_ret (v:=.tuple #[.agg (an k1 bs).toArray,.int .i64 0]) (jE rfl _ _ A (an k1 bs) (.int .i64 0) rfl rfl S9 _ underlying49 (gY.trans rfl)) rfl ?_;rw[Ul.o];exact⟨rfl,.inl ⟨rfl,R4.o.gX ω _⟩,K4.o.setRow A _ (.inr (.inr rfl))⟩
 have au9:ms.length≠0:=λe=>hm (aR e);have p4:¬(ms.length:Int)=0:=ω;have Ul:=η (show ans=((1,Cp.request c.header ms),⟨c.header,L,ms⟩)by rw[ES.o,if_neg hm]);have WT:=η (show Cp.IZ ⟨c.header,L,ms⟩from⟨hm,jo.head,by show 0<L.length;rw[Qq.o];exact hn0,by show L.length<=16;rw[Qq.o];exact GA,OK1.o,λj hj he=>by have:=OK2.o j (by rw[<-Qq.o];exact hj) he;rwa[aC]at this,by show En.Ht L.length 0 _;rw[Qq.o];exact OK3.o⟩);clear ES OK1 OK2;go_upto_region 29 with fail;have DK:∀u:gI.Of (λu=>Row u rb (n8 mb c.header (.slice (some ⟨T,0,none⟩) i i) (.slice ma ms.length mc))),u.w.cell? ⟨rb,1,none⟩=some (.string (str c.header)):=λu=>u.h.cell 1;have hu3:∀u:gI.Of (λu=>Row u rb (n8 mb c.header (.slice (some ⟨T,0,none⟩) i i) (.slice ma ms.length mc))),u.w.cell? ⟨rb,3,none⟩=some (.slice ma ms.length mc):=λu=>u.h.cell 3;haveI iZ:Nonempty (gI.Of (λu=>Row u rb (n8 mb c.header (.slice (some ⟨T,0,none⟩) i i) (.slice ma ms.length mc)))):=⟨⟨wr,R1.o.row⟩⟩;refine gI.jl [0,1,2,3,5,6,7,8] 6 mixed κ rfl rfl θ ξ rfl (λu=>Row u rb (n8 mb c.header (.slice (some ⟨T,0,none⟩) i i) (.slice ma ms.length mc))) R1.o.row.drew ?_;show wpQuiet _ _ _ _ [_,_,_,_,_,_,_,_] _;repeat(go_big_quiet_step (fail))
 refine fe ?_;clear DK hu3 Ib;have Z2:=η (show Tz.At wr.drew T L from Z1.o);have R2:=η R1.o.drew;have M2:=η (show wr.drew.ownsRow w.heap.size 3 1 (.slice ma ms.length mc) ms.length (yo ms)from M1.o);have K2:=η K1.o.drew;have A2:=η A1.o.drew;have T2:=η (Sk c.header wr.drew TW.o (by have:=jo.head;omega));have kS:w.heap.size<=wr.drew.heap.size:=ql;have arb:A<wr.drew.heap.size:=hAl;have Pg:T<wr.drew.heap.size:=Tu;have aqK:rb<wr.drew.heap.size:=hRl;clear Z1 R1 M1 K1 A1 ql hAl Tu hRl TW;generalize wr.drew=w2 at Z2 R2 M2 K2 A2 T2 kS arb Pg aqK|-;refine gI.one 4 _ κ rfl rfl ?_;try go_frame
 go_wp2_with fail;refine T2.o.mono ?_;clear T2;rintro e w3⟨rfl,mK⟩;have Z3:=η (Z2.o.below mK Pg);have R3:=η (R2.o.below mK aqK);have M3:=η (gM M2.o mK ν);have K3:=η (K2.o.AI (mK.mono kS));have A3:=η (A2.o.below mK arb);have rn:=mK.size;have hth:=mz c.header;have T3:=η (E9 (Mk.gC c.header) (.slice ma ms.length mc) (Cp.ints ms) i w3 (abJ M3.o) OK3.o ω (by rw[Cp.pD];omega) ω)
 have RQ:=η (show Cp.request c.header ms=Mk.gC c.header++Wr.jT (Cp.ints ms).length++(En.oI 0 (Cp.ints ms)).flatten by rw[Cp.pD];rfl);clear mK Z2 R2 M2 K2 A2 OK3;rw[<-RQ.o]at T3;generalize Cp.request c.header ms=rq at Ul T3;generalize Mk.gC c.header=nm at T3 hth|-;clear RQ;go_wp2_with fail;refine⟨gI.gF R3.o.row,?_⟩;refine gI.one 9 _ κ rfl rfl ?_;try go_frame
 go_wp2_with fail;refine⟨gI.gF R3.o.row,?_⟩;refine gI.one 10 _ κ rfl rfl ?_
 try go_frame
 go_wp2_with fail;refine T3.o.mono ?_;clear T3;rintro e w4⟨rfl,tA⟩;have alR:A<w3.heap.size:=ω
 have Z4:=η (Z3.o.below tA ω);have R4:=η (R3.o.below tA ω);have M4:=η (gM M3.o tA ν);have K4:=η (K3.o.AI (tA.mono ω));have rA4:=A3.o.below tA alR;clear tA Z3 R3 M3 K3 A3;go_wp2_with fail;refine⟨gI.gF R4.o.row,?_⟩;refine gI.one 11 _ κ rfl rfl ?_;refine wZ rfl _ _ rfl 1 rq rfl rfl ?_;refine⟨gI.gF R4.o.row,?_⟩;refine gI.one 12 _ κ rfl rfl ?_;refine gJ rfl _ _ _ rfl A (an 0 []) (an 1 rq) rfl rfl rA4 (gY.trans rfl) rfl rfl ?_;have S9:=rA4.setRow (an 1 rq);have R5:=η (R4.o.gX (g:=A) ω (an 1 rq).toArray);have Z5:=η (Z4.o.of_block (fI w4 A T (an 1 rq).toArray ω));have M5:=η (kB (S:=A) M4.o (an 1 rq).toArray ω);have K5:=η (K4.o.setRow A (an 1 rq).toArray (.inr (.inr rfl)));clear rA4 Z4 R4 M4 K4;generalize World.setRow _ _ _=w5 at S9 R5 Z5 M5 K5|-;refine⟨gI.gF R5.o.row,?_⟩;refine gI.one 13 _ κ rfl rfl ?_;try go_frame
 go_wp2_with fail;refine⟨gI.gF R5.o.row,?_⟩;refine fg κ ?_ 0
 try go_frame
 go_wp2_with fail;refine bodyPost_ret (v:=.tuple #[.agg (an 1 rq).toArray,.int .i64 0]) (jE rfl _ _ A (an 1 rq) (.int .i64 0) rfl rfl S9 _ underlying49 (gY.trans rfl)) rfl ?_;rw[Ul.o];refine⟨rfl,.inr ⟨WT.o,T,_,?_,Z5.o,by omega,lC M5.o ω⟩,K5.o⟩
 have:=R5.o;rwa[<-Qq.o]at this
end
def t012{p:Prop}(h:p:=by
 have ow:∀v,(b.at a (.inRegion ops (i::rest)::k)).finish v=b.at (a.put o.dst v) (.inRegion ops rest::k):=by intro v;rw[Frame.finish_at,ho];rfl
 refine uA hB λτ n=>⟨Frame.enter P f args .normal,b.at a (.inRegion ops (i::rest)::k)::cs,w.re τ n,.one (step_lone_go ?_),?_⟩;rw[stepG_op ho hw];simp[stepG.apply,hr τ n,Frame.at];exact hc _ _ Stop λv w' hR=>by rw[ow];exact K v w' hR):p:=h
section
open Go.RowKit iz Go.Conc
open Ph (cb cl cr ci co mN na tO ja Aq gH ib ix jz Kd nt jf)
open Tp (iT iy Term Ld mL jk iw iQ mn uA iH iW kQ Fit sC)
def Cg{P Stop}{b:Frame}{a k cs w}(hB:iT P){ops i rest o f args R}(ho:ops[i]? =some o)(hg:o.guard=none)(hr:∀τ n,(execOp a.eval o).run P (w.re τ n)=.ok (.enter f args) (w.re τ n))(hc:kQ P f args w R) (K:∀v w',R v w'->mn P Stop (mL (b.at (a.put o.dst v) (.inRegion ops rest::k)) cs) w'):mn P Stop (mL (b.at a (.inRegion ops (i::rest)::k)) cs) w:=by have hw:Region.wanted o (yielded ops a.tmps)=true:=sC hg _;exact t012
structure Hv(B S:Nat)(w w':World):Prop where
 os:w'.os=w.os
 output:w'.output=w.output
 size:w.heap.size<=w'.heap.size
 block:∀k,k<B->k≠S->w'.heap[k]? =w.heap[k]?
noncomputable def C3:Code:=cr (cr (cr CM))
noncomputable def C5:Code:=cr C3
noncomputable def C6:Code:=cr C5
noncomputable def C8:Code:=cr C6
noncomputable def C9:Code:=cr C8
noncomputable def C10:Code:=cr C9
noncomputable def C15:Code:=cr C10
def hC0:CM=.seq (cl CM) (cr CM):=rfl
def hC1:cr CM=.seq (cl (cr CM)) (cr (cr CM)):=rfl
def hC2:cr (cr CM)=.seq (cl (cr (cr CM))) C3:=rfl
def hC3:C3=.seq (cl C3) C5:=rfl
def awV:cl C3=.seq (cl (cl C3)) (cr (cl C3)):=rfl
def hC5:C5=.seq (cl C5) C6:=rfl
def hC6:C6=.seq (cl C6) C8:=rfl
def awU:cl C6=.seq (cl (cl C6)) (cr (cl C6)):=rfl
def hC8:C8=.seq (cl C8) C9:=rfl
def hC9:C9=.seq (cl C9) C10:=rfl
def awX:C10=.seq (cl C10) C15:=rfl
def aq5:cl C10=.seq (cl (cl C10)) (cr (cl C10)):=rfl
def awW:C15=.seq (cl C15) amv:=rfl
noncomputable def cf:Frame:={(default:Frame)with fn:=21,kind:=.normal}
def ahI p q:Frame.enter prog 21 #[p,q] .normal=cf.at ⟨List.toArray (p::q::undef::undef::undef::undef::undef::undef::undef::undef::undef::undef::undef::undef::undef::undef::undef::undef::undef::undef::undef::undef::undef::undef::undef::undef::undef::undef::undef::undef::undef::undef::undef::undef::undef::undef::undef::undef::undef::undef::undef::undef::undef::undef::undef::undef::undef::undef::undef::undef::undef::undef::undef::undef::undef::undef::undef::undef::undef::undef::undef::undef::undef::undef::undef::undef::undef::undef::undef::undef::undef::undef::undef::undef::undef::undef::undef::undef::undef::undef::undef::undef::undef::undef::undef::undef::undef::undef::undef::undef::undef::undef::undef::undef::undef::undef::undef::undef::undef::undef::undef::undef::undef::undef::undef::undef::undef::undef::undef::undef::undef::undef::undef::undef::undef::undef::undef::undef::undef::undef::undef::undef::undef::undef::undef::undef::undef::undef::undef::undef::undef::undef::undef::undef::undef::undef::undef::undef::undef::undef::undef::undef::undef::undef::undef::undef::undef::undef::undef::undef::undef::undef::undef::undef::undef::undef::undef::undef::undef::[]),[]⟩ [.code CM]:=by unfold Frame.enter;rw[func21];kernel_rfl
def aw8:prog.funcs[21]? =some Tryz.f21:=func21
def LB(l:List UInt8)(c:Wr.Cb)(rr:List UInt8)(P:List (List UInt8))(rb mb:Nat)(va vb vc:Value)(w:World)(hT:km w)(hl:l.length<=9223372036854775807)(vR:1<rb)(hR:kn w rb (Rz mb va vb vc))(hM:Mp.Map w mb P)(hmr:mb≠rb)(hP:∀t∈P,t≠ []/\t.length<=610)(hx:Wr.iX l=.ok c rr)(hd:c.gA.Nodup):kQ prog 21 #[.pointer (some ⟨rb,0,none⟩),.string (str l)] w λv w'=>v=.tuple #[.agg (an (Cp.nC (ja (gP.sum (c.header++c.ie))) P c).1.1 (Cp.nC (ja (gP.sum (c.header++c.ie))) P c).1.2).toArray,.int .i64 0]/\Ck w' rb mb w.heap.size (Cp.nC (ja (gP.sum (c.header++c.ie))) P c).2/\Hv w.heap.size rb w w':=λWg cs Stop K=>by
 refine iH iy (iW λτ n=>?_);rw[ahI];have hT0:km (w.re τ n):=hT;have hR0:kn (w.re τ n) rb (Rz mb va vb vc):=hR;have hM0:Mp.Map (w.re τ n) mb P:=hM.block rfl;have hW0:Hv w.heap.size rb w (w.re τ n):=⟨rfl,rfl,ν,λ_ _ _=>rfl⟩;have mJ:(w.re τ n).heap.size=w.heap.size:=rfl;generalize w.re τ n=w0 at hT0 hR0 hM0 hW0 mJ|-;have KK:=η K;have HW0:=η hW0;have HZ0:=η mJ;have HM0:=η hM0;clear hT hR hM K hW0 mJ hM0;have hb:=hR0.lt;have yM:=hT0.lt;have jo:=Wr.Eu hx;have ahk:¬(Lib.compact (sorted c.gA)).length<c.gA.length:=λh=>(zb c.gA).1 h hd;have rA:Row (w0.alloc (.cells (an 0 []).toArray 49)) w0.heap.size (an 0 []):=Row.new w0 _ _;have hB:iL w0.heap.size rb w0 (w0.alloc (.cells (an 0 []).toArray 49)):=(iL.refl _ _ _).alloc ν _;rw[show(an 0 []).toArray=#[Value.int .i64 0,.string (str [])]from rfl]at rA hB;have R1:=η (hR0.alloc (.cells #[Value.int .i64 0,.string (str [])] 49));have HT:=η hT0;have HX:=η hx;have HP:=η hP;clear hT0 hR0 hx hd hP;refine gH hC0 (ib (c':=.region _ _ _) rfl ?_);go_wp2_with fail;show jk _ _ _ _ _;generalize World.alloc _ _=w1 at rA hB R1|-;have f1:=R1.o.free 1;have f2:=R1.o.free 2;have f3:=R1.o.free 3;have c1:=R1.o.cell 1;have c2:=R1.o.cell 2;have c3:=R1.o.cell 3;have R2:=η (Ba R1.o);have A2:=η (((rA.other (show rb≠w0.heap.size by omega) _).other (show rb≠w0.heap.size by omega) _).other (show rb≠w0.heap.size by omega) _:Row (((w1.setCell ⟨rb,1,none⟩ (.string (str []))).setCell ⟨rb,2,none⟩ (.slice none 0 0)).setCell ⟨rb,3,none⟩ (.slice none 0 0)) w0.heap.size _);have B2:=η (((hB.jI 1 _).jI 2 _).jI 3 _:iL w0.heap.size rb w0 (((w1.setCell ⟨rb,1,none⟩ (.string (str []))).setCell ⟨rb,2,none⟩ (.slice none 0 0)).setCell ⟨rb,3,none⟩ (.slice none 0 0)));clear rA hB R1;refine gH hC1 (ib (c':=.region _ _ _) rfl ?_);go_wp2_with fail;show jk _ _ _ _ _;clear f1 f2 f3 c1 c2 c3;generalize World.setCell _ _ _=w2 at R2 A2 B2|-;refine gH hC2 (ib (c':=.region _ _ _) rfl ?_);have T1:=η (nF l w2 (B2.o.AL HT.o yM vR) hl);rw[HX.o]at T1;have hA2:=A2.o.lt;have arY:=η (show rb<w2.heap.size from R2.o.lt);have JV:=R2.o.lt;have HA2:=η hA2;go_wp2_with fail;refine T1.o.mono ?_;clear T1;rintro e w3⟨sv,av,tv,rfl,IG,mK⟩;have IG:Own3 w2.heap.size c sv av tv w3:=IG;have acT:=zG IG;have hd:=Row.new w3 kN 87;have VR:=(Below.refl w3.heap.size w3).alloc ν (.cells kN.toArray 87);have xB:=below_setRow VR ν (cc c.header c.ie sv av tv).toArray;have rn:=mK.size;have R4:=η ((R2.o.below mK JV).below xB ω);have A4:=η ((A2.o.below mK hA2).below xB ω);have B4:=η ((B2.o.trans (iL.gL (mK.mono B2.o.size))).trans (iL.gL (xB.mono ω)));have D4:=η (hd.setRow (cc c.header c.ie sv av tv));have O4:=η (show Own3 w2.heap.size c sv av tv _ from⟨gM IG.1 xB ν,gM IG.2.1 xB ν,gM IG.2.2 xB ν⟩);rw[show kN.toArray=#[Value.string (str []),.string (str []),.slice none 0 0,.slice none 0 0,.slice none 0 0]from rfl]at hd R4 A4 B4 D4 O4;clear mK VR xB R2 A2 B2 IG;go_wp2_with (with_reducible refine gJ (o:=⟨none,_,_,_,_,_⟩) rfl _ _ _ rfl w3.heap.size kN (cc c.header c.ie sv av tv) rfl rfl hd (jC.trans rfl) rfl acT ?_);show jk _ _ _ _ _;clear hd acT;generalize World.setRow _ _ _=w4 at R4 A4 B4 D4 O4|-;obtain⟨D,hD⟩:∃D,w3.heap.size=D:=⟨_,rfl⟩;rw[hD]at D4 rn|-;clear hD;have hD4:=D4.o.lt;obtain⟨sa,sc,rfl⟩:=gZ O4.o.1;have pM:=D4.o.cell 2;rw[show(cc c.header c.ie (.slice sa c.gA.length sc) av tv)[2]? =some (.slice sa c.gA.length sc)from rfl]at pM;have hnn:=jo.le;refine gH hC3 (gH awV (ib (c':=.region _ _ _) rfl ?_));go_wp2_with fail;show jk _ _ _ _ _;refine ix (t:=false) rfl rfl (jz rfl ?_);refine gH hC5 (ib (c':=.region _ _ _) rfl ?_);go_wp2_with fail;refine(xE sa c.gA.length sc w4).mono ?_;rintro e w5⟨rfl,rfl⟩;have oN:Below w4.heap.size w4 (w4.alloc (.cells #[.slice sa c.gA.length sc] 28)):=(Below.refl _ _).alloc ν _;have R5:=η (R4.o.below oN R4.o.lt);have A5:=η (A4.o.below oN A4.o.lt);have D5:=η (D4.o.below oN hD4);have B5:=η (B4.o.trans (iL.gL (oN.mono B4.o.size)));have O5:=η (show Own3 w2.heap.size c (.slice sa c.gA.length sc) av tv _ from⟨gM O4.o.1 oN ν,gM O4.o.2.1 oN ν,gM O4.o.2.2 oN ν⟩);have T5:=η (ze w4.heap.size (.slice sa c.gA.length sc) c.gA ω (w4.alloc (.cells #[.slice sa c.gA.length sc] 28)) w4 ζ aGA (Vb O4.o.1 rfl) oN);clear oN R4 A4 D4 B4 O4 pM;generalize hw5:w4.alloc _=w5 at R5 A5 D5 B5 O5 T5|-;have apg:w5.heap.size=w4.heap.size+1:=by rw[<-hw5];simp
 clear hw5;go_wp2_with fail;refine T5.o.mono ?_;clear T5;rintro e w6⟨zv,rfl,hz,rE⟩;obtain⟨za,zc,rfl⟩:=gZ hz;have ID:(sorted c.gA).length=c.gA.length:=(eA _ _).length_eq;have Z6:=η (show w6.ownsRow w5.heap.size 9 1 (.slice za c.gA.length zc) (sorted c.gA).length (wt (sorted c.gA))by rw[ID];exact hz);have R6:=η (R5.o.below rE R5.o.lt);have A6:=η (A5.o.below rE A5.o.lt);have D6:=η (D5.o.below rE D5.o.lt);have B6:=η (B5.o.trans (iL.gL (rE.mono B5.o.size)));have Q6:=η rE;have agW:=rE.size;clear hz rE R5 A5 D5 B5;go_wp2_with fail;show jk _ _ _ _ _;refine gH hC6 (gH awU (ib (c':=.region _ _ _) rfl ?_));have pZ:∀u:gI.Of (λu=>Row u D (cc c.header c.ie (.slice sa c.gA.length sc) av tv)),u.w.cell? ⟨D,2,none⟩=some (.slice sa c.gA.length sc):=λu=>u.h.cell 2;haveI iZ:Nonempty (gI.Of (λu=>Row u D (cc c.header c.ie (.slice sa c.gA.length sc) av tv))):=⟨⟨w6,D6.o⟩⟩;refine gI.jl [0,3,4,5] 3 mixed κ rfl rfl θ ξ rfl (λu=>Row u D (cc c.header c.ie (.slice sa c.gA.length sc) av tv)) D6.o.drew ?_;show wpQuiet _ _ _ _ [_,_,_,_] _;repeat(go_big_quiet_step (fail))
 refine fe ?_;clear pZ;have R7:=η R6.o.drew;have A7:=η A6.o.drew;have D7:=η D6.o.drew;have B7:=η B6.o.drew;have Q7:=η Q6.o.drew;have akU:w5.heap.size<=w6.drew.heap.size:=agW;have T7:=η (xU w5.heap.size _ (sorted c.gA) w6.drew Z6.o (by rw[ID];omega));clear R6 A6 D6 B6 Q6 Z6;generalize w6.drew=w7 at R7 A7 D7 B7 Q7 T7 akU|-;generalize hq:(Lib.compact (sorted c.gA)).length=q at T7 ahk;clear hq;refine gI.one 1 _ κ rfl rfl ?_;try go_frame
 go_wp2_with fail;refine T7.o.mono ?_;clear T7;rintro e w8⟨ka,kc,rfl,yU⟩;have hD8:D<w5.heap.size:=ω
 have R8:=η (R7.o.below yU ω);have A8:=η (A7.o.below yU ω);have D8:=η (D7.o.below yU hD8);have B8:=η (B7.o.trans (iL.gL (yU.mono (by have:=B7.o.size;have:=A7.o.lt;omega))));have Q8:=Q7.o.trans yU;have O8:=η (show Own3 w2.heap.size c (.slice sa c.gA.length sc) av tv w8 from⟨gM O5.o.1 Q8 ν,gM O5.o.2.1 Q8 ν,gM O5.o.2.2 Q8 ν⟩);have S8:gI.cls (λu=>Row u D (cc c.header c.ie (.slice sa c.gA.length sc) av tv)) w8:=gI.gF D8.o;clear yU R7 A7 D7 B7 Q7 Q8 O5;go_wp2_with fail;refine⟨S8,?_⟩;refine gI.one 2 _ κ rfl rfl ?_;try go_frame
 go_wp2_with fail;refine⟨S8,?_⟩;refine gI.one 6 _ κ rfl rfl ?_
 try go_frame
 go_wp2_with fail;refine⟨S8,?_⟩;refine fg κ ?_ 0
 try go_frame
 show jk _ _ _ _ _;have p1:¬(q:Int)< (c.gA.length:Int):=ω;refine ix (t:=false) rfl (by first|rfl|(show Value.bool _=_;simp[p1])) (jz rfl ?_);clear p1 ahk jo;have jo:=Wr.Eu HX.o;have GA:=jo.le;have hn0:=jo.pos;have hAl:=A8.o.lt;have hDl:=D8.o.lt;have hRl:=R8.o.lt;have hzA:w0.heap.size<D:=by have:=A8.o.lt;omega
 have pV:=D8.o.cell 0;rw[show(cc c.header c.ie (.slice sa c.gA.length sc) av tv)[0]? =some (.string (str c.header))from rfl]at pV;have f1:=R8.o.free 1;have c1:=R8.o.cell 1;refine gH hC8 (ib (c':=.region _ _ _) rfl ?_);go_wp2_with fail;show jk _ _ _ _ _;clear f1 c1 pV;have R9:=η (show kn (w8.setCell ⟨rb,1,none⟩ (.string (str c.header))) rb (n8 mb c.header (.slice none 0 0) (.slice none 0 0))from R8.o.set 1 _);have A9:=η (A8.o.other (a:=⟨rb,1,none⟩) (show rb≠w0.heap.size by omega) (.string (str c.header)));have D9:=η (D8.o.other (a:=⟨rb,1,none⟩) (show rb≠D by omega) (.string (str c.header)));have B9:=η (B8.o.jI 1 (.string (str c.header)));have O9:=η (Bx (a:=⟨rb,1,none⟩) O8.o (.string (str c.header)) (by show rb<_;have:=arY.o;omega));have acE:(w8.setCell ⟨rb,1,none⟩ (.string (str c.header))).heap.size=w8.heap.size:=aGi;have HZ9:=η acE;clear R8 A8 D8 B8 O8 S8 acE;generalize World.setCell _ _ _=w9 at R9 A9 D9 B9 O9 HZ9|-;obtain⟨aa,ac,rfl⟩:=gZ O9.o.2.1;obtain⟨ta,tc,rfl⟩:=gZ O9.o.2.2;have pM:=D9.o.cell 2;rw[show(cc c.header c.ie (.slice sa c.gA.length sc) (.slice aa c.gB.length ac) (.slice ta c.gB.length tc))[2]? =some (.slice sa c.gA.length sc)from rfl]at pM;have Ib:=D9.o.cell 3;rw[show(cc c.header c.ie (.slice sa c.gA.length sc) (.slice aa c.gB.length ac) (.slice ta c.gB.length tc))[3]? =some (.slice aa c.gB.length ac)from rfl]at Ib;have DL:(Instr.makeSlice 42 (.int .i64 ((c.gA.length:Int)+(c.gB.length:Int))) (.int .i64 ((c.gA.length:Int)+(c.gB.length:Int)))).run prog w9=.ok (.slice (some ⟨w9.heap.size,0,none⟩) (c.gA.length+c.gB.length) (c.gA.length+c.gB.length)) (w9.alloc (.cells (Tz.Cm (List.replicate (c.gA.length+c.gB.length) [])).toArray 78)):=by have:=Tz.ab6 w9 (c.gA.length+c.gB.length) ω;rwa[show((c.gA.length+c.gB.length:Nat):Int)=(c.gA.length:Int)+(c.gB.length:Int)by omega]at this
 have R10:=R9.o.alloc (.cells (Tz.Cm (List.replicate (c.gA.length+c.gB.length) [])).toArray 78);have f2:=R10.free 2;have c2:=R10.cell 2;refine gH hC9 (ib (c':=.region _ _ _) rfl ?_);go_wp2_with fail;show jk _ _ _ _ _;clear f2 c2 pM Ib DL R10;have R11:=η (show kn ((w9.alloc (.cells (Tz.Cm (List.replicate (c.gA.length+c.gB.length) [])).toArray 78)).setCell ⟨rb,2,none⟩ (.slice (some ⟨w9.heap.size,0,none⟩) (c.gA.length+c.gB.length) (c.gA.length+c.gB.length))) rb (n8 mb c.header (.slice (some ⟨w9.heap.size,0,none⟩) (c.gA.length+c.gB.length) (c.gA.length+c.gB.length)) (.slice none 0 0))from(R9.o.alloc (.cells (Tz.Cm (List.replicate (c.gA.length+c.gB.length) [])).toArray 78)).set 2 (.slice (some ⟨w9.heap.size,0,none⟩) (c.gA.length+c.gB.length) (c.gA.length+c.gB.length)));have A11:=η ((A9.o.alloc (.cells (Tz.Cm (List.replicate (c.gA.length+c.gB.length) [])).toArray 78)).other (a:=⟨rb,2,none⟩) (show rb≠w0.heap.size by omega) (.slice (some ⟨w9.heap.size,0,none⟩) (c.gA.length+c.gB.length) (c.gA.length+c.gB.length)));have D11:=η ((D9.o.alloc (.cells (Tz.Cm (List.replicate (c.gA.length+c.gB.length) [])).toArray 78)).other (a:=⟨rb,2,none⟩) (show rb≠D by omega) (.slice (some ⟨w9.heap.size,0,none⟩) (c.gA.length+c.gB.length) (c.gA.length+c.gB.length)));have aw2:=A9.o.lt;have aq3:=D9.o.lt;have B11:=η ((B9.o.alloc ω (.cells (Tz.Cm (List.replicate (c.gA.length+c.gB.length) [])).toArray 78)).jI 2 (.slice (some ⟨w9.heap.size,0,none⟩) (c.gA.length+c.gB.length) (c.gA.length+c.gB.length)));have O11:=η (show Own3 w2.heap.size c (.slice sa c.gA.length sc) (.slice aa c.gB.length ac) (.slice ta c.gB.length tc) ((w9.alloc (.cells (Tz.Cm (List.replicate (c.gA.length+c.gB.length) [])).toArray 78)).setCell ⟨rb,2,none⟩ (.slice (some ⟨w9.heap.size,0,none⟩) (c.gA.length+c.gB.length) (c.gA.length+c.gB.length)))from by have:Own3 w2.heap.size c (.slice sa c.gA.length sc) (.slice aa c.gB.length ac) (.slice ta c.gB.length tc) (w9.alloc (.cells (Tz.Cm (List.replicate (c.gA.length+c.gB.length) [])).toArray 78)):=⟨O9.o.1.alloc _,O9.o.2.1.alloc _,O9.o.2.2.alloc _⟩;exact Bx (a:=⟨rb,2,none⟩) this (.slice (some ⟨w9.heap.size,0,none⟩) (c.gA.length+c.gB.length) (c.gA.length+c.gB.length)) (by show rb<_;have:=arY.o;omega));have Z11:=η (show Tz.At ((w9.alloc (.cells (Tz.Cm (List.replicate (c.gA.length+c.gB.length) [])).toArray 78)).setCell ⟨rb,2,none⟩ (.slice (some ⟨w9.heap.size,0,none⟩) (c.gA.length+c.gB.length) (c.gA.length+c.gB.length))) w9.heap.size (List.replicate (c.gA.length+c.gB.length) [])from by have:=World.alloc_heap_new w9 (.cells (Tz.Cm (List.replicate (c.gA.length+c.gB.length) [])).toArray 78);exact(ft _ _ _ _ (by show w9.heap.size≠rb;have:=R9.o.lt;omega)).trans this);have OL:=η (show∀k,(Value.slice sa c.gA.length sc).ownBlock=some k∨(Value.slice aa c.gB.length ac).ownBlock=some k∨(Value.slice ta c.gB.length tc).ownBlock=some k->k<w9.heap.size from λk hk=>by rcases hk with hk|hk|hk;exact(O9.o.1.lt k hk).2;exact(O9.o.2.1.lt k hk).2;exact(O9.o.2.2.lt k hk).2);have VH:((w9.alloc (.cells (Tz.Cm (List.replicate (c.gA.length+c.gB.length) [])).toArray 78)).setCell ⟨rb,2,none⟩ (.slice (some ⟨w9.heap.size,0,none⟩) (c.gA.length+c.gB.length) (c.gA.length+c.gB.length))).heap.size=w9.heap.size+1:=aGi;have auS:=R9.o.lt;clear R9 A9 D9 B9 O9;generalize World.setCell _ _ _=w11 at R11 A11 D11 B11 O11 Z11 VH|-;obtain⟨T,hTe⟩:∃T,w9.heap.size=T:=⟨_,rfl⟩;rw[hTe]at R11 Z11 OL VH aw2 aq3 auS|-;clear hTe;have aEy:=η VH;have Tu:=Z11.o.lt;clear VH;have Ib:=D11.o.cell 3;rw[show(cc c.header c.ie (.slice sa c.gA.length sc) (.slice aa c.gB.length ac) (.slice ta c.gB.length tc))[3]? =some (.slice aa c.gB.length ac)from rfl]at Ib;refine gH awX (gH aq5 (ib (c':=.region _ _ _) rfl ?_));go_wp2_with fail;show jk _ _ _ _ _;clear Ib;refine ib (c':=.block _ (.loop _)) rfl ?_;go_wp2_with fail;go_loopw [9,10,64] (λjv pv iv wr=>∃i:Nat,i<=c.gB.length/\iv=.int .i64 i/\Tz.At wr T (Cp.put (List.replicate (c.gA.length+c.gB.length) []) ((zE c.gB).take i) ((wN c.gB).take i))/\ik (λk=>k=T) w11 wr) (λ_ _ iv _=>c.gB.length-(intOf iv).toNat);exact⟨0,by omega,rfl,by simpa[Cp.put]using Z11.o,ik.refl _ _⟩;obtain⟨i,hi,rfl,hZ,hK⟩:=hrel;have Z1:=η hZ;have K1:=η hK;clear hZ hK;have Mq:(zE c.gB).length=c.gB.length:=bk _;have Qj:(wN c.gB).length=c.gB.length:=bk _;by_cases gV:i<c.gB.length
 ·have p1:(i:Int)< (c.gB.length:Int):=by omega
  obtain⟨ga,ca',hva,avz,hga,ac9⟩:=jQ O11.o.2.1 (by omega:0<c.gB.length);cases hva;have aCK:=OL.o ga (.inr (.inl rfl));obtain⟨gt,ct',hvt,avu,hgt,ao8⟩:=Ej (ts:=wN c.gB) (by rw[Qj];exact O11.o.2.2) (by rw[Qj];omega);rw[Qj]at hvt;cases hvt;have aCB:=OL.o gt (.inr (.inr rfl));have BL:((zE c.gB).getD i 0,(wN c.gB).getD i [])∈c.gB:=by
   have e1:(zE c.gB).getD i 0=c.gB[i].1:=by rw[ab,ag ω];simp[zE]
   have e2:(wN c.gB).getD i []=c.gB[i].2:=by rw[ab,ag ω];simp[wN]
   rw[e1,e2];exact bq gV
  have hwn:=jo.gB.lt _ BL;have htn:=(jo.gB.full _ BL).1;have hca:wr.cell? ⟨ga,i,none⟩=some (.int .i64 (((zE c.gB).getD i 0:Nat):Int)):=by have e:=ac9 i ω;rw[fb (w:=w11) (K1.o.block ga hga ω),e];unfold yo;rw[aE,ab,ag ω];rfl
  have IF:wr.rangeAt gt (i*33) (gD ((wN c.gB).getD i [])):=by have:=rangeAt_of_block (ao8 i ω) (K1.o.block gt hgt ω);rwa[br]at this
  have xy:=Cp.Fu (zE c.gB) (wN c.gB) (List.replicate (c.gA.length+c.gB.length) []) i ω ω;have R1:=η (R11.o.same (K1.o.block rb R11.o.lt ω));have D1:=η (K1.o.row D11.o ω);obtain⟨wi,hwi⟩:∃wi,(zE c.gB).getD i 0=wi:=⟨_,rfl⟩;obtain⟨t,hte⟩:∃t,(wN c.gB).getD i []=t:=⟨_,rfl⟩;rw[hwi]at hwn hca xy;rw[hte]at htn IF xy;dsimp only at hwn htn;have HPS:=η xy;have hLl:=η (Cp.qP ((zE c.gB).take i) ((wN c.gB).take i) (List.replicate (c.gA.length+c.gB.length) []));have p2:(wi:Int)< ((c.gA.length:Int)+(c.gB.length:Int)):=ω;have p3:(wi:Int)< ((c.gA.length+c.gB.length:Nat):Int):=ω;clear BL xy hwi hte ac9 ao8 Mq Qj;go_upto_region 13 with fail;have pZ:∀u:gI.Of (λu=>Row u rb (n8 mb c.header (.slice (some ⟨T,0,none⟩) (c.gA.length+c.gB.length) (c.gA.length+c.gB.length)) (.slice none 0 0))/\Row u D (cc c.header c.ie (.slice sa c.gA.length sc) (.slice (some ⟨ga,0,none⟩) c.gB.length ac) (.slice (some ⟨gt,0,none⟩) c.gB.length tc))/\u.rangeAt gt (i*33) (gD t)),u.w.cell? ⟨rb,2,none⟩=some (.slice (some ⟨T,0,none⟩) (c.gA.length+c.gB.length) (c.gA.length+c.gB.length)):=λu=>u.h.1.cell 2;have hu4:∀u:gI.Of (λu=>Row u rb (n8 mb c.header (.slice (some ⟨T,0,none⟩) (c.gA.length+c.gB.length) (c.gA.length+c.gB.length)) (.slice none 0 0))/\Row u D (cc c.header c.ie (.slice sa c.gA.length sc) (.slice (some ⟨ga,0,none⟩) c.gB.length ac) (.slice (some ⟨gt,0,none⟩) c.gB.length tc))/\u.rangeAt gt (i*33) (gD t)),u.w.cell? ⟨D,4,none⟩=some (.slice (some ⟨gt,0,none⟩) c.gB.length tc):=λu=>u.h.2.1.cell 4;haveI iZ:Nonempty (gI.Of (λu=>Row u rb (n8 mb c.header (.slice (some ⟨T,0,none⟩) (c.gA.length+c.gB.length) (c.gA.length+c.gB.length)) (.slice none 0 0))/\Row u D (cc c.header c.ie (.slice sa c.gA.length sc) (.slice (some ⟨ga,0,none⟩) c.gB.length ac) (.slice (some ⟨gt,0,none⟩) c.gB.length tc))/\u.rangeAt gt (i*33) (gD t))):=⟨⟨wr,R1.o.row,D1.o,IF⟩⟩;refine gI.jl [0,1,2,3,4,5,6,7,8,9,10] 1 mixed κ rfl rfl θ ξ rfl (λu=>Row u rb (n8 mb c.header (.slice (some ⟨T,0,none⟩) (c.gA.length+c.gB.length) (c.gA.length+c.gB.length)) (.slice none 0 0))/\Row u D (cc c.header c.ie (.slice sa c.gA.length sc) (.slice (some ⟨ga,0,none⟩) c.gB.length ac) (.slice (some ⟨gt,0,none⟩) c.gB.length tc))/\u.rangeAt gt (i*33) (gD t)) ⟨R1.o.row.drew,D1.o.drew,IF⟩ ?_;show wpQuiet _ _ _ _ [_,_,_,_,_,_,_,_,_,_,_] _;iterate 9 (go_big_quiet_step (fail))
  refine EC (o:=⟨some 78,_,_,_,_,_⟩) rfl _ rfl gt (i*33) t rfl (λw hw=>by obtain⟨u,rfl⟩:=hw;exact u.h.2.2) ?_;go_frame;go_big_quiet_step (fail);refine fe ?_;clear pZ hu4;have Z2:=η (show Tz.At wr.drew T (Cp.put (List.replicate (c.gA.length+c.gB.length) []) ((zE c.gB).take i) ((wN c.gB).take i))from Z1.o);have K2:=η K1.o.drew;have R2:=η R1.o.drew;have D2:=η D1.o.drew;have Qi:wr.drew.rangeAt gt (i*33) (gD t):=IF;have Ia:gt<wr.drew.heap.size:=fQ wr.drew _ (Qi 0 _ (show(gD t)[0]? =some (.string (str t))from rfl));clear Z1 K1 R1 D1 IF hca;generalize wr.drew=w2' at Z2 K2 R2 D2 Qi Ia|-;have hlen:(Cp.put (List.replicate (c.gA.length+c.gB.length) []) ((zE c.gB).take i) ((wN c.gB).take i)).length=c.gA.length+c.gB.length:=by rw[hLl.o,bD]
  have hth:=Z2.o.there wi (by rw[hlen];exact hwn);have Z3:=η (show Tz.At (w2'.setCells T (wi*33) (gD t)) T (Cp.put (List.replicate (c.gA.length+c.gB.length) []) ((zE c.gB).take (i+1)) ((wN c.gB).take (i+1)))by have:=Z2.o.put wi t (by rw[hlen];exact hwn);rw[Tz.QH htn,br,<-HPS.o]at this;exact this);have IQ:=Tz.MV w2' T (wi*33) (gD t) w2'.heap.size;have R3:=IQ.row R2.o.row R2.o.lt ω;have D3:=IQ.row D2.o D2.o.lt ω;have hr4:=rangeAt_of_block Qi (IQ.block gt Ia ω);have K3:=η (K2.o.trans (ik.lG IQ rfl));clear hlen;refine gI.one 11 _ κ rfl rfl ?_;refine wpList_store_mid rfl _ _ _ rfl T (wi*33) (gD t).toArray rfl rfl (by rw[az,gQ,br];exact hth) (kj.trans (by rw[az,gQ])) (by rw[ee];exact iV t) ?_;refine⟨gI.gF ⟨R3,D3,hr4⟩,?_⟩;clear R3 D3 hr4 hth IQ;refine fg κ ?_ 0;try go_frame
  go_wp2_with fail;go_roundw
  ·exact⟨i+1,by omega,by go_num,Z3.o,K3.o⟩
  simp[intOf];omega
 obtain rfl:i=c.gB.length:=by omega
 have Z2:=η (show Tz.At wr T (Cp.put (List.replicate (c.gA.length+c.gB.length) []) (zE c.gB) (wN c.gB))by have:=Z1.o;rwa[au (by rw[Mq];exact ν),au (by rw[Qj];exact ν)]at this);clear Z1 Mq Qj;go_wp2_with fail;show jk _ _ _ _ _;have R12:=η (R11.o.same (K1.o.block rb R11.o.lt ω));have D12:=η (K1.o.row D11.o ω);have A12:=η (K1.o.row A11.o ω);have N12:=η (show Hv w0.heap.size rb w0 wr from⟨K1.o.os.trans B11.o.os,K1.o.output.trans B11.o.output,ak B11.o.size K1.o.size,λk hk iZ=>(K1.o.block k (by have:=B11.o.size;omega) ω).trans (B11.o.block k hk iZ)⟩);have T12:=η (K1.o.AL (B11.o.AL HT.o yM vR) ω ω);have S12:=η (K1.o.own O11.o.1 (λk hk=>by have:=OL.o k (.inl hk);omega));have aiJ:=K1.o.size;clear R11 D11 A11 B11 K1 O11;refine gH awW (Kd (S:=gI.cls (λu=>Row u D (cc c.header c.ie (.slice sa c.gA.length sc) (.slice aa c.gB.length ac) (.slice ta c.gB.length tc)))) (s:=8) (t:=9) (fo:=#[_,_,_,_,_,_,_,_,⟨none,.move (.const undef),_,_,_,none⟩,⟨none,.move (.const undef),_,_,_,none⟩]) rfl mixed κ κ κ rfl rfl rfl ?_);have Av:∀u:gI.Of (λu=>Row u D (cc c.header c.ie (.slice sa c.gA.length sc) (.slice aa c.gB.length ac) (.slice ta c.gB.length tc))),u.w.cell? ⟨D,0,none⟩=some (.string (str c.header)):=λu=>u.h.cell 0;have DK:∀u:gI.Of (λu=>Row u D (cc c.header c.ie (.slice sa c.gA.length sc) (.slice aa c.gB.length ac) (.slice ta c.gB.length tc))),u.w.cell? ⟨D,1,none⟩=some (.string (str c.ie)):=λu=>u.h.cell 1;haveI iZ:Nonempty (gI.Of (λu=>Row u D (cc c.header c.ie (.slice sa c.gA.length sc) (.slice aa c.gB.length ac) (.slice ta c.gB.length tc)))):=⟨⟨wr,D12.o⟩⟩;refine gI.E8 [0,1,2,3,4,5,6] 3 aFU κ aFU aGj ξ aFU (gI.gF (show Row _ D (cc c.header c.ie (.slice sa c.gA.length sc) (.slice aa c.gB.length ac) (.slice ta c.gB.length tc))from D12.o)) ?_;show wpQuiet _ _ _ _ [_,_,_,_,_,_,_] _;repeat(go_big_quiet_step (fail))
 refine fe ?_;clear Av DK;have R13:=η R12.o.drew;have D13:=η D12.o.drew;have A13:=η A12.o.drew;have N13:=η (show Hv w0.heap.size rb w0 wr.drew from⟨N12.o.os,N12.o.output,N12.o.size,N12.o.block⟩);have T13:=η (show km wr.drew from T12.o);have S13:=η (show wr.drew.ownsRow w2.heap.size 9 1 (.slice sa c.gA.length sc) c.gA.length (wt c.gA)from S12.o);have Z13:=η (show Tz.At wr.drew T (Cp.put (List.replicate (c.gA.length+c.gB.length) []) (zE c.gB) (wN c.gB))from Z2.o);have aph:w11.heap.size<=wr.drew.heap.size:=aiJ;have T1:=η (Ot c.header c.ie wr.drew T13.o (by have:=jo.head;have:=jo.ie;omega));clear R12 D12 A12 N12 T12 S12 Z2 aiJ;show wpAnyH _ _ _ _ _ _ _ _ wr.drew;generalize wr.drew=w13 at R13 D13 A13 N13 T13 S13 Z13 aph T1|-;have awM:=D13.o.lt;have alR:=A13.o.lt;have awj:=R13.o.lt;have awd:=Z13.o.lt;refine gI.one 7 _ κ rfl rfl ?_;try go_frame
 go_wp2_with fail;refine T1.o.mono ?_;clear T1;rintro e w14⟨rfl,DQ⟩;have R14:=η (R13.o.below DQ awj);have D14:=η (D13.o.below DQ awM);have A14:=η (A13.o.below DQ alR);have Z14:=η (Z13.o.below DQ awd);have S14:=η (gM S13.o DQ ν);have T14:=η (T13.o.below DQ ω)
 have aBy:=DQ.size;have N14:=η (show Hv w0.heap.size rb w0 w14 from⟨DQ.os.trans N13.o.os,DQ.output.trans N13.o.output,ak N13.o.size DQ.size,λk hk iZ=>(DQ.block k (by have:=N13.o.size;omega)).trans (N13.o.block k hk iZ)⟩);clear DQ R13 D13 A13 Z13 S13 T13 N13;have ahq:gI.cls (λu=>Row u D (cc c.header c.ie (.slice sa c.gA.length sc) (.slice aa c.gB.length ac) (.slice ta c.gB.length tc))) w14:=gI.gF D14.o;generalize hkd:gP.sum (c.header++c.ie)=kd at KK|-;clear hkd;go_wp2_with fail;refine⟨ahq,?_⟩;refine gI.one 8 _ κ rfl rfl ?_;try go_frame
 go_wp2_with fail;refine⟨ahq,?_⟩;refine gI.one 9 _ κ rfl rfl ?_
 try go_frame
 go_wp2_with fail;refine⟨ahq,?_⟩;refine fg κ ?_ 0
 show jk _ _ _ _ _;clear ahq;have Zh:=HM0.o.lt;have alO:Mp.Map w14 mb P:=HM0.o.block (N14.o.block mb Zh hmr);have hSC:=Ph.Im kd P rb mb w14 ⟨_,_,_,R14.o,trivial,trivial,trivial⟩ alO;refine iw (Cg iy (i:=8) rfl rfl ?_ hSC λv w15 auW=>?_);intro τ' n';kernel_rfl;obtain⟨M,iP,rfl,GF,hO,hBM,ahv⟩:=auW;have aoU:=ahv.size;refine iH iy (iW λτ' n'=>?_);have hs:(w15.re τ' n').heap=w15.heap:=rfl;have mQ:∀k,k<w14.heap.size->(w15.re τ' n').heap[k]? =w14.heap[k]?:=λk hk=>ahv.block k hk;have O15:mN (w15.re τ' n') w14.heap.size M (ja kd) iP:=hO;have R15:=R14.o.same (mQ rb ω);have D15:=D14.o.of_block (mQ D ω);have A15:=A14.o.of_block (mQ _ ω);have Z15:=Z14.o.of_block (mQ T ω);have S15:(w15.re τ' n').ownsRow w2.heap.size 9 1 (.slice sa c.gA.length sc) c.gA.length (wt c.gA):=by refine⟨S14.o.1,?_⟩;rcases S14.o.2 with h|⟨g,cap,cur,e,e1,e2,e3⟩;exact .inl h;exact .inr ⟨g,cap,cur,e,e1,by rw[mQ g (ae.1 e2).1];exact e2,e3⟩
 have T15:km (w15.re τ' n'):=⟨T14.o.1.of_block (mQ 0 ω),T14.o.2.of_block (mQ 1 ω)⟩;have N15:Hv w0.heap.size rb w0 (w15.re τ' n'):=⟨ahv.os.trans N14.o.os,ahv.output.trans N14.o.output,ak N14.o.size aoU,λk hk iZ=>(mQ k (by have:=N14.o.size;omega)).trans (N14.o.block k hk iZ)⟩;have hzw:w14.heap.size<=(w15.re τ' n').heap.size:=aoU;have aw4:w0.heap.size<w2.heap.size:=HA2.o;generalize w15.re τ' n'=w16 at O15 R15 D15 A15 Z15 S15 T15 N15 hzw|-;refine Tp.o8 (o:=⟨some 11,.assign (.tmp 89),_,_,_,_⟩) (v:=.map (some M)) (w':=w16) rfl rfl rfl ?_;refine Tp.iS ?_;have hF:Cp.FI (ja kd) P c.gB c.gA (c.gA.length+c.gB.length) 0 (Cp.put (List.replicate (c.gA.length+c.gB.length) []) (zE c.gB) (wN c.gB)) [] 0:=by
  refine⟨by rw[Cp.qP,bD],λj _ hj=>?_,by simp,by rw[Cp.PJ],cI _⟩;have:=Cp.Fv c.gB (List.replicate (c.gA.length+c.gB.length) []) j jo.gB.up (λp hp=>by rw[bD];exact jo.gB.lt p hp) (by rw[bD];exact hj);have e0:(List.replicate (c.gA.length+c.gB.length) ([]:List UInt8)).getD j []=[]:=by rw[ab,cE,if_pos hj];rfl
  rw[e0]at this;exact this
 refine nt aw8 rfl rfl (LA c P iP (ja kd) _ rb mb w0.heap.size D T M w0.heap.size w2.heap.size w14.heap.size sa sc _ _ w16 T15 vR jo HP.o GF R15 A15 D15 S15 Z15 O15 hF hb ν aw4 ω aq3 hzA ω hBM hzw (λk hk=>OL.o k (.inl hk)) _ _ _ _ _ _ _ _ _ _ _ _ _ _ _ _ _ _ _ _ _ _ _ _ _ _ _ _ _ _ _ _ _ _ _ _ _ _ _ _ _ _ _ _ _ _ _ _ _ _ _ _ _ _ _ _ _ _ _ _ _ _ _ _ _ _ _ _ _ _ _ _ _ _ _ _ _ _ _ _ _ _ _ _ _ _ _ _ _ _ _ _ _ _ _ _ _ _ _ _ _ _ _ _ _ _ _ _ _ _ _ _ _ _ _ _ _ _ _ _ _ _ _ _ _ _ _ _ _ _ _ _ _ _ _ _ _ _ _ _ _ _ _ _ _ _ _ _ _ _ _ _ _ _ _) λv w' hv=>?_;obtain⟨e1,e2,e3⟩:=hv;refine iw (KK.o v w' ⟨e1,by rw[<-HZ0.o];exact e2,?_⟩);have W0:=HW0.o;exact⟨e3.os.trans (N15.os.trans W0.os),e3.output.trans (N15.output.trans W0.output),ak W0.size (ak N15.size e3.size),λk hk iZ=>(e3.block k (by have:=N15.size;have:=HZ0.o;omega) (by have:=HZ0.o;unfold Tw;omega)).trans ((N15.block k (by have:=HZ0.o;omega) iZ).trans (W0.block k hk iZ))⟩
end
section
open Go.RowKit iz Go.Conc
open Ph (ja)
open Tp (iy kQ nY)
def Io h n:ja (gP.sum (h++n))=En.short h n:=by funext t;rfl
def Hv.lG{B S w w' w0}(h:iL B S w w')(ho:w.os=w0.os)(hu:w.output=w0.output)(hh:w.heap=w0.heap):Hv B S w0 w':=⟨h.os.trans ho,h.output.trans hu,hh▸h.size,λk hk hs=>hh▸h.block k hk hs⟩
def Hd(l:List UInt8)(P:List (List UInt8))(rb mb:Nat)(va vb vc:Value)(w:World)(hT:km w)(hl:l.length<=9223372036854775807)(vR:1<rb)(hR:kn w rb (Rz mb va vb vc))(hM:Mp.Map w mb P)(hmr:mb≠rb)(hP:∀t∈P,t≠ []/\t.length<=610):kQ prog 21 #[.pointer (some ⟨rb,0,none⟩),.string (str l)] w λv w'=>v=.tuple #[.agg (an (Cp.compact P l).1.1 (Cp.compact P l).1.2).toArray,.int .i64 ((Cp.compact P l).2.1:Int)]/\Ck w' rb mb w.heap.size (Cp.compact P l).2.2/\Hv w.heap.size rb w w':=by
 cases hx:Wr.iX l with
 |bad n=>
 refine nY iy λτ k=>?_;refine Calls.mono (PG l n rb mb va vb vc (w.re τ k) hT hl vR hR hx) λe w' h=>?_;obtain⟨rfl,hr,hb⟩:=h;have e1:Cp.compact P l=((0,[]),n,Cp.idle):=by unfold Cp.compact;rw[hx]
 rw[e1];exact⟨rfl,.inl ⟨rfl,hr⟩,Hv.lG hb rfl rfl rfl⟩|ok c rr=>
 by_cases hd:c.gA.Nodup;refine kQ.mono (LB l c rr P rb mb va vb vc w hT hl vR hR hM hmr hP hx hd) λv w' h=>?_;rw[Cp.Hc hx hd,<-Io];exact h;refine nY iy λτ k=>?_;refine Calls.mono (PF l c rr rb mb va vb vc (w.re τ k) hT hl vR hR hx hd) λe w' h=>?_;obtain⟨rfl,hr,hb⟩:=h;have e1:Cp.compact P l=((3,[]),0,Cp.idle):=by unfold Cp.compact;rw[hx];simp only[hd,not_false_eq_true,if_true]
 rw[e1];exact⟨rfl,.inl ⟨rfl,hr⟩,Hv.lG hb rfl rfl rfl⟩
end
