import Derived.Test.YtlpcjiollnnmgaaGreatDoorM06
import Derived.Conc.EventLaws
set_option maxRecDepth 100000
set_option maxHeartbeats 8000000
set_option linter.all false
namespace Go.Proofs.YtlpcjiollnnmgaaGreatDoor
namespace Rn
open Go.Conc
open Tp (cO Term Ld)
section
variable{P:Program}{E:Env}{X:List Nat}
def RH{g}(h:yz g) b w:(∃o w' es,stepG P b g w=.ended o w' es)∨∃g1 w1 es,stepG P b g w=.go g1 w1 es/\Bad g1:=by
 obtain⟨fr,cs,st,dy,off⟩:=g;obtain⟨h1,h2,⟨h3,h4⟩,h5⟩:=h;obtain rfl:dy=none:=h2;replace h3:fr.defers=[]:=h3;rcases h5 with⟨ch,h5⟩|⟨h5,why,k,h6⟩;replace h5:fr.mode=.panicking ch:=h5;have e1:stepG P b ⟨fr,cs,st,none,off⟩ w=unwind P b fr cs none w:=by unfold stepG;simp only[h5]
 rw[e1];unfold unwind;simp only[h3,h5];split;exact .inl ⟨_,_,_,rfl⟩;cases cs with|cons c cs=>refine .inr ⟨_,_,_,rfl,.inl ⟨rfl,rfl,⟨?_,λx hx=>h4 x (List.mem_cons_of_mem _ hx)⟩,.inl (raise_mode c ch)⟩⟩;rw[nQ];exact h4 c List.mem_cons_self|nil=>dsimp only;split;exact .inr ⟨_,_,_,rfl,.inr (.inl (by simp))⟩;split;exact .inr ⟨_,_,_,rfl,.inr (.inr (by simp))⟩;exact .inl ⟨_,_,_,rfl⟩;exact .inl ⟨_,_,_,rfl⟩
 replace h5:fr.mode=.run:=h5;replace h6:fr.todo=.code (.refuse why)::k:=h6;have e1:stepG P b ⟨fr,cs,st,none,off⟩ w=stepG.exec P b true fr cs none w:=by unfold stepG;simp only[h5]
 rw[e1];unfold stepG.exec;simp only[h6];exact .inl ⟨_,_,_,rfl⟩
def tk{g g1 gx w w1 wx es ops}(h:stepG P true g w=.go gx wx es)(hr:runT P (solo g w) 0=(.next (solo g1 w1),ops)):gx=g1/\wx=w1:=by rw[runT_solo_go h]at hr;injection hr with h1 h2;injection h1 with h1;exact Tp.jU h1
def sk{g g1 w w1 wx o es ops}(h:stepG P true g w=.ended o wx es)(hr:runT P (solo g w) 0=(.next (solo g1 w1),ops)):False:=by rw[show solo g w=crowd #[g] w none from rfl,runT_many_ended (i:=0) (by rfl) h]at hr;cases hr
def seg0{g g1:Goroutine}{w w1:World}{ops:Array MemOp}{k:Nat}(h:cO P g w g1 w1 ops k):runT P (solo g w) 0=(.next (solo g1 w1),ops):=by have:=h.same w.tape w.drawn (λ_ _=>rfl) #[g] none (Tp.Kx g) rfl;rw[show w1.re w.tape (w.drawn+k)=w1 by rw[<-h.tape,<-h.drawn];rfl]at this;exact this
def Mw{Stop}(hS:∀g w,Stop g w->¬yz g){g w}(h:Term P Stop g w):¬yz g:=by induction h with|stop h=>exact hS _ _ h|@next g w nx h1 h2 h3 ih=>intro hl;obtain⟨ops,k,hm⟩:=h1 w.tape w.drawn;have hr:=(seg0 hm);rcases RH (P:=P) hl true (w.re w.tape w.drawn)with⟨o,w',es,he⟩|⟨g1,w1,es,he,hb⟩;exact sk he hr;obtain⟨rfl,rfl⟩:=tk he hr;rcases hb with hb|hb|hb;exact ih _ _ hb;exact hb (h2 _ _).1.run;exact hb (h2 _ _).2
def Down(P:Program)(Stop:Goroutine->World->Prop)(y x:Goroutine×World):Prop:=¬Stop x.1 x.2/\∃τ n ops k,cO P x.1 (x.2.re τ n) y.1 y.2 ops k
def VV{g g1 g2 w w1 w2 asz Rq k1 k2}(h1:cO P g w g1 w1 asz k1)(h2:cO P g w g2 w2 Rq k2):g1=g2/\w1=w2:=by have a:=(seg0 h1);have b:=(seg0 h2);rw[a]at b;injection b with b _;injection b with b;exact Tp.jU b
def UE{Stop g w}(h:Term P Stop g w):Acc (Down P Stop) (g,w):=by induction h with|stop h=>exact⟨_,λy hy=>absurd h hy.1⟩|@next g w nx h1 h2 h3 ih=>refine⟨_,λy hy=>?_⟩;obtain⟨_,τ,n,ops,k,hm⟩:=hy;obtain⟨Rq,k2,hm2⟩:=h1 τ n;obtain⟨e1,e2⟩:=VV hm hm2;obtain⟨y1,y2⟩:=y;dsimp only at e1 e2;subst e1;subst e2;exact ih τ n
def YY(E:Env)(g:Goroutine):Prop:=g.frame.mode=.run/\∃ops i l k o,g.frame.todo=.inRegion ops (i::l)::k/\ops[i]? =some o/\YJ E o
def Wg{Sh}(hC:∀r b,E.C r=some b->r<E.G){v w}(hw:WR E Sh X v w){c c'}(hc:V E X c c') z s:illMade v {chan:=c,send:=s,zero:=z}=true∨c=.chan none:=by unfold illMade;cases hc with|rV=>exact .inr rfl|chan r b h=>refine .inl ?_;dsimp only;rw[hw.eW r (hC r b h)];rfl|_=>exact .inl rfl
def Cq{Sh}(hC:∀r b,E.C r=some b->r<E.G){v w}(hw:WR E Sh X v w){g g2 c c'}(hc:V E X c c'){z s shape es}(h:stepG P true g v=.comm g2 #[{chan:=c,send:=s,zero:=z}] true shape v es){g1 v1 ops}(hr:runT P (solo g v) 0=(.next (solo g1 v1),ops)):g1.status≠.running:=by
 rcases Wg hC hw hc z s with hi|rfl;rw[show solo g v=crowd #[g] v none from rfl,runT_crowd_comm (i:=0) (by rfl) h]at hr;unfold communicate at hr;dsimp only at hr;have aun:(#[{chan:=c,send:=s,zero:=z}]:Array CommCase).any (illMade v)=true:=by simpa using hi
 split at hr;cases hr;rename_i hx;exact absurd aun hx;have um:∀cc∈(#[{chan:=.chan none,send:=s,zero:=z}]:Array CommCase),NoWays v ((#[g]:Array Goroutine).setIfInBounds 0 ph) cc:=by
  intro cc uq;have:cc={chan:=.chan none,send:=s,zero:=z}:=by simpa using uq
  subst this;exact⟨rfl,by unfold ways;rfl⟩
 have:=crowd_waits (P:=P) (sl:=none) (i:=0) (gs:=#[g]) (by rfl) h um;rw[show solo g v=crowd #[g] v none from rfl,this]at hr;injection hr with hr _;injection hr with hr;have:(#[g]:Array Goroutine).setIfInBounds 0 (parked g2 #[{chan:=.chan none,send:=s,zero:=z}] shape)=#[g1]:=congrArg Machine.gs hr;have h3:parked g2 #[{chan:=.chan none,send:=s,zero:=z}] shape=g1:=by simpa using this
 rw[<-h3];simp[parked]
def aaa{r}(h:Tp.Qc r):(∃o w' es,r=.ended o w' es)∨∃g1 w1 es,r=.go g1 w1 es/\Bad g1:=by
 cases r with
 |go g v es=>refine .inr ⟨_,_,_,rfl,?_⟩;rcases h with h|⟨h1,d,h2,_⟩;exact .inr (.inl (by rcases h with h|h|h<;>rw[h]<;>simp));exact .inr (.inr (by rw[h2];simp))
 |ended o v es=>exact .inl ⟨_,_,_,rfl⟩|_=>exact h.elim
def NM{fr cs s v v' h es}(hr:s.runT P v #[]=(.halt h v',es))(oP:eo h)(hd:fr.defers=[]/\∀c∈cs,c.defers=[]):(∃o w' es,stepG.apply P true fr cs none s v=.ended o w' es)∨∃g1 w1 es,stepG.apply P true fr cs none s v=.go g1 w1 es/\Bad g1:=by
 unfold stepG.apply;simp only[if_true];rw[hr];have hl:∀l,yz {frame:=fr.raise l,callers:=cs,status:=.running,dying:=none}:=λl=>⟨rfl,rfl,⟨by rw[nQ];exact hd.1,hd.2⟩,.inl (raise_mode fr l)⟩;cases h with
 |panic x=>exact .inr ⟨_,_,_,rfl,.inl (hl _)⟩|goexit=>exact .inr ⟨_,_,_,rfl,.inl (hl _)⟩
 |blocked=>exact .inr ⟨_,_,_,rfl,.inr (.inl (by simp))⟩|waiting=>exact .inr ⟨_,_,_,rfl,.inr (.inl (by simp))⟩
 |exit c=>exact .inl ⟨_,_,_,rfl⟩|fatal m=>exact aaa (Tp.dQ (Tp.qH _ _ _ _ _ _))
 |throw m=>exact .inr ⟨_,_,_,rfl,.inr (.inr (by simp))⟩|unsupported u=>cases u<;>first|exact .inl ⟨_,_,_,rfl⟩|exact oP.elim
 |stuck m=>exact .inl ⟨_,_,_,rfl⟩
def Rx t:(∃z,norm P (zeroValue t)=.pure z)∨∃h,eo h/\norm P (zeroValue t)=.halt h:=by unfold zeroValue typeInfo;cases hi:P.info? t with|none=>right;rw[lu (a:=.stuck "no such type") (by rw[cH (a:=P) rfl,hi];rfl)];exact⟨.stuck "no such type",trivial,rfl⟩|some i=>rw[cH (a:=i) (by rw[cH (a:=P) rfl,hi];rfl)];cases i.zero with|none=>right;refine⟨_,?_,rfl⟩;exact trivial|some z=>exact .inl ⟨z,rfl⟩
def Oj{fr cs st off ops i l k o}(hm:fr.mode=.run)(hr:fr.roundOf=none)(ht:fr.todo=.inRegion ops (i::l)::k)(hi:ops[i]? =some o)(hg:o.guard=none) b w:stepG P b ⟨fr,cs,st,none,off⟩ w=stepG.apply P true fr cs none (execOp fr.eval o) w:=by
 have e1:stepG P b ⟨fr,cs,st,none,off⟩ w=stepG.exec P b true fr cs none w:=by unfold stepG;simp only[hm]
 rw[e1];unfold stepG.exec;have Wt:∀y,Region.wanted o y=true:=λy=>by unfold Region.wanted;rw[hg]
 have Y6:fr.oper? =some o:=by unfold Frame.oper?;rw[ht];exact hi
 simp only[ht,hi,Option.map_some,Option.getD_some,Wt,if_true];unfold stepG.oper;simp only[Y6,hr]
def Qy fn:seen P fn #[]=#[]:=rfl
def Lm {Sh} (hC : ∀ r b, E.C r = some b -> r < E.G) {R g g'} (h : GR P E X R g g') (ht : YY E g) {v w} (hw : WR E Sh X v w) {g1 v1 ops} (hr : runT P (solo g v) 0 = (.next (solo g1 v1), ops)) : Bad g1 := by
  obtain ⟨hm, ast, i, l, k, o, e1, e2, e3⟩ := ht
  obtain ⟨fr, cs, st, dy, off⟩ := g
  obtain ⟨_, ⟨rfl, _⟩, h3, ⟨ds, ds', rfl, _, h4⟩⟩ := h
  replace hm : fr.mode = .run := hm
  replace e1 : fr.todo = .inRegion ast (i :: l) :: k := e1
  have hg : o.guard = none := by
    have := h3.ok
    rw [show (Goroutine.mk fr (ds ++ [wall]) st none off).frame.todo = fr.todo from rfl, e1] at this
    exact (this.head o (Array.mem_of_getElem? e2)).1
  have aT := λb u => Oj (P := P) (cs := ds ++ [wall]) (st := st) (off := off) hm h3.round.1 e1 e2 hg b u
  have pO : fr.defers = [] /\ ∀ c ∈ ds ++ [wall], c.defers = [] := ⟨h3.defers.1, h4.clean⟩
  have acD : ∀ (h : Halt) (es : Array Event), eo h -> (execOp fr.eval o).runT P v #[] = (.halt h v, es) -> Bad g1 := by
    intro h oQ oP cF
    rcases NM (P := P) cF oP pO with ⟨o', w', es, he⟩ | ⟨g2, w2, es, he, hb⟩
    · exact (sk ((aT true v).trans he) hr).elim
    · obtain ⟨rfl, rfl⟩ := tk ((aT true v).trans he) hr
      exact hb
  have ER : ∀ (h : Halt), eo h -> norm P (execOp fr.eval o) = .halt h -> Bad g1 := λh oP hh => acD h #[] oP (by rw [cZ, hh]; rfl)
  have rQ := aT true v
  have gm := h3.eval
  obtain ⟨dst, op, type, pos, after, guard⟩ := o
  unfold stepG.apply at rQ
  simp only [if_true] at rQ
  cases op with
  | send ch x =>
    have : (execOp fr.eval ⟨dst, .send ch x, type, pos, after, guard⟩).runT P v #[] = (.ok (.comm #[{ chan := fr.eval ch, send := some (fr.eval x), zero := .tuple #[] }] true .send) v, #[]) := rfl
    rw [this] at rQ
    exact .inr (.inl (Cq hC hw (gm ch e3.1) rQ hr))
  | recv t ch ok =>
    have hex : execOp fr.eval ⟨dst, .recv t ch ok, type, pos, after, guard⟩ = (do
      let .chan _ elem <- underlying t | stuck "receive: channel type expected"
      pure (.comm #[{ chan := fr.eval ch, send := none, zero := <- zeroValue elem }] true (.recv ok))) := rfl
    cases hu : P.underlying t with
    | none =>
      have : ∃ h, eo h /\ norm P (underlying t) = .halt h := by
        unfold underlying
        rw [cH (a := P) rfl, hu]
        refine ⟨_, ?_, rfl⟩; exact trivial
      obtain ⟨h, oP, hh⟩ := this
      exact ER h oP (by rw [hex, lu hh])
    | some d =>
      have hn := fF hu
      cases d with
      | chan dir elem =>
        rcases Rx (P := P) elem with ⟨z, hz⟩ | ⟨h, oP, hz⟩
        · have : (execOp fr.eval ⟨dst, .recv t ch ok, type, pos, after, guard⟩).runT P v #[] = (.ok (.comm #[{ chan := fr.eval ch, send := none, zero := z }] true (.recv ok)) v, #[]) := by
            rw [cZ, hex, cH hn]
            dsimp only
            rw [cH hz]
            rfl
          rw [this] at rQ
          exact .inr (.inl (Cq hC hw (gm ch e3) rQ hr))
        · refine ER h oP ?_
          rw [hex, cH hn]
          dsimp only
          rw [lu hz]
      | _ => exact ER (.stuck "receive: channel type expected") trivial (by rw [hex, cH hn]; rfl)
  | call c =>
    obtain ⟨h1, x, h2, hx⟩ := e3
    obtain ⟨callee, args, argTypes⟩ := c
    dsimp only at h1 h2
    subst h1; subst h2
    have hex : execOp fr.eval ⟨dst, .call ⟨.builtin .close, #[x], argTypes⟩, type, pos, after, guard⟩ = (do pure (.value (<- Builtin.close_ argTypes type #[fr.eval x]))) := by
      have : (#[x] : Array Operand).map fr.eval = #[fr.eval x] := by simp
      show (do pure (.value (<- Builtin.close_ argTypes type ((#[x] : Array Operand).map fr.eval))) : Sem Next) = _
      rw [this]
    have hv := gm x hx
    revert hv
    generalize fr.eval x = y at hex
    generalize (Goroutine.frame g').eval x = y'
    intro hv
    cases hv with
    | rV => exact ER (.panic (.iface P.rt.plainError (strVal "close of nil channel"))) trivial (by rw [hex]; rfl)
    | chan r b hb =>
      refine acD (.stuck "getObj: a row of cells") #[] ?_ ?_
      · exact trivial
      · rw [hex]
        have hj := hw.eW r (hC r b hb)
        show Sem.runT P (Sem.getObj r _) v #[] = _
        rw [Sem.runT]
        simp only [hj]
    | _ => exact ER (.stuck "close: one channel expected") trivial (by rw [hex]; rfl)
  | go c =>
    obtain ⟨⟨x, h1, hx⟩, h2⟩ := e3
    obtain ⟨callee, args, argTypes⟩ := c
    dsimp only at h1 h2
    subst h1; subst h2
    have hex : execOp fr.eval ⟨dst, .go ⟨.value x, #[], argTypes⟩, type, pos, after, guard⟩ = (do pure (.spawn (<- Deferred.ofValue (fr.eval x) #[]))) := by
      have h1 : (#[] : Array Operand).map fr.eval = #[] := by simp
      show (do pure (.spawn (<- Deferred.ofValue (fr.eval x) ((#[] : Array Operand).map fr.eval))) : Sem Next) = _
      rw [h1]
    have hsp : ∀ d, (execOp fr.eval ⟨dst, .go ⟨.value x, #[], argTypes⟩, type, pos, after, guard⟩).runT P v #[] = (.ok (.spawn d) v, #[]) -> Bad g1 := λd hd => by
      rw [hd] at rQ
      simp only [ite_self, Qy] at rQ
      have WG : ∀ {gx child : Goroutine}, stepG P true ⟨fr, ds ++ [wall], st, none, off⟩ v = .spawn gx child v #[] -> False := λ{gx child} yM => by
        have h3 := runT_crowd_spawn (P := P) (sl := none) (i := 0) (gs := #[⟨fr, ds ++ [wall], st, none, off⟩]) rfl (show stepG P (0 == 0) _ v = .spawn _ _ _ _ from yM)
        have h4 : runT P (solo ⟨fr, ds ++ [wall], st, none, off⟩ v) 0 = _ := h3
        rw [hr] at h4
        have h5 := (Prod.mk.inj h4).1
        injection h5 with h5
        have h6 := congrArg (λm : Machine => m.gs.size) h5
        simp [solo, crowd] at h6
      split at rQ <;> split at rQ
      · obtain ⟨rfl, rfl⟩ := tk rQ hr
        exact .inr (.inr (by simp))
      · exact (WG rQ).elim
      · obtain ⟨rfl, rfl⟩ := tk rQ hr
        exact .inr (.inr (by simp))
      · exact (WG rQ).elim
    cases hy : fr.eval x with
    | func f a c => exact hsp _ (by rw [hex, hy]; rfl)
    | nilFunc => exact hsp _ (by rw [hex, hy]; rfl)
    | _ => exact ER (.stuck "call: function value expected") trivial (by rw [hex, hy]; rfl)
  | _ => exact e3.elim
def U2{Sh}(hF:∀f fn b,E.F f->P.funcs[f]? =some fn->fn.body=some b->gr P E b)(hB:Zh P E)(hG:P.globals.size<=E.G)(hC:∀r b,E.C r=some b->r<E.G){Stop}(hS:∀g w,Stop g w->¬yz g){R g g' v}(h:GR P E X R g g')(ht:Term P Stop g v)(hn:¬Stop g v){w}(hw:WR E Sh X (v.re w.tape w.drawn) w) b':∃g1 v1 Y XK w1 iy,Down P Stop (g1,v1) (g,v)/\Term P Stop g1 v1/\stepG P b' g' w=.go XK w1 iy/\GR P E (X++Y) R g1 XK/\Out E Sh X w Y v1 w1/\∀e∈iy,TE (X++Y) Sh e:=by
 cases ht with
 |stop hx=>exact absurd hx hn|next nx h1 h2 h3=>
 obtain⟨ops,k,hm⟩:=h1 w.tape w.drawn;have hr:=(seg0 hm);have hnb:¬Bad (nx w.tape w.drawn).1:=by rintro(hb|hb|hb);exact Mw hS (h3 _ _) hb;exact hb (h2 _ _).1.run;exact hb (h2 _ _).2
 by_cases nj:YY E g;exact absurd (Lm hC h nj hw hr) hnb;have hx:=UW hF hB hG h (λPv ops i l k o e1 e2 e3=>nj ⟨Pv,ops,i,l,k,o,e1,e2,e3⟩) hw true b';cases hs:stepG P true g (v.re w.tape w.drawn)with
 |go gx vx es=>obtain⟨rfl,rfl⟩:=tk hs hr;rw[hs]at hx;rcases hx with hx|⟨Y,XK,w1,iy,e1,e2,e3,e4⟩;exact absurd hx hnb;exact⟨_,_,Y,XK,w1,iy,⟨hn,_,_,ops,k,hm⟩,h3 _ _,e1,e2,e3,e4⟩
 |ended o vx es=>exact(sk hs hr).elim|_=>rw[hs]at hx;exact hx.elim
end
end Rn
namespace Rn
open Go.Conc
section
variable{P:Program}
structure yC(fr:Frame)(o:Oper):Prop where
 mode:fr.mode=.run
 round:fr.roundOf=none
 guard:o.guard=none
 todo:∃ops i l k,fr.todo=.inRegion ops (i::l)::k/\ops[i]? =some o
def zC fn:seen P fn #[]=#[]:=rfl
def yC.step{fr o}(h:yC fr o) cs st off b w:stepG P b ⟨fr,cs,st,none,off⟩ w=stepG.apply P true fr cs none (execOp fr.eval o) w:=by obtain⟨ops,i,l,k,h1,h2⟩:=h.todo;exact Oj h.mode h.round h1 h2 h.guard b w
theorem yC.send{fr o}(h:yC fr o){ch x}(ho:o.op=.send ch x) cs st off b w:stepG P b ⟨fr,cs,st,none,off⟩ w=.comm ⟨fr,cs,.running,none,none⟩ #[{chan:=fr.eval ch,send:=some (fr.eval x),zero:=.tuple #[]}] true .send w #[]:=by
 rw[h.step];unfold stepG.apply;simp only[if_true];have:(execOp fr.eval o).runT P w #[]=(.ok (.comm #[{chan:=fr.eval ch,send:=some (fr.eval x),zero:=.tuple #[]}] true .send) w,#[]):=by obtain⟨dst,op,type,pos,after,guard⟩:=o;dsimp only at ho;subst ho;rfl
 rw[this];simp only[ite_self,zC];rfl
theorem yC.recv{fr o}(h:yC fr o){t ch ok}(ho:o.op=.recv t ch ok){d e i z}(ht:P.underlying t=some (.chan d e))(hi:P.info? e=some i)(hz:i.zero=some z) cs st off b w :
  stepG P b ⟨fr,cs,st,none,off⟩ w=.comm ⟨fr,cs,.running,none,none⟩ #[{chan:=fr.eval ch,send:=none,zero:=z}] true (.recv ok) w #[]:=by
 rw[h.step];unfold stepG.apply;simp only[if_true];have:(execOp fr.eval o).runT P w #[]=(.ok (.comm #[{chan:=fr.eval ch,send:=none,zero:=z}] true (.recv ok)) w,#[]):=by
  obtain⟨dst,op,type,pos,after,guard⟩:=o;dsimp only at ho;subst ho;rw[cZ];have hex:execOp fr.eval ⟨dst,.recv t ch ok,type,pos,after,guard⟩=(do
   let .chan _ elem <-underlying t|stuck "receive: channel type expected"
   pure (.comm #[{chan:=fr.eval ch,send:=none,zero:=<-zeroValue elem}] true (.recv ok))):=rfl
  rw[hex,cH (fF ht)];dsimp only;have hzv:norm P (zeroValue e)=.pure z:=by
   unfold zeroValue typeInfo;rw[cH (a:=i) (by rw[cH (a:=P) rfl,hi];rfl),hz]
   rfl
  rw[cH hzv];rfl
 rw[this];simp only[ite_self,zC];rfl
def Lv fn c:seen P fn #[⟨.obj c,false,true⟩,⟨.obj c,true,true⟩]=#[⟨.obj c,false,true⟩,⟨.obj c,true,true⟩]:=by unfold seen;simp
theorem yC.close {fr o} (h : yC fr o) {x ats} (ho : o.op = .call ⟨.builtin .close, #[x], ats⟩) {c room s r buf tm} (hx : fr.eval x = .chan (some c)) (hk : fr.kind ≠ .early) cs st off b {w} (hc : w.heap[c]? = some (.chan room buf false s r tm)) :
    stepG P b ⟨fr, cs, st, none, off⟩ w = .go ⟨fr.finish (.tuple #[]), cs, .running, none, none⟩ { w with heap := w.heap.setIfInBounds c (.chan room buf true s r tm) } #[⟨.obj c, false, true⟩, ⟨.obj c, true, true⟩] := by
  rw [h.step]
  unfold stepG.apply
  simp only [if_true]
  have : (execOp fr.eval o).runT P w #[] = (.ok (.value (.tuple #[])) { w with heap := w.heap.setIfInBounds c (.chan room buf true s r tm) }, #[⟨.obj c, false, true⟩, ⟨.obj c, true, true⟩]) := by
    obtain ⟨dst, op, type, pos, after, guard⟩ := o
    dsimp only at ho
    subst ho
    have hex : execOp fr.eval ⟨dst, .call ⟨.builtin .close, #[x], ats⟩, type, pos, after, guard⟩ = (do pure (.value (<- Builtin.close_ ats type #[fr.eval x]))) := by
      have : (#[x] : Array Operand).map fr.eval = #[fr.eval x] := by simp
      show (do pure (.value (<- Builtin.close_ ats type ((#[x] : Array Operand).map fr.eval))) : Sem Next) = _
      rw [this]
    rw [hex, hx]
    have h1 := run_close_open (P := P) ats type hc
    have h2 := events_close_open (P := P) (es := #[]) ats type hc
    rw [close_some] at h1 h2 |-
    show Sem.runT P (Sem.getObj c _) w #[] = _
    rw [Sem.runT]
    simp only [hc]
    show Sem.runT P (Sem.setObj c _ _) w _ = _
    rw [Sem.runT]
    simp only [hc]
    rfl
  rw [this]
  have yn : (fr.kind == CallKind.early) = false := by cases hq : fr.kind <;> first | rfl | exact absurd hq hk
  simp only [yn, Bool.false_eq_true, if_false, Lv]
  rfl
def jd(P:Program)(d:Deferred):Goroutine:={frame:={(default:Frame)with fn:=P.funcs.size,defers:=[d],mode:=.panicking [goexitEntry]},callers:=[],status:=.running,dying:=none}
theorem yC.go {fr o} (h : yC fr o) {x ats} (ho : o.op = .go ⟨.value x, #[], ats⟩) {f a c} (hx : fr.eval x = .func (.func f) a c) cs st off b w :
    stepG P b ⟨fr, cs, st, none, off⟩ w = .spawn ⟨fr.finish undef, cs, .running, none, none⟩ (jd P { target := .fn (.func f) c, args := a }) w #[] := by
  rw [h.step]
  unfold stepG.apply
  simp only [if_true]
  have : (execOp fr.eval o).runT P w #[] = (.ok (.spawn { target := .fn (.func f) c, args := a }) w, #[]) := by
    obtain ⟨dst, op, type, pos, after, guard⟩ := o
    dsimp only at ho
    subst ho
    have hex : execOp fr.eval ⟨dst, .go ⟨.value x, #[], ats⟩, type, pos, after, guard⟩ = (do pure (.spawn (<- Deferred.ofValue (fr.eval x) #[]))) := by
      have h1 : (#[] : Array Operand).map fr.eval = #[] := by simp
      show (do pure (.spawn (<- Deferred.ofValue (fr.eval x) ((#[] : Array Operand).map fr.eval))) : Sem Next) = _
      rw [h1]
    rw [hex, hx]
    show (Result.ok (Next.spawn { target := .fn (.func f) c, args := a ++ #[] }) w, (#[] : Array Event)) = _
    rw [Array.append_empty]
  rw [this]
  simp only [ite_self, zC]
  rw [if_neg (by simp)]
  rfl
end
end Rn
namespace Ph
open Go.Conc Rn
open Go.ConcN (sumTo upd sumTo_upd upd_ne upd_same)
open Tp (cO Term Ld)
def NQ{β:Type}(R:β->β->Prop)(m:Nat)(F' F:Nat->β):Prop:=∃i,i<m/\R (F' i) (F i)/\∀j,j≠i->F' j=F j
theorem IV{β} R:∀m (F:Nat->β),(∀i,i<m->Acc R (F i))->Acc (NQ R m) F
 |0,F,_=>⟨_,λF' ⟨i,hi,_⟩=>absurd hi (Nat.not_lt_zero i)⟩|m+1,F,h=>by
  have key:∀x,Acc R x->∀F:Nat->β,F m=x->(∀i,i<m->Acc R (F i))->Acc (NQ R (m+1)) F:=by
   intro x hx;induction hx with
   |intro x _ ih1=>
   intro F hF hA;have h2:=IV R m F hA;induction h2 with
   |intro F _ ih2=>
   refine⟨_,λF' hF'=>?_⟩;obtain⟨i,hi,hR,ho⟩:=hF';by_cases him:i=m;subst him;exact ih1 (F' i) (by rw[<-hF];exact hR) F' rfl (λj hj=>by rw[ho j (by omega)];exact hA j hj);have aM:i<m:=by omega
   refine ih2 F' ⟨i,aM,hR,ho⟩ (by rw[ho m (Ne.symm him),hF]) (λj hj=>?_);by_cases aS:j=i;subst aS;exact(hA j hj).inv hR;rw[ho j aS];exact hA j hj
  exact key (F m) (h m (Nat.lt_succ_self m)) F rfl (λi hi=>h i (Nat.lt_succ_of_lt hi))
inductive j8(α:Type)
 |bg|b9 (a:α)|fg
 |feed (rem:List α)|cU (a:α) (rem:List α)|fb|bx (k:Nat)|dk
 |spawn (k:Nat)|aZ (bC:List α)
inductive St(α:Type)
 |old (r q:Nat)|bU (c:j8 α)|born (c:j8 α)|live (c:j8 α)|bd (c:j8 α)
structure Pd(α:Type) where
 st:St α
 g:Goroutine
 v:World
 X:List Nat
structure Net(α:Type) where
 J:Nat
 R:Nat
 D:Nat
 jv:α->Value
 fv:α->Value
 dv:Value
 zJ:Value
 zR:Value
 zD:Value
 A:j8 α->Goroutine->World->Prop
 TX:α->Prop
variable{α:Type}
def Net.Stop(N:Net α):j8 α->Goroutine->World->Prop
 |.feed rem=>λg v=>(∃a Dj,rem.Perm (a::Dj)/\N.A (.cU a Dj) g v)∨(rem=[]/\N.A .fb g v)|c=>N.A c
def Net.cases(N:Net α):j8 α->Array CommCase
 |.bg=>#[rcase N.J N.zJ]|.b9 a=>#[scase N.R (N.fv a) (.tuple #[])]|.fg=>#[scase N.D N.dv (.tuple #[])]|.cU a _=>#[scase N.J (N.jv a) (.tuple #[])]|.bx _=>#[rcase N.D N.zD]|.aZ _=>#[rcase N.R N.zR]|_=>#[]
def Net.shape(_:Net α):j8 α->CommShape
 |.bg|.aZ _=>.recv true|.bx _=>.recv false|_=>.send
def Dn(P:Program)(N:Net α)(d' d:Pd α):Prop:=(∃c,d.st=.live c/\d'.st=.live c/\Down P (N.Stop c) (d'.g,d'.v) (d.g,d.v))∨∃r q,d.st=.old r (q+1)/\d'.st=.old r q
def abq{P N c x}(h:Acc (Down P (N.Stop c)) x):∀d:Pd α,d.st=.live c->(d.g,d.v)=x->Acc (Dn P N) d:=by induction h with|intro x _ ih=>intro d hd he;refine⟨_,λd' Ub=>?_⟩;rcases Ub with⟨c',h1,h2,h3⟩|⟨r,q,h1,_⟩;rw[hd]at h1;cases h1;exact ih _ (by rw[<-he];exact h3) d' h2 rfl;rw[hd]at h1;cases h1
theorem XV{P N} r:∀q (d:Pd α),d.st=.old r q->Acc (Dn P N) d
 |0,d,hd=>⟨_,λd' Ub=>by rcases Ub with⟨c',h1,_⟩|⟨r',q,h1,_⟩<;>rw[hd]at h1<;>cases h1⟩
 |q+1,d,hd=>⟨_,λd' Ub=>by rcases Ub with⟨c',h1,_⟩|⟨r',q',h1,h2⟩;rw[hd]at h1;cases h1;rw[hd]at h1;cases h1;exact XV r q d' h2⟩
def ai1{P N}(d:Pd α)(h:∀c,d.st=.live c->Term P (N.Stop c) d.g d.v):Acc (Dn P N) d:=by cases hs:d.st with|live c=>exact abq (UE (h c hs)) d hs rfl|old r q=>exact XV r q d hs|_=>exact⟨_,λd' Ub=>by rcases Ub with⟨c',h1,_⟩|⟨r,q,h1,_⟩<;>rw[hs]at h1<;>cases h1⟩
def base(P:Program):Frame:={(default:Frame)with fn:=P.funcs.size,defers:=[],mode:=.panicking [goexitEntry]}
structure j9(α:Type) where
 P:Program
 E:Env
 Sh:Nat->Prop
 N:Net α
 n:Nat
 R:Nat->List Frame
 f:Nat->FuncId
 a:Nat->Array Value
 ok0:List Nat->Prop
 top:Nat
variable(C:j9 α)
def j9.d(i:Nat):Deferred:={target:=.fn (.func (C.f i)) (C.a i),args:=#[]}
def j9.first(i:Nat):Goroutine:={frame:=Frame.enter C.P (C.f i) (C.a i) .deferred,callers:=[base C.P],status:=.running,dying:=none}
def Ok(t:Trace)(i:Nat)(x:Option Goroutine)(d:Pd α):Prop:=match d.st with
 |.old r q=>(∃y,x=some y/\QuitsD C.P q (Deaf t i) y)/\(r=2->C.N.A .dk d.g d.v)
 |.bU c=>x=none/\C.R i=[base C.P]/\GR C.P C.E d.X (C.R i) d.g (C.first i)/\Term C.P (C.N.Stop c) d.g d.v
 |.born c=>x=some (jd C.P (C.d i))/\C.R i=[base C.P]/\GR C.P C.E d.X (C.R i) d.g (C.first i)/\Term C.P (C.N.Stop c) d.g d.v
 |.live c=>∃g',x=some g'/\GR C.P C.E d.X (C.R i) d.g g'/\Term C.P (C.N.Stop c) d.g d.v
 |.bd c=>∃g',x=some (parked g' (C.N.cases c) (C.N.shape c))/\GR C.P C.E d.X (C.R i) d.g g'/\C.N.A c d.g d.v
def jf(w:World)(d:Pd α):Prop:=WR C.E C.Sh d.X (d.v.re w.tape w.drawn) w
def WR.pD{E Sh X}{v w w1:World}(h:WR E Sh X (v.re w.tape w.drawn) w)(hs:w.heap.size<=w1.heap.size)(hx:∀b∈X,w1.heap[b]? =w.heap[b]?):WR E Sh X (v.re w1.tape w1.drawn) w1:=⟨h.size,λi b hb=>by obtain⟨o,o',h1,h2,h3⟩:=h.el i b hb;exact⟨o,o',h1,(hx b (List.mem_of_getElem? hb)).trans h2,h3⟩,h.eW,h.nodup,h.shared,λb hb=>Nat.lt_of_lt_of_le (h.low b hb) hs,rfl,rfl⟩
def jf.lt{w d}(h:jf C w d){b}(hb:b∈d.X):b<w.heap.size:=by obtain⟨i,hi⟩:=List.getElem?_of_mem hb;obtain⟨_,_,_,h2,_⟩:=WR.el h i b hi;exact(Array.getElem?_eq_some_iff.1 h2).1
def jf.vL{w d}(h:jf C w d){b}(hb:b∈d.X){cap s r buf cl tm}:w.heap[b]?≠some (.chan cap buf cl s r tm):=by obtain⟨i,hi⟩:=List.getElem?_of_mem hb;obtain⟨_,_,_,h2,h3⟩:=WR.el h i b hi;rw[h2];intro e;cases e;cases h3
def jf.other{w w1 v1 d X Y}(h:jf C w d)(ho:Out C.E C.Sh X w Y v1 w1)(hd:∀b,b∈d.X->b∈X->C.Sh b):jf C w1 d:=by refine WR.pD h ho.size λb hb=>?_;by_cases hX:b∈X;exact ho.shared b (hd b hb hX);exact ho.others b (h.lt C hb) hX
def jf.chan{w d}(h:jf C w d){c cap s r buf cl tm}(hc:w.heap[c]? =some (.chan cap buf cl s r tm)) o k:jf C {w with heap:=w.heap.setIfInBounds c o,drawn:=k} d:=by
 refine WR.pD h (by show w.heap.size<=(w.heap.setIfInBounds c o).size;simp) λb hb=>?_;have cE:c≠b:=λe=>by subst e;exact h.vL C hb hc
 show(w.heap.setIfInBounds c o)[b]? =w.heap[b]?;rw[Array.getElem?_setIfInBounds_ne cE]
def jf.drawn{w d}(h:jf C w d) k:jf C (w.at k) d:=WR.pD h ν λ_ _=>rfl
def Ok.trace{t u i x d}(h:Ok C t i x d)(hu:Deaf (t++u) i=Deaf t i):Ok C (t++u) i x d:=by unfold Ok at h|-;rw[hu];exact h
structure Kept(w w':World)(D D':Nat->Pd α):Prop where
 size:w.heap.size<=w'.heap.size
 heap:∀b,b<w.heap.size->b≠C.N.J->b≠C.N.R->b≠C.N.D->((∀i,i<C.n+4->b∉ (D i).X)∨C.Sh b)->w'.heap[b]? =w.heap[b]?
 grow:∀i,∃Y,(D' i).X=(D i).X++Y/\∀b∈Y,w.heap.size<=b
 os:w'.os=w.os
 output:w'.output=w.output
 tape:w'.tape=w.tape
variable{C}
theorem Kept.trans{w w1 w2:World}{D D1 D2:Nat->Pd α}(h:Kept C w w1 D D1)(h':Kept C w1 w2 D1 D2):Kept C w w2 D D2 where
 size:=Nat.le_trans h.size h'.size;heap:=λb hb n1 n2 n3 hx=>by rw[h'.heap b (Nat.lt_of_lt_of_le hb h.size) n1 n2 n3 ?_,h.heap b hb n1 n2 n3 hx];rcases hx with hx|hx;refine .inl λi hi hm=>?_;obtain⟨Y,e,hY⟩:=h.grow i;rw[e]at hm;rcases List.mem_append.1 hm with hm|hm;exact hx i hi hm;have:=hY b hm;omega;exact .inr hx
 grow:=λi=>by obtain⟨Y,e,hY⟩:=h.grow i;obtain⟨Z,e2,hZ⟩:=h'.grow i;refine⟨Y++Z,by rw[e2,e,List.append_assoc],λb hb=>?_⟩;rcases List.mem_append.1 hb with hb|hb;exact hY b hb;exact Nat.le_trans h.size (hZ b hb)
 os:=h'.os.trans h.os;output:=h'.output.trans h.output;tape:=h'.tape.trans h.tape
def jN{w w' D D'}(hX:∀i,(D' i).X=(D i).X)(hh:w'.heap=w.heap)(h1:w'.os=w.os)(h2:w'.output=w.output)(h3:w'.tape=w.tape):Kept C w w' D D':=⟨by rw[hh];exact ν,λ_ _ _ _ _ _=>by rw[hh],λi=>⟨[],by rw[hX,List.append_nil],λ_ h=>by cases h⟩,h1,h2,h3⟩
def gC{w w' D D'}(hX:∀i,(D' i).X=(D i).X){ch}(Pz:ch=C.N.J∨ch=C.N.R∨ch=C.N.D){o}(hh:w'.heap=w.heap.setIfInBounds ch o)(h1:w'.os=w.os)(h2:w'.output=w.output)(h3:w'.tape=w.tape):Kept C w w' D D':=⟨by rw[hh];simp,λb _ n1 n2 n3 _=>by rw[hh,Array.getElem?_setIfInBounds_ne];rintro rfl;rcases Pz with e|e|e;exact n1 e;exact n2 e;exact n3 e,λi=>⟨[],by rw[hX,List.append_nil],λ_ h=>by cases h⟩,h1,h2,h3⟩
def j8.role:j8 α->Nat
 |.bg|.b9 _|.fg=>1|.feed _|.cU _ _|.fb|.bx _|.dk=>2|.spawn _|.aZ _=>3
def St.role:St α->Nat
 |.old r _=>r|.bU c|.born c|.live c|.bd c=>c.role
def j8.tok(p:α->Bool):j8 α->Nat
 |.b9 a=>[a].countP p|.feed rem=>rem.countP p|.cU a rem=>(a::rem).countP p|.aZ bC=>bC.countP p|_=>0
def St.tok(p:α->Bool):St α->Nat
 |.old _ _=>0|.bU c|.born c|.live c|.bd c=>c.tok p
def j8.ev:j8 α->Nat
 |.bg=>2|.b9 _=>3|.fg=>1|.feed rem=>7+2*rem.length|.cU _ rem=>7+2*(rem.length+1)|.fb=>7|.bx k=>5-k|.dk=>1|.spawn k=>5-k|.aZ _=>0
def St.ev:St α->Nat
 |.old _ _=>0|.bU c=>c.ev+2|.born c=>c.ev+1|.live c|.bd c=>c.ev
def St.up:St α->Nat
 |.live _=>1|_=>0
def St.said:St α->Nat
 |.old 1 _=>1|_=>0
theorem sumTo_congr{f g}:∀m,(∀i,i<m->f i=g i)->sumTo m f=sumTo m g
 |0,_=>rfl|m+1,h=>by show sumTo m f+f m=sumTo m g+g m;rw[sumTo_congr m (λi hi=>h i (by omega)),h m (by omega)]
theorem sumTo_le{f g}:∀m,(∀i,i<m->f i<=g i)->sumTo m f<=sumTo m g
 |0,_=>ν|m+1,h=>Nat.add_le_add (sumTo_le m (λi hi=>h i (by omega))) (h m (by omega))
theorem zq{f g}:∀m,(∀i,i<m->f i<=g i)->sumTo m g<=sumTo m f->∀i,i<m->f i=g i
 |0,_,_,i,hi=>by omega|m+1,h,hs,i,hi=>by have h1:=sumTo_le m (λi hi=>h i (by omega));have h2:=h m (by omega);have hs':sumTo m g+g m<=sumTo m f+f m:=hs;by_cases hm:i=m;subst hm;omega;exact zq m (λi hi=>h i (by omega)) (by omega) i (by omega)
def UK{f g} m(h:sumTo m f<sumTo m g):∃i,i<m/\f i<g i:=by
 apply Classical.byContradiction;intro hn;have:sumTo m g<=sumTo m f:=sumTo_le m λi hi=>by apply Classical.byContradiction;intro hc;exact hn ⟨i,hi,by omega⟩
 omega
def u5{f g m i}(hi:i<m)(h:∀j,j≠i->g j=f j):sumTo m g+f i=sumTo m f+g i:=by
 have:g=upd f i (g i):=by funext j;by_cases hj:j=i;subst hj;rw[upd_same];rw[upd_ne f (g i) hj,h j hj]
 rw[this,upd_same];have:=sumTo_upd f (g i) id hi;simpa using this
end Ph
namespace Ph
open Go.Conc Rn
open Go.ConcN (sumTo upd sumTo_upd upd_ne upd_same le_sumTo)
open Tp (cO Term Ld)
variable{α:Type}(C:j9 α)
def YK(cj cr:Bool)(aC:Nat):j8 α->Prop
 |.spawn _|.aZ _=>True|.bg|.b9 _=>cr=false|.fg=>cj=true/\cr=false|.feed _|.cU _ _=>cj=false/\cr=false/\aC=0|.fb=>False|.bx k=>cj=true/\cr=false/\aC=k/\k<3|.dk=>cj=true/\cr=false/\aC=3
def fi(cj cr:Bool)(aC:Nat):St α->Prop
 |.old 1 _=>cj=true|.old 2 _=>cj=true/\cr=true/\aC=3|.old _ _=>True|.bU c|.born c=>match c with
  |.bg=>cr=false
  |.feed _=>cj=false/\cr=false/\aC=0
  |_=>False
 |.live c=>match c with
  |.cU _ _=>False
  |c=>YK cj cr aC c
 |.bd c=>match c with
  |.bg=>cj=false/\cr=false
  |.b9 _=>cr=false
  |.cU _ _=>cj=false/\cr=false/\aC=0
  |.bx k=>cj=true/\cr=false/\aC=k/\k<3
  |.aZ _=>cr=false
  |_=>False
def j9.rl(i:Nat):Nat:=if i=0 then 3 else if i<C.n then 0 else if i<C.n+3 then 1 else 2
def j9.gN(i:Nat):Prop:=i=0∨C.n<=i/\i<C.n+4
structure y5(all:List α)(s:Nat->St α)(cj cr:Bool)(ah aC:Nat):Prop where
 role:∀i,i<C.n+4->(s i).role=C.rl i
 tok:∀p,sumTo (C.n+4) (λi=>(s i).tok p)=all.countP p
 le:aC<=ah
 said:ah=sumTo (C.n+4) (λi=>(s i).said)
 cP:∀i,i<C.n+4->fi cj cr aC (s i)
 p1:∀i j,i<C.n+4->j<C.n+4->s i=.bd .bg->∀a rem,s j≠.bd (.cU a rem)
 p2:∀i j,i<C.n+4->j<C.n+4->∀a g,s i=.bd (.b9 a)->s j≠.bd (.aZ g)
 p3:∀i k,i<C.n+4->s i=.bd (.bx k)->ah=aC
 fits:all.length<=C.top
def bj(D:Nat->Pd α):Nat->St α:=λi=>(D i).st
structure Inv(all:List α)(gs:Array Goroutine)(w:World)(t:Trace)(D:Nat->Pd α)(cj cr:Bool)(ah aC:Nat):Prop where
 pos:0<C.n
 ok:∀i,i<C.n+4->Ok C t i gs[i]? (D i)
 size:gs.size<=C.n+4
 vd:∀i,i<C.n+4->jf C w (D i)
 Ns:∀i j,i<C.n+4->j<C.n+4->i≠j->∀b,b∈(D i).X->b∈(D j).X->C.Sh b
 main:(∃k,k<=3/\(D 0).st=.live (.spawn k)/\gs.size=C.n+k)∨((∃bC,(D 0).st=.live (.aZ bC)∨(D 0).st=.bd (.aZ bC))/\gs.size=C.n+4)
 CZ:∃s r,w.heap[C.N.J]? =some (.chan 0 #[] cj s r false)
 DF:∃s r,w.heap[C.N.R]? =some (.chan 0 #[] cr s r false)
 GJ:w.heap[C.N.D]? =some (.chan 3 (Array.replicate (ah-aC) C.N.dv) false ah aC false)
 ne:C.N.J≠C.N.R/\C.N.J≠C.N.D/\C.N.R≠C.N.D
 dg:y5 C all (bj D) cj cr ah aC
def blk:Loc->Nat
 |.cell a=>a.block|.obj r=>r|_=>0
def TC(D:Nat->Pd α)(g:Nat)(a:Touch):Prop:=(blk a.loc∈(D g).X/\(a.write=true->¬C.Sh (blk a.loc)))∨(a.write=false/\(a.loc=.obj C.N.J∨a.loc=.obj C.N.R))
def jg(t:Trace)(i ah aC:Nat):Prop:=∃s k z,t[s]? =some z/\z.g=i/\z.act=.send C.N.D k/\k<ah/\t.heard s/\(∀p y a,t[p]? =some y->y.g=i->y.act.touch? =some a->p<s)/\(k<aC->Knows t (C.n+3) s)
def sV(t:Trace):Prop:=∃c z,t[c]? =some z/\z.g=C.n+3/\z.act=.close C.N.R/\t.heard c/\∀p y a,t[p]? =some y->C.gN y.g->y.g≠0->y.act.touch? =some a->Before t p c
structure Tr(t:Trace)(D:Nat->Pd α)(ah aC:Nat):Prop where
 clean:∀said,¬Race said t
 touch:∀p a,touchAt t p=some a->a.loc.isMemory=true->(∀i,C.gN i->(∀c,(D i).st≠.bU c)->Knows t i p)∨∃op,t[p]? =some op/\C.gN op.g/\TC C D op.g a
 deaf:∀i,C.gN i->(∀r q,(D i).st≠.old r q)->Deaf t i=0
 said:∀i q,i<C.n+4->(D i).st=.old 1 q->jg C t i ah aC
 shut:∀q,(D (C.n+3)).st=.old 2 q->sV C t
 above:∀j,C.n+4<=j->Deaf t j=0
variable{C}
def Inv.status{all gs w t D cj cr ah aC}(h:Inv C all gs w t D cj cr ah aC){i x}(hx:gs[i]? =some x):i<C.n+4/\((x.status=.running∨x.status=.finished)∨∃c,(D i).st=.bd c):=by
 have hi:i<C.n+4:=Nat.lt_of_lt_of_le (Array.getElem?_eq_some_iff.1 hx).1 h.size;refine⟨hi,?_⟩;have:=h.ok i hi;unfold Ok at this;cases hs:(D i).st with
 |old r q=>rw[hs]at this;obtain⟨⟨y,h1,h2⟩,_⟩:=this;rw[hx]at h1;cases h1;exact .inl h2.status
 |bU c=>rw[hs]at this;rw[hx]at this;cases this.1
 |born c=>rw[hs]at this;have h1:=this.1;rw[hx]at h1;cases h1;exact .inl (.inl rfl)
 |live c=>rw[hs]at this;obtain⟨g',h1,h2,_⟩:=this;rw[hx]at h1;cases h1;exact .inl (.inl h2.run.2)
 |bd c=>exact .inr ⟨c,rfl⟩
def Net.chan(N:Net α):j8 α->Option (Nat×Bool)
 |.bg=>some (N.J,false)|.b9 _=>some (N.R,true)|.fg=>some (N.D,true)|.cU _ _=>some (N.J,true)|.bx _=>some (N.D,false)|.aZ _=>some (N.R,false)|_=>none
def my(N:Net α) c g ch b:offersAt (parked g (N.cases c) (N.shape c)) ch b=if N.chan c=some (ch,b)then [0]else []:=by
 cases c with
 |bg=>cases b<;>simp[Net.cases,Net.shape,Net.chan,offersAt_parked_recv,offersAt_parked_recv']
 |b9 a=>cases b<;>simp[Net.cases,Net.shape,Net.chan,offersAt_parked_send,offersAt_parked_send']
 |cU a r=>cases b<;>simp[Net.cases,Net.shape,Net.chan,offersAt_parked_send,offersAt_parked_send']
 |fg=>cases b<;>simp[Net.cases,Net.shape,Net.chan,offersAt_parked_send,offersAt_parked_send']
 |bx k=>cases b<;>simp[Net.cases,Net.shape,Net.chan,offersAt_parked_recv,offersAt_parked_recv']
 |aZ k=>cases b<;>simp[Net.cases,Net.shape,Net.chan,offersAt_parked_recv,offersAt_parked_recv']
 |_=>simp[Net.cases,Net.chan,offersAt,parked]
section
variable{all:List α}{gs:Array Goroutine}{w:World}{t:Trace}{D:Nat->Pd α}{cj cr:Bool}{ah aC:Nat}
def Inv.partner(h:Inv C all gs w t D cj cr ah aC){i ch b j k}(hm:(j,k)∈partners (gs.setIfInBounds i ph) ch b):k=0/\j≠i/\j<C.n+4/\∃c g',(D j).st=.bd c/\C.N.chan c=some (ch,b)/\gs[j]? =some (parked g' (C.N.cases c) (C.N.shape c))/\GR C.P C.E (D j).X (C.R j) (D j).g g'/\C.N.A c (D j).g (D j).v:=by obtain⟨g,hg,hk⟩:=mem_partners.1 hm;rcases getElem?_stand gs i j g hg with⟨rfl,rfl⟩|⟨cE,hj⟩;rw[offersAt_ph]at hk;cases hk;obtain⟨aM,aT⟩:=h.status hj;rcases aT with aT|⟨c,hc⟩;rw[offersAt_of_not_blocked (by rcases aT with e|e<;>rw[e]<;>simp)]at hk;cases hk;have:=h.ok j aM;unfold Ok at this;rw[hc]at this;obtain⟨g',h1,h2,h3⟩:=this;rw[hj]at h1;cases h1;rw[my]at hk;split at hk;rename_i Pz;exact⟨by simpa using hk,cE,aM,c,g',hc,Pz,hj,h2,h3⟩;cases hk
def Inv.vK(h:Inv C all gs w t D cj cr ah aC){i ch b}(hn:∀j c,j<C.n+4->(D j).st=.bd c->C.N.chan c≠some (ch,b)):partners (gs.setIfInBounds i ph) ch b=[]:=by apply List.eq_nil_iff_forall_not_mem.2;rintro⟨j,k⟩hm;obtain⟨_,_,aM,c,g',h1,h2,_⟩:=h.partner hm;exact hn j c aM h1 h2
def Inv.woken(h:Inv C all gs w t D cj cr ah aC){w'}(hJ:∃s r,w'.heap[C.N.J]? =some (.chan 0 #[] cj s r false))(hR:∃s r,w'.heap[C.N.R]? =some (.chan 0 #[] cr s r false))(hD:∃b s r,w'.heap[C.N.D]? =some (.chan 3 b false s r false)) P g g':gs.map (woken P g g' w')=gs:=by
 apply Array.ext_getElem?;intro j;rw[Array.getElem?_map];cases hx:gs[j]? with
 |none=>rfl|some x=>
 rw[Option.map_some];congr 1;obtain⟨aM,aT⟩:=h.status hx;rcases aT with aT|⟨c,hc⟩;unfold Go.Conc.woken;split;exact again_running _ aT;rfl;have dR:=h.ok j aM;have cX:fi cj cr aC (D j).st:=h.dg.cP j aM;unfold Ok at dR;rw[hc]at dR cX;obtain⟨y,h1,_,_⟩:=dR;rw[hx]at h1;cases h1;obtain⟨s1,r1,e1⟩:=hJ;obtain⟨s2,r2,e2⟩:=hR;obtain⟨b3,s3,r3,e3⟩:=hD;cases c with
 |bg=>obtain⟨rfl,_⟩:cj=false/\_:=cX;exact woken_recv_open _ _ e1
 |b9 a=>obtain rfl:cr=false:=cX;exact woken_send_open _ _ e2
 |cU a rem=>obtain⟨rfl,_⟩:cj=false/\_:=cX;exact woken_send_open _ _ e1
 |bx k=>exact woken_recv_open _ _ e3|aZ bC=>obtain rfl:cr=false:=cX;exact woken_recv_open _ _ e2
 |_=>exact cX.elim
end
section
variable{all:List α}{s s':Nat->St α}{cj cr cj' cr':Bool}{ah aC sent' rcvd':Nat}
def y5.zh(h:y5 C all s cj cr ah aC)(xy:∀i,i<C.n+4->(s' i).role=(s i).role)(Gq:∀p,sumTo (C.n+4) (λi=>(s' i).tok p)=sumTo (C.n+4) (λi=>(s i).tok p))(hle:rcvd'<=sent')(Pp:sent'=sumTo (C.n+4) (λi=>(s' i).said)) (cX:∀i,i<C.n+4->fi cj' cr' rcvd' (s' i)) (ni:∀i c,i<C.n+4->s' i=.bd c->s i=.bd c) (hp3:∀i k,i<C.n+4->s' i=.bd (.bx k)->sent'=rcvd'):y5 C all s' cj' cr' sent' rcvd' where
 role:=λi hi=>(xy i hi).trans (h.role i hi);tok:=λp=>(Gq p).trans (h.tok p);le:=hle;said:=Pp;cP:=cX;p1:=λi j hi hj h1 a rem h2=>h.p1 i j hi hj (ni i _ hi h1) a rem (ni j _ hj h2);p2:=λi j hi hj a g h1 h2=>h.p2 i j hi hj a g (ni i _ hi h1) (ni j _ hj h2);p3:=hp3;fits:=h.fits
def y5.one(h:y5 C all s cj cr ah aC){i}(hi:i<C.n+4) x(xy:x.role=(s i).role)(Gq:∀p,x.tok p=(s i).tok p)(Pp:x.said=(s i).said)(aT:fi cj cr aC x)(hp:∀c,x≠.bd c):y5 C all (upd s i x) cj cr ah aC:=by
 have ni:∀j c,j<C.n+4->upd s i x j=.bd c->s j=.bd c:=λj c hj hc=>by by_cases aS:j=i;subst aS;rw[upd_same]at hc;exact absurd hc (hp c);rwa[upd_ne s x aS]at hc
 refine h.zh (λj hj=>?_) (λp=>?_) h.le ?_ (λj hj=>?_) ni (λj k hj hc=>h.p3 j k hj (ni j _ hj hc));by_cases aS:j=i;subst aS;rw[upd_same,xy];rw[upd_ne s x aS];have:=sumTo_upd s x (λy=>y.tok p) hi;have e:=Gq p;omega;have:=sumTo_upd s x (λy=>y.said) hi;have e:=h.said;omega;by_cases aS:j=i;subst aS;rw[upd_same];exact aT;rw[upd_ne s x aS];exact h.cP j hj
theorem y5.bd(h:y5 C all s cj cr ah aC){i:Nat}(hi:i<C.n+4)(c:j8 α)(xy:c.role=(s i).role)(Gq:∀p,c.tok p=(s i).tok p)(Pp:0=(s i).said)(aT:fi cj cr aC (.bd c)) (h1:c=.bg->∀j a rem,j<C.n+4->s j≠.bd (.cU a rem)) (h2:∀a rem,c=.cU a rem->∀j,j<C.n+4->s j≠.bd .bg) (h3:∀a,c=.b9 a->∀j g,j<C.n+4->s j≠.bd (.aZ g)) (h4:∀g,c=.aZ g->∀j a,j<C.n+4->s j≠.bd (.b9 a)) (h5:∀k,c=.bx k->ah=aC):y5 C all (upd s i (.bd c)) cj cr ah aC where
 role:=λj hj=>by by_cases aS:j=i;subst aS;rw[upd_same];exact xy.trans (h.role j hj);rw[upd_ne s _ aS];exact h.role j hj
 tok:=λp=>by have:=sumTo_upd s (.bd c) (λy=>y.tok p) hi;have e:(St.bd c).tok p=(s i).tok p:=Gq p;have e2:=h.tok p;omega
 le:=h.le;said:=by have:=sumTo_upd s (.bd c) (λy=>y.said) hi;have e:=h.said;have e2:(St.bd c).said=0:=rfl;omega
 cP:=λj hj=>by by_cases aS:j=i;subst aS;rw[upd_same];exact aT;rw[upd_ne s _ aS];exact h.cP j hj
 p1:=λj k hj hk e1 a rem e2=>by by_cases aS:j=i;subst aS;rw[upd_same]at e1;cases e1;by_cases Lb:k=j;subst Lb;rw[upd_same]at e2;cases e2;rw[upd_ne s _ Lb]at e2;exact h1 rfl k a rem hk e2;rw[upd_ne s _ aS]at e1;by_cases Lb:k=i;subst Lb;rw[upd_same]at e2;cases e2;exact h2 a rem rfl j hj e1;rw[upd_ne s _ Lb]at e2;exact h.p1 j k hj hk e1 a rem e2
 p2:=λj k hj hk a g e1 e2=>by by_cases aS:j=i;subst aS;rw[upd_same]at e1;cases e1;by_cases Lb:k=j;subst Lb;rw[upd_same]at e2;cases e2;rw[upd_ne s _ Lb]at e2;exact h3 a rfl k g hk e2;rw[upd_ne s _ aS]at e1;by_cases Lb:k=i;subst Lb;rw[upd_same]at e2;cases e2;exact h4 g rfl j a hj e1;rw[upd_ne s _ Lb]at e2;exact h.p2 j k hj hk a g e1 e2
 p3:=λj k hj e=>by by_cases aS:j=i;subst aS;rw[upd_same]at e;cases e;exact h5 k rfl;rw[upd_ne s _ aS]at e;exact h.p3 j k hj e
 fits:=h.fits
def y5.two(h:y5 C all s cj cr ah aC){i j}(hi:i<C.n+4)(hj:j<C.n+4)(kx:i≠j) x y(hx:x.role=(s i).role)(hy:y.role=(s j).role)(Gq:∀p,x.tok p+y.tok p=(s i).tok p+(s j).tok p)(Pp:x.said+y.said+ah=(s i).said+(s j).said+sent')(hle:rcvd'<=sent') (aT:∀k,k<C.n+4->k≠i->k≠j->fi cj cr rcvd' (s k)) (hsx:fi cj cr rcvd' x) (hsy:fi cj cr rcvd' y) (hpx:∀c,x≠.bd c) (hpy:∀c,y≠.bd c) (hp3:∀k q,k<C.n+4->k≠i->k≠j->s k=.bd (.bx q)->sent'=rcvd'):y5 C all (upd (upd s i x) j y) cj cr sent' rcvd':=by
 have mA:∀k,upd (upd s i x) j y k=if k=j then y else if k=i then x else s k:=λk=>rfl
 have ni:∀k c,k<C.n+4->upd (upd s i x) j y k=.bd c->k≠i/\k≠j/\s k=.bd c:=λk c hk hc=>by rw[mA]at hc;split at hc;exact absurd hc (hpy c);split at hc;exact absurd hc (hpx c);rename_i h1 h2;exact⟨h2,h1,hc⟩
 have e1:∀φ:St α->Nat,sumTo (C.n+4) (λk=>φ (upd (upd s i x) j y k))+φ (s i)+φ (s j)=sumTo (C.n+4) (λk=>φ (s k))+φ x+φ y:=λφ=>by have a:=sumTo_upd (upd s i x) y φ hj;have b:=sumTo_upd s x φ hi;rw[upd_ne s x (Ne.symm kx)]at a;omega
 refine h.zh (λk hk=>?_) (λp=>?_) hle ?_ (λk hk=>?_) (λk c hk hc=>(ni k c hk hc).2.2) (λk q hk hc=>?_);rw[mA];split;rename_i e;subst e;exact hy;split;rename_i e;subst e;exact hx;rfl;have:=e1 (λy=>y.tok p);have e:=Gq p;omega;have:=e1 (λy=>y.said);have e:=h.said;omega;rw[mA];split;exact hsy;split;exact hsx;rename_i a b;exact aT k hk b a;obtain⟨a,b,c⟩:=ni k _ hk hc;exact hp3 k q hk a b c
end
end Ph
namespace Ph
open Go.Conc Rn
open Go.ConcN (sumTo upd sumTo_upd upd_ne upd_same le_sumTo)
variable{α:Type}{C:j9 α}
def Quiet(u:Trace):Prop:=∀op∈u,op.act.touch? =none/\∀m,op.act≠.mark m
def Quiet.deaf{u}(h:Quiet u) t g:Deaf (t++u) g=Deaf t g:=by
 obtain⟨l⟩:=u;rw[Deaf_append];generalize Deaf t g=d;induction l with
 |nil=>rfl|cons y l ih=>
 have e:deafStep g d y=d:=by have:=(h y (by simp)).2;unfold deafStep;split;rename_i hh;exact absurd hh (this _);rename_i hh;exact absurd hh (this _);rfl
 rw[List.foldl_cons,e];exact ih (λop cI=>h op (by simp at cI|-;exact .inr cI))
def xh{said t u}(h:¬Race said t)(hu:∀op∈u,op.act.touch? =none):¬Race said (t++u):=by
 rintro⟨i,j,kx,⟨a,b,ha,hb,hc⟩,n1,n2⟩;obtain⟨x,hx,uT⟩:=touch_of ha;obtain⟨y,hy,hyb⟩:=touch_of hb;rcases getElem?_append_cases hy with⟨hj,hy'⟩|⟨hj,TK⟩;have hi:i<t.size:=Nat.lt_trans kx hj;have xq:t[i]? =some x:=by rw[<-getElem?_append_old (u:=u) hi];exact hx
 exact h ⟨i,j,kx,⟨a,b,by simp[Trace.act?,xq,uT],by simp[Trace.act?,hy',hyb],hc⟩,λe=>n1 (hb_app u e),λe=>n2 (hb_app u e)⟩;rw[hu y TK]at hyb;cases hyb
def jg.app{t u i ah aC sent'}(h:jg C t i ah aC)(hu:∀op∈u,op.g=i->op.act.touch? =none)(hs:ah<=sent'):jg C (t++u) i sent' aC:=by obtain⟨s,k,z,h1,h2,h3,h4,h5,h6,h7⟩:=h;have aM:=lt_size_of_getElem? h1;refine⟨s,k,z,by rw[getElem?_append_old aM];exact h1,h2,h3,by omega,(heard_old aM).2 h5,λp y a hp hy ha=>?_,λhk=>(h7 hk).app u⟩;rcases getElem?_append_cases hp with⟨_,JP⟩|⟨_,TK⟩;exact h6 p y a JP hy ha;rw[hu y TK hy]at ha;cases ha
def sV.app{t u}(h:sV C t)(hu:∀op∈u,C.gN op.g->op.g≠0->op.act.touch? =none):sV C (t++u):=by obtain⟨c,z,h1,h2,h3,h4,h5⟩:=h;have aM:=lt_size_of_getElem? h1;refine⟨c,z,by rw[getElem?_append_old aM];exact h1,h2,h3,(heard_old aM).2 h4,λp y a hp hg h0 ha=>?_⟩;rcases getElem?_append_cases hp with⟨_,JP⟩|⟨_,TK⟩;exact(h5 p y a JP hg h0 ha).app u;rw[hu y TK hg h0]at ha;cases ha
section
variable{t u:Trace}{D D':Nat->Pd α}{ah aC sent' rcvd':Nat}
def Tr.mute(h:Tr C t D ah aC)(hu:∀op∈u,op.act.touch? =none)(hX:∀g,(D' g).X=(D g).X)(Wx:∀i,C.gN i->(∀c,(D' i).st≠.bU c)->(∀c,(D i).st≠.bU c)∨∀p,Knows t 0 p->Knows (t++u) i p)(h0:∀c,(D 0).st≠.bU c) (hd:∀i,C.gN i->(∀r q,(D' i).st≠.old r q)->(∀r q,(D i).st≠.old r q)/\Deaf (t++u) i=Deaf t i) (hs:∀i q,i<C.n+4->(D' i).st=.old 1 q->jg C (t++u) i sent' rcvd') (nh:∀q,(D' (C.n+3)).st=.old 2 q->sV C (t++u)) (yQ:∀j,C.n+4<=j->Deaf (t++u) j=Deaf t j):Tr C (t++u) D' sent' rcvd' where
 clean:=λsaid=>xh (h.clean said) hu;touch:=λp a ha hm=>by obtain⟨x,hx,uT⟩:=touch_of ha;rcases getElem?_append_cases hx with⟨hp,xq⟩|⟨_,TM⟩;rcases h.touch p a (by rw[touchAt_of xq];exact uT) hm with hk|⟨op,h1,h2,h3⟩;refine .inl λi hi hc=>?_;rcases Wx i hi hc with h4|h4;exact(hk i hi h4).app u;exact h4 p (hk 0 (.inl rfl) h0);refine .inr ⟨op,by rw[getElem?_append_old hp];exact h1,h2,?_⟩;unfold TC at h3|-;rw[hX];exact h3;rw[hu x TM]at uT;cases uT
 deaf:=λi hi hc=>by obtain⟨h1,h2⟩:=hd i hi hc;rw[h2];exact h.deaf i hi h1
 said:=hs;shut:=nh;above:=λj hj=>(yQ j hj).trans (h.above j hj)
def DX{X Sh e}(h:TE X Sh e):(MemAct.ofEvent e).touch? =none∨∃a,(MemAct.ofEvent e).touch? =some a/\blk a.loc∈X/\(a.write=true->¬Sh (blk a.loc)):=by rcases h with rfl|⟨h1,⟨a,h2,h3,h4⟩|⟨r,h2,h3,h4⟩⟩;exact .inl rfl;obtain⟨loc,wr,sy⟩:=e;obtain rfl:loc=.cell a:=h2;obtain rfl:sy=false:=h1;refine .inr ⟨⟨.cell a,wr,.plain⟩,?_,h3,h4⟩;cases wr<;>rfl;obtain⟨loc,wr,sy⟩:=e;obtain rfl:loc=.obj r:=h2;obtain rfl:sy=false:=h1;refine .inr ⟨⟨.obj r,wr,.plain⟩,?_,h3,h4⟩;cases wr<;>rfl
def XX{X Sh es}(h:∀e∈es,TE X Sh e) d:deafBehind d es=d:=by
 obtain⟨l⟩:=es;unfold deafBehind;rw[<-Array.foldl_toList];show List.foldl _ d l=d;induction l with
 |nil=>rfl|cons e l ih=>
 rw[List.foldl_cons];have he:=h e (by simp);have:(match e.loc with|.mark .disable=>d+1|.mark .enable=>d-1|_=>d)=d:=by rcases he with rfl|⟨_,⟨a,h2,_⟩|⟨r,h2,_⟩⟩;rfl;rw[h2];rw[h2]
 refine(congrArg (λx=>List.foldl _ x l) this).trans ?_;exact ih λe' Py=>h e' (by simp at Py|-;exact .inr Py)
def Tr.own(h:Tr C t D ah aC){i}(hg:C.gN i){c}(hi:(D i).st=.live c) d'(aT:∃c',d'.st=.live c')(hX:∀b∈(D i).X,b∈d'.X){fn pos es}(he:∀e∈es,TE d'.X C.Sh e) (amq:∀j,C.gN j->j≠i->∀b,b∈d'.X->b∈(D j).X->C.Sh b) (Pz:C.N.J∉d'.X/\C.N.R∉d'.X) (alG:i=0∨∀q,(D (C.n+3)).st≠.old 2 q) (aM:i<C.n+4):Tr C (t++MemOp.ofEvents i fn pos es) (upd D i d') ah aC:=by
 have bL:∀op∈MemOp.ofEvents i fn pos es,op.g=i:=λop cI=>by obtain⟨e,_,rfl⟩:=Go.Conc.mem_ofEvents cI;rfl
 have hnu:∀c,(D i).st≠.bU c:=λc e=>by rw[hi]at e;cases e
 have um:∀r q,(D i).st≠.old r q:=λr q e=>by rw[hi]at e;cases e
 refine⟨λsaid=>noRace_append (h.clean said) bL λp a ha op cI b hb hc=>?_,λp a ha hm=>?_,λj hj hjo=>?_,λj q hj hq=>?_,λq hq=>?_,λj hj=>(Deaf_other t (g':=i) (by omega) _ bL).trans (h.above j hj)⟩;rcases h.touch p a ha hc.2.1 with hk|⟨o,h1,h2,h3⟩;exact hk i hg hnu;by_cases MT:o.g=i;have:=knows_own h1;rwa[MT]at this;exfalso;obtain⟨e,hem,rfl⟩:=Go.Conc.mem_ofEvents cI;rcases DX (he e hem)with hn|⟨b',nC,ux,fT⟩;rw[hn]at hb;cases hb;rw[nC]at hb;cases hb;rcases h3 with⟨h4,h5⟩|⟨h4,h5⟩;rw[hc.1]at h4 h5;have nh:=amq o.g h2 MT _ ux h4;rcases hc.2.2.1 with hw|hw;exact h5 hw nh;exact fT hw nh;rw[hc.1]at h5;rcases h5 with h5|h5<;>rw[h5]at ux;exact Pz.1 ux;exact Pz.2 ux;obtain⟨x,hx,uT⟩:=touch_of ha;rcases getElem?_append_cases hx with⟨hp,xq⟩|⟨_,TM⟩;rcases h.touch p a (by rw[touchAt_of xq];exact uT) hm with hk|⟨op,h1,h2,h3⟩;refine .inl λj hj hc=>(hk j hj λc e=>?_).app _;by_cases aS:j=i;subst aS;exact hnu c e;exact hc c (by rw[upd_ne D d' aS];exact e);refine .inr ⟨op,by rw[getElem?_append_old hp];exact h1,h2,?_⟩;by_cases MT:op.g=i;unfold TC at h3|-;rw[MT]at h3|-;rw[upd_same];rcases h3 with⟨h4,h5⟩|h4;exact .inl ⟨hX _ h4,h5⟩;exact .inr h4;unfold TC at h3|-;rw[upd_ne D d' MT];exact h3;refine .inr ⟨x,hx,by rw[bL x TM];exact hg,?_⟩;obtain⟨e,hem,rfl⟩:=Go.Conc.mem_ofEvents TM;rcases DX (he e hem)with hn|⟨b',nC,ux,fT⟩;rw[hn]at uT;cases uT;rw[nC]at uT;cases uT;unfold TC;rw[upd_same];exact .inl ⟨ux,fT⟩;by_cases aS:j=i;subst aS;rw[Deaf_own,XX he];exact h.deaf j hj um;rw[Deaf_other t (g':=i) (Ne.symm aS) _ bL];exact h.deaf j hj λr q e=>hjo r q (by rw[upd_ne D d' aS];exact e);have aS:j≠i:=λe=>by subst e;obtain⟨c',e'⟩:=aT;rw[upd_same,e']at hq;cases hq
 rw[upd_ne D d' aS]at hq;exact(h.said j q hj hq).app (λop cI hg=>absurd ((bL op cI).symm.trans hg) (Ne.symm aS)) ν;have aS:C.n+3≠i:=λe=>by obtain⟨c',e'⟩:=aT;rw[e,upd_same,e']at hq;cases hq
 rw[upd_ne D d' aS]at hq;rcases alG with rfl|hs;exact(h.shut q hq).app λop cI _ h0=>absurd (bL op cI) h0;exact absurd hq (hs q)
end
end Ph
namespace Ph
open Go.Conc Rn
open Go.ConcN (sumTo upd sumTo_upd upd_ne upd_same le_sumTo)
open Tp (cO Term Ld)
variable{α:Type}{C:j9 α}
def j8.UG:j8 α->Bool
 |.bg|.b9 _|.fg|.cU _ _|.bx _|.aZ _=>true|_=>false
def dU(g:Goroutine)(v:Value):Goroutine:={g with frame:=g.frame.finish v,status:=.running,offers:=none}
structure yA(C:j9 α):Prop where
 code:∀f fn b,C.E.F f->C.P.funcs[f]? =some fn->fn.body=some b->gr C.P C.E b
 bp:Zh C.P C.E
 anz:C.P.globals.size<=C.E.G
 Yd:∀r b,C.E.C r=some b->r<C.E.G
 re:∀c g v τ n,C.N.A c g v->C.N.A c g (v.re τ n)
 Qp:∀c g v,C.N.A c g v->¬yz g
 started:∀i,C.n<=i->i<C.n+4->C.E.F (C.f i)/\∃fn,C.P.funcs[C.f i]? =some fn
 act:∀c X R g v g',c.UG=true->C.N.A c g v->GR C.P C.E X R g g'->∀b w,stepG C.P b g' w=.comm {g' with status:=.running,offers:=none} (C.N.cases c) true (C.N.shape c) w #[]
 CC:∀c ch X R g v g',(c=.fb/\ch=C.N.J∨c=.dk/\ch=C.N.R)->C.N.A c g v->GR C.P C.E X R g g'->mayWake C.P g'=true/\∀b w s r,w.heap[ch]? =some (.chan 0 #[] false s r false)->
  stepG C.P b g' w=.go (dU g' (.tuple #[])) {w with heap:=w.heap.setIfInBounds ch (.chan 0 #[] true s r false)} #[⟨.obj ch,false,true⟩,⟨.obj ch,true,true⟩]
 app0:∀X Y,C.ok0 X->C.ok0 (X++Y)
 KR:∀k X R g v g',k<=3->C.ok0 X->C.N.A (.spawn k) g v->GR C.P C.E X R g g'->∀b w,stepG C.P b g' w=.spawn (dU g' undef) (jd C.P (C.d (C.n+k))) w #[]
 Li:(∀a,Rn.Clean (C.N.jv a))/\(∀a,Rn.Clean (C.N.fv a))/\Rn.Clean C.N.dv/\Rn.Clean C.N.zJ/\Rn.Clean C.N.zR
 tx:∀a rem g v,C.N.A (.cU a rem) g v->C.N.TX a
 VS:∀a g v,C.N.A .bg g v->C.N.TX a->Term C.P (C.N.Stop (.b9 a)) (Go.Conc.served g (.tuple #[C.N.jv a,.bool true])) v
 acs:∀g v,C.N.A .bg g v->Term C.P (C.N.Stop .fg) (Go.Conc.served g (.tuple #[C.N.zJ,.bool false])) v
 VN:∀a g v,C.N.A (.b9 a) g v->Term C.P (C.N.Stop .bg) (Go.Conc.served g undef) v
 VQ:∀X g v g',C.N.A .fg g v->GR C.P C.E X [base C.P] g g'->∃q,QuitsD C.P q 0 (Go.Conc.served g' undef)
 VP:∀a rem g v,C.N.A (.cU a rem) g v->Term C.P (C.N.Stop (.feed rem)) (Go.Conc.served g undef) v
 OT:∀g v,C.N.A .fb g v->Term C.P (C.N.Stop (.bx 0)) (dU g (.tuple #[])) v
 Mh:∀k g v,k<2->C.N.A (.bx k) g v->Term C.P (C.N.Stop (.bx (k+1))) (Go.Conc.served g C.N.dv) v
 Ge:∀g v,C.N.A (.bx 2) g v->Term C.P (C.N.Stop .dk) (Go.Conc.served g C.N.dv) v
 OS:∀X g v g',C.N.A .dk g v->GR C.P C.E X [base C.P] g g'->∃q,QuitsD C.P q 0 (dU g' (.tuple #[]))
 VM:∀k g v,k<3->C.N.A (.spawn k) g v->Term C.P (C.N.Stop (.spawn (k+1))) (dU g undef) v
 OQ:∀g v,C.N.A (.spawn 3) g v->Term C.P (C.N.Stop (.aZ [])) (dU g undef) v
 VR:∀a bC g v,(a::bC).length<=C.top->C.N.A (.aZ bC) g v->Term C.P (C.N.Stop (.aZ (a::bC))) (Go.Conc.served g (.tuple #[C.N.fv a,.bool true])) v
def yA.stop(L:yA C) c g v(h:C.N.Stop c g v):¬yz g:=by
 cases c with
 |feed rem=>rcases h with⟨a,r,_,h⟩|⟨_,h⟩;exact L.Qp _ _ _ h;exact L.Qp _ _ _ h
 |_=>exact L.Qp _ _ _ h
def EU{P E X R g g' h h'}(hg:GR P E X R g g'){u u'}(hu:V E X u u')(e1:h=dU g u)(e2:h'=dU g' u'):GR P E X R h h':=by subst e1;subst e2;exact⟨⟨rfl,rfl⟩,hg.dy,hg.frame.finish hu,hg.callers⟩
def El{E Sh X v w}(h:WR E Sh X v w):WR E Sh X (v.re w.tape w.drawn) w:=by
 have:v.re w.tape w.drawn=v:=by rw[<-h.tape,<-h.drawn];rfl
 rw[this];exact h
def Inv.gN{all gs w t D cj cr ah aC}(h:Inv C all gs w t D cj cr ah aC){i}(hi:i<C.n+4)(hr:(D i).st.role≠0):C.gN i:=by have:=h.dg.role i hi;unfold j9.rl at this;unfold j9.gN;by_cases h0:i=0;exact .inl h0;refine .inr ⟨?_,hi⟩;apply Classical.byContradiction;intro hc;rw[if_neg h0,if_pos (by omega)]at this;exact hr this
def Inv.Gw{all gs w t D cj cr ah aC}(h:Inv C all gs w t D cj cr ah aC){i}(hi:C.gN i):i<C.n+4:=by have:=h.pos;rcases hi with rfl|⟨_,hi⟩<;>omega
def jV(c:j8 α):c.role≠0:=by cases c<;>simp[j8.role]
section
variable{all:List α}{gs:Array Goroutine}{w:World}{t:Trace}{D:Nat->Pd α}{cj cr:Bool}{ah aC:Nat}{sl:Option (Nat×Nat)}
def VT(L:yA C)(I:Inv C all gs w t D cj cr ah aC)(T:Tr C t D ah aC){i}(hi:i<C.n+4){c}(aT:(D i).st=.live c)(hn:¬C.N.Stop c (D i).g (D i).v):∃gs' w' u D',runT C.P (crowd gs w sl) i=(.next (crowd gs' w' sl),u)/\Inv C all gs' w' (t++u) D' cj cr ah aC/\Tr C (t++u) D' ah aC/\NQ (Dn C.P C.N) (C.n+4) D' D/\(∀j,(D' j).st=(D j).st)/\Kept C w w' D D':=by
 have dR:=I.ok i hi;unfold Ok at dR;rw[aT]at dR;obtain⟨g',hx,jO,WB⟩:=dR;have acC:=I.vd i hi;obtain⟨g1,v1,Y,XK,w1,iy,amo,ahV,uj,atU,n7,gm⟩:=U2 L.code L.bp L.anz L.Yd (L.stop c) jO WB hn acC (i==0);have aM:i<gs.size:=(Array.getElem?_eq_some_iff.1 hx).1;have Xm:∀(ch:Nat)(o:Obj),(∃cap buf cl s r tm,o=.chan cap buf cl s r tm)->w.heap[ch]? =some o->w1.heap[ch]? =some o:=by rintro ch o⟨cap,buf,cl,s,r,tm,rfl⟩h;rw[n7.others ch (Array.getElem?_eq_some_iff.1 h).1 (λhm=>acC.vL C hm h)];exact h
 have hJ:∃s r,w1.heap[C.N.J]? =some (.chan 0 #[] cj s r false):=let⟨s,r,h⟩:=I.CZ;⟨s,r,Xm _ _ ⟨_,_,_,_,_,_,rfl⟩ h⟩;have hR:∃s r,w1.heap[C.N.R]? =some (.chan 0 #[] cr s r false):=let⟨s,r,h⟩:=I.DF;⟨s,r,Xm _ _ ⟨_,_,_,_,_,_,rfl⟩ h⟩;have hD:=Xm _ _ ⟨_,_,_,_,_,_,rfl⟩ I.GJ;have cF:=runT_crowd_go (P:=C.P) (sl:=sl) hx uj;rw[I.woken hJ hR ⟨_,_,_,hD⟩]at cF;have bL:∀op∈MemOp.ofEvents i g'.frame.fn g'.frame.place iy,op.g=i:=λop cI=>by obtain⟨e,_,rfl⟩:=Go.Conc.mem_ofEvents cI;rfl
 let d':Pd α:=⟨.live c,g1,v1,(D i).X++Y⟩;have ais:∀j,(upd D i d' j).st=(D j).st:=λj=>by by_cases aS:j=i;subst aS;rw[upd_same];exact aT.symm;rw[upd_ne D d' aS]
 have Nd:∀j,j≠i->(upd D i d' j)=D j:=λj hj=>upd_ne D d' hj;have lG:∀j,j<C.n+4->j≠i->∀b,b∈(D i).X++Y->b∈(D j).X->C.Sh b:=λj hj aS b hb Dz=>by rcases List.mem_append.1 hb with hb|hb;exact I.Ns i j hi hj (Ne.symm aS) b hb Dz;have h1:=(n7.fresh b hb).1;have h2:=(I.vd j hj).lt C Dz;omega
 have ry:C.gN i:=I.gN hi (by rw[aT];exact jV c);refine⟨_,w1,_,upd D i d',cF,?_,?_,⟨i,hi,?_,λj hj=>Nd j hj⟩,ais,⟨n7.size,λb hb _ _ _ hx=>hx.elim (λhx=>n7.others b hb (hx i hi)) (λhx=>n7.shared b hx),λj=>?_,n7.os,n7.output,n7.tape⟩⟩;refine⟨I.pos,λj hj=>?_,by simpa using I.size,λj hj=>?_,λj k hj hk Y9 b Dz PF=>?_,?_,hJ,hR,hD,I.ne,?_⟩;by_cases aS:j=i;subst aS;rw[upd_same,Array.getElem?_setIfInBounds_self_of_lt aM];exact⟨XK,rfl,atU,ahV⟩;rw[Nd j aS,Array.getElem?_setIfInBounds_ne (Ne.symm aS)];exact(I.ok j hj).trace C (Deaf_other t (g':=i) (Ne.symm aS) _ bL);by_cases aS:j=i;subst aS;rw[upd_same];exact El n7.rel;rw[Nd j aS];exact(I.vd j hj).other C n7 λb h1 h2=>I.Ns j i hj hi aS b h1 h2;by_cases aS:j=i;subst aS;rw[upd_same]at Dz;rw[Nd k (Ne.symm Y9)]at PF;exact lG k hk (Ne.symm Y9) b Dz PF;rw[Nd j aS]at Dz;by_cases Lb:k=i;subst Lb;rw[upd_same]at PF;exact lG j hj aS b PF Dz;rw[Nd k Lb]at PF;exact I.Ns j k hj hk Y9 b Dz PF;rw[ais,Array.size_setIfInBounds];exact I.main;have:bj (upd D i d')=bj D:=funext ais;rw[this];exact I.dg;obtain⟨s1,r1,e1⟩:=hJ;obtain⟨s2,r2,e2⟩:=hR;have hrel:=El n7.rel;refine T.own ry aT d' ⟨c,rfl⟩ (λb hb=>List.mem_append_left _ hb) gm (λj hj aS b hb Dz=>lG j (I.Gw hj) aS b hb Dz) ⟨λhm=>?_,λhm=>?_⟩ ?_ hi;exact jf.vL C (d:=d') hrel hm e1;exact jf.vL C (d:=d') hrel hm e2;by_cases h0:i=0;exact .inl h0;refine .inr λq hq=>?_;have yM:fi cj cr aC (D (C.n+3)).st:=I.dg.cP (C.n+3) (by omega);rw[hq]at yM;have oO:fi cj cr aC (D i).st:=I.dg.cP i hi;have kK:(D i).st.role=C.rl i:=I.dg.role i hi;rw[aT]at oO kK;obtain⟨_,lO,_⟩:=yM;have JY:c.role≠3:=by rw[show c.role=C.rl i from kK];unfold j9.rl;rw[if_neg h0];split;omega;split<;>omega
 cases c with
 |bg=>have:cr=false:=oO;rw[this]at lO;cases lO
 |b9 a=>have:cr=false:=oO;rw[this]at lO;cases lO
 |fg=>have:cj=true/\cr=false:=oO;rw[this.2]at lO;cases lO
 |feed rem=>have:cj=false/\cr=false/\_:=oO;rw[this.2.1]at lO;cases lO
 |cU a rem=>exact oO.elim|fb=>exact oO.elim
 |bx k=>have:cj=true/\cr=false/\_:=oO;rw[this.2.1]at lO;cases lO
 |dk=>have:cj=true/\cr=false/\_:=oO;rw[this.2.1]at lO;cases lO
 |spawn k=>exact absurd rfl JY|aZ bC=>exact absurd rfl JY
 show Dn C.P C.N (upd D i d' i) (D i);rw[upd_same];exact .inl ⟨c,aT,rfl,amo⟩;by_cases aS:j=i;subst aS;rw[upd_same];exact⟨Y,rfl,λb hb=>(n7.fresh b hb).1⟩;rw[Nd j aS];exact⟨[],by rw[List.append_nil],λ_ h=>by cases h⟩
def VU(I:Inv C all gs w t D cj cr ah aC)(T:Tr C t D ah aC){i}(hi:i<C.n+4)(hpos:0<i){r q}(aT:(D i).st=.old r q){x}(hx:gs[i]? =some x)(hr:x.status=.running):∃gs' w' u D',runT C.P (crowd gs w sl) i=(.next (crowd gs' w' sl),u)/\Inv C all gs' w' (t++u) D' cj cr ah aC/\Tr C (t++u) D' ah aC/\NQ (Dn C.P C.N) (C.n+4) D' D/\(∀φ:St α->Nat,(∀r a b,φ (.old r a)=φ (.old r b))->∀j,φ (D' j).st=φ (D j).st)/\Kept C w w' D D':=by
 have dR:=I.ok i hi;unfold Ok at dR;rw[aT]at dR;obtain⟨⟨y,hy,hq⟩,Gv⟩:=dR;rw[hx]at hy;cases hy;cases q with
 |zero=>rw[hq.1]at hr;cases hr
 |succ k=>
 rcases hq with⟨hf,_⟩|⟨_,g',es,hm,ahY,hq'⟩;rw[hf]at hr;cases hr;have fy:(i==0)=false:=by simp;omega
 have aM:i<gs.size:=(Array.getElem?_eq_some_iff.1 hx).1;have cF:=runT_crowd_go (P:=C.P) (w:=w) (sl:=sl) hx (by rw[fy];exact ahY w);rw[I.woken I.CZ I.DF ⟨_,_,_,I.GJ⟩]at cF;have bL:∀op∈MemOp.ofEvents i x.frame.fn x.frame.place es,op.g=i:=λop cI=>by obtain⟨e,_,rfl⟩:=Go.Conc.mem_ofEvents cI;rfl
 let d':Pd α:=⟨.old r k,(D i).g,(D i).v,(D i).X⟩;have hX:∀j,(upd D i d' j).X=(D j).X:=λj=>by by_cases aS:j=i;subst aS;rw[upd_same];rw[upd_ne D d' aS]
 have hv:∀j,(upd D i d' j).v=(D j).v:=λj=>by by_cases aS:j=i;subst aS;rw[upd_same];rw[upd_ne D d' aS]
 have cE:∀j,j≠i->upd D i d' j=D j:=λj hj=>upd_ne D d' hj;have lE:bj (upd D i d')=upd (bj D) i (.old r k):=by funext j;by_cases aS:j=i;subst aS;show(upd D j d' j).st=_;rw[upd_same,upd_same];show(upd D i d' j).st=_;rw[upd_ne D d' aS,upd_ne _ _ aS];rfl
 have xy:=I.dg.cP i hi;have JV:∀j,j≠i->Deaf (t++MemOp.ofEvents i x.frame.fn x.frame.place es) j=Deaf t j:=λj hj=>Deaf_other t (g':=i) (Ne.symm hj) _ bL;have Xa:∀op∈MemOp.ofEvents i x.frame.fn x.frame.place es,op.act.touch? =none:=λop cI=>by obtain⟨e,he,rfl⟩:=Go.Conc.mem_ofEvents cI;exact touch_mute (hm e he)
 refine⟨_,w,_,upd D i d',cF,⟨I.pos,λj hj=>?_,by simpa using I.size,λj hj=>?_,λj k hj hk Y9 b Dz PF=>?_,?_,I.CZ,I.DF,I.GJ,I.ne,?_⟩,?_,⟨i,hi,?_,cE⟩,λφ hφ j=>?_,jN hX rfl rfl rfl rfl⟩;by_cases aS:j=i;subst aS;rw[upd_same,Array.getElem?_setIfInBounds_self_of_lt aM];exact⟨⟨g',rfl,by rw[Deaf_own];exact hq'⟩,Gv⟩;rw[cE j aS,Array.getElem?_setIfInBounds_ne (Ne.symm aS)];exact(I.ok j hj).trace C (JV j aS);unfold jf;rw[hX,hv];exact I.vd j hj;rw[hX]at Dz PF;exact I.Ns j k hj hk Y9 b Dz PF;rw[cE 0 (by omega),Array.size_setIfInBounds];exact I.main;rw[lE];have e1:(bj D i)=.old r (k+1):=aT;refine I.dg.one hi _ (by rw[e1];rfl) (λp=>by rw[e1];rfl) (by rw[e1];cases r with|zero=>rfl|succ r=>cases r<;>rfl) ?_ (λc e=>by cases e);have h2:fi cj cr aC (D i).st:=I.dg.cP i hi;rw[aT]at h2;match r,h2 with
 |0,h2=>exact h2
 |1,h2=>exact h2
 |2,h2=>exact h2
 |r+3,h2=>exact h2
 have hold:∀j r' q',(upd D i d' j).st=.old r' q'->∃q'',(D j).st=.old r' q'':=λj r' q' e=>by by_cases aS:j=i;subst aS;rw[upd_same]at e;cases e;exact⟨_,aT⟩;rw[cE j aS]at e;exact⟨_,e⟩
 refine T.mute Xa hX (λj hj hc=>.inl λc e=>?_) (λc e=>?_) (λj hj hc=>?_) (λj q' hj e=>?_) (λq' e=>?_) (λj hj=>JV j (by omega));by_cases aS:j=i;subst aS;rw[aT]at e;cases e;exact hc c (by rw[cE j aS];exact e);rcases I.main with⟨_,_,h,_⟩|⟨⟨_,h|h⟩,_⟩<;>rw[h]at e<;>cases e;have aS:j≠i:=λe=>by subst e;exact hc r k (by rw[upd_same])
 rw[cE j aS]at hc;exact⟨hc,JV j aS⟩;obtain⟨q'',h⟩:=hold j 1 q' e;exact(T.said j q'' hj h).app (λop cI _=>Xa op cI) ν;obtain⟨q'',h⟩:=hold _ 2 q' e;exact(T.shut q'' h).app λop cI _ _=>Xa op cI;rw[upd_same];exact .inr ⟨r,k,aT,rfl⟩;by_cases aS:j=i;subst aS;rw[upd_same,aT];exact hφ r k (k+1);rw[cE j aS]
end
end Ph
namespace Ph
open Go.Conc Rn
open Go.ConcN (sumTo upd sumTo_upd upd_ne upd_same le_sumTo)
open Tp (cO Term Ld)
variable{α:Type}{C:j9 α}
section
variable{all:List α}{gs gs':Array Goroutine}{w w':World}{t u:Trace}{D D':Nat->Pd α}{cj cr cj' cr':Bool}{ah aC sent' rcvd':Nat}{sl:Option (Nat×Nat)}
def abK(D' D:Nat->Pd α):Prop:=∀j,(D' j).X=(D j).X/\(D' j).v=(D j).v
def Inv.quiet(I:Inv C all gs w t D cj cr ah aC)(hS:abK D' D)(hu:Quiet u)(dR:∀j,j<C.n+4->(D' j=D j/\gs'[j]? =gs[j]?)∨Ok C t j gs'[j]? (D' j))(lC:gs'.size<=C.n+4)(hw:∀j,j<C.n+4->jf C w (D j)->jf C w' (D j)) (xA:(∃k,k<=3/\(D' 0).st=.live (.spawn k)/\gs'.size=C.n+k)∨((∃bC,(D' 0).st=.live (.aZ bC)∨(D' 0).st=.bd (.aZ bC))/\gs'.size=C.n+4)) (hJ:∃s r,w'.heap[C.N.J]? =some (.chan 0 #[] cj' s r false)) (hR:∃s r,w'.heap[C.N.R]? =some (.chan 0 #[] cr' s r false)) (hD:w'.heap[C.N.D]? =some (.chan 3 (Array.replicate (sent'-rcvd') C.N.dv) false sent' rcvd' false)) (dg:y5 C all (bj D') cj' cr' sent' rcvd'):Inv C all gs' w' (t++u) D' cj' cr' sent' rcvd':=⟨I.pos,λj hj=>by
 rcases dR j hj with⟨h1,h2⟩|h;rw[h1,h2];exact(I.ok j hj).trace C (hu.deaf t j);exact h.trace C (hu.deaf t j),lC,λj hj=>by
 have:=hw j hj (I.vd j hj);unfold jf at this|-;rw[(hS j).1,(hS j).2];exact this,λj k hj hk Y9 b Dz PF=>I.Ns j k hj hk Y9 b (by rw[<-(hS j).1];exact Dz) (by rw[<-(hS k).1];exact PF),xA,hJ,hR,hD,I.ne,dg⟩
def Inv.zero(I:Inv C all gs w t D cj cr ah aC):∀c,(D 0).st≠.bU c:=λc e=>by rcases I.main with⟨_,_,h,_⟩|⟨⟨_,h|h⟩,_⟩<;>rw[h]at e<;>cases e
def Tr.quiet(I:Inv C all gs w t D cj cr ah aC)(T:Tr C t D ah aC)(hS:abK D' D)(hu:Quiet u)(Wx:∀j c,(D j).st=.bU c->∃c',(D' j).st=.bU c')(ho:∀j r q,(D j).st=.old r q->∃r' q',(D' j).st=.old r' q') (hs:∀j q,j<C.n+4->(D' j).st=.old 1 q->jg C (t++u) j sent' rcvd') (nh:∀q,(D' (C.n+3)).st=.old 2 q->∃q',(D (C.n+3)).st=.old 2 q'):Tr C (t++u) D' sent' rcvd':=T.mute (λop cI=>(hu op cI).1) (λj=>(hS j).1) (λj _ hc=>.inl λc e=>by obtain⟨c',h⟩:=Wx j c e;exact hc c' h) I.zero (λj _ hc=>⟨λr q e=>by obtain⟨r',q',h⟩:=ho j r q e;exact hc r' q' h,hu.deaf t j⟩) hs (λq e=>by obtain⟨q',h⟩:=nh q e;exact(T.shut q' h).app λop cI _ _=>(hu op cI).1) (λj _=>hu.deaf t j)
def eN D i(d:Pd α):bj (upd D i d)=upd (bj D) i d.st:=by funext j;by_cases aS:j=i;subst aS;show(upd D j d j).st=_;rw[upd_same,upd_same];show(upd D i d j).st=_;rw[upd_ne D d aS,upd_ne _ _ aS];rfl
def Pd.to(d:Pd α)(s:St α)(g:Goroutine):Pd α:=⟨s,g,d.v,d.X⟩
def oZ D i(s:St α) g:abK (upd D i ((D i).to s g)) D:=λj=>by by_cases aS:j=i;subst aS;rw[upd_same];exact⟨rfl,rfl⟩;rw[upd_ne D _ aS];exact⟨rfl,rfl⟩
def mS D i j(s s':St α) g g':abK (upd (upd D i ((D i).to s g)) j ((D j).to s' g')) D:=λk=>by by_cases hkj:k=j;subst hkj;rw[upd_same];exact⟨rfl,rfl⟩;rw[upd_ne _ _ hkj];exact oZ D i s g k
def qy:Quiet (#[]:Trace):=λop cI=>by simp at cI
def Te{P E}(hB:Zh P E){f fn}(hF:E.F f)(hf:P.funcs[f]? =some fn) a b w:stepG P b (jd P {target:=.fn (.func f) a,args:=#[]}) w=.go {frame:=Frame.enter P f a .deferred,callers:=[base P],status:=.running,dying:=none} w #[]:=by
 obtain⟨h1,h2⟩:=hB f fn hF hf;have e1:stepG P b (jd P {target:=.fn (.func f) a,args:=#[]}) w=callDeferred P (base P) [] none {target:=.fn (.func f) a,args:=#[]} w:=rfl;rw[e1];unfold callDeferred;have cF:(invoke (.fn (.func f) a) #[]).runT P w #[]=(.ok (.enter f a) w,#[]):=by show(callFunc f (#[]++a)).runT P w #[]=_;rw[Array.empty_append];unfold callFunc;show Sem.runT P (match P.funcs[f]? with|none=>stuck "call: no such function" |some fn=>_) w #[]=_;rw[hf];simp only[h1,h2,Bool.false_eq_true,if_false];rfl
 simp only[cF];rfl
def RF(L:yA C)(I:Inv C all gs w t D cj cr ah aC)(T:Tr C t D ah aC){i}(hi:i<C.n+4){c}(aT:(D i).st=.born c):∃gs' w' u D',runT C.P (crowd gs w sl) i=(.next (crowd gs' w' sl),u)/\Inv C all gs' w' (t++u) D' cj cr ah aC/\Tr C (t++u) D' ah aC/\bj D'=upd (bj D) i (.live c)/\Kept C w w' D D':=by
 have dR:=I.ok i hi;unfold Ok at dR;rw[aT]at dR;obtain⟨hx,hR,jO,WB⟩:=dR;have aM:i<gs.size:=(Array.getElem?_eq_some_iff.1 hx).1;have WL:=I.dg.role i hi;have lO:c.role=C.rl i:=by have:(D i).st.role=C.rl i:=WL;rw[aT]at this;exact this
 have hc:c=.bg/\cr=false∨∃rem,c=.feed rem/\cj=false/\cr=false/\aC=0:=by have:=I.dg.cP i hi;rw[show bj D i=.born c from aT]at this;cases c<;>first|exact .inl ⟨rfl,this⟩|exact .inr ⟨_,rfl,this⟩|exact this.elim
 have hpos:C.n<=i:=by
  have h1:c.role=1∨c.role=2:=by rcases hc with⟨rfl,_⟩|⟨_,rfl,_⟩<;>simp[j8.role]
  unfold j9.rl at lO;apply Classical.byContradiction;intro hn;by_cases h0:i=0;rw[if_pos h0]at lO;omega;rw[if_neg h0,if_pos (by omega)]at lO;omega
 have fy:=I.pos;obtain⟨hF,fn,hf⟩:=L.started i hpos hi;have uj:=Te (P:=C.P) L.bp hF hf (C.a i) (i==0) w;have cF:=runT_crowd_go (P:=C.P) (sl:=sl) hx uj;rw[I.woken I.CZ I.DF ⟨_,_,_,I.GJ⟩]at cF;have hu:MemOp.ofEvents i (jd C.P (C.d i)).frame.fn (jd C.P (C.d i)).frame.place #[]=#[]:=rfl;rw[hu]at cF;have hS:=oZ D i (.live c) (D i).g;refine⟨_,w,#[],_,cF,I.quiet hS qy (λj hj=>?_) (by simpa using I.size) (λ_ _ h=>h) ?_ I.CZ I.DF I.GJ ?_,T.quiet I hS qy (λj c' e=>?_) (λj r q e=>?_) (λj q hj e=>?_) (λq e=>?_),eN _ _ _,jN (λj=>(hS j).1) rfl rfl rfl rfl⟩;by_cases aS:j=i;subst aS;refine .inr ?_;rw[upd_same,Array.getElem?_setIfInBounds_self_of_lt aM];exact⟨_,rfl,jO,WB⟩;exact .inl ⟨upd_ne D _ aS,Array.getElem?_setIfInBounds_ne (Ne.symm aS)⟩;rw[upd_ne D _ (by omega),Array.size_setIfInBounds];exact I.main;rw[eN];have e1:bj D i=.born c:=aT;refine I.dg.one hi _ (by rw[e1];rfl) (λp=>by rw[e1];rfl) (by rw[e1];rfl) ?_ (λc e=>by cases e);rcases hc with⟨rfl,h⟩|⟨rem,rfl,h⟩<;>exact h;by_cases aS:j=i;subst aS;rw[aT]at e;cases e;exact⟨c',by rw[upd_ne D _ aS];exact e⟩;by_cases aS:j=i;subst aS;rw[aT]at e;cases e;exact⟨r,q,by rw[upd_ne D _ aS];exact e⟩;by_cases aS:j=i;subst aS;rw[upd_same]at e;cases e;rw[upd_ne D _ aS]at e;rw[Array.append_empty];exact T.said j q hj e;by_cases aS:C.n+3=i;rw[aS,upd_same]at e;cases e;rw[upd_ne D _ aS]at e;exact⟨q,e⟩
def j2{P E X R g g'}(h:GR P E X R g g'):GR P E X R g {g' with status:=.running,offers:=none}:=⟨⟨h.run.1,rfl⟩,h.dy,h.frame,h.callers⟩
def na(L:yA C)(I:Inv C all gs w t D cj cr ah aC)(T:Tr C t D ah aC){i}(hi:i<C.n+4){c0 c}(aT:(D i).st=.live c0)(hA:C.N.A c (D i).g (D i).v)(aly:c.UG=true)(xy:c.role=c0.role)(Gq:∀p,c.tok p=c0.tok p) (um:∀cc∈C.N.cases c,NoWays w (gs.setIfInBounds i ph) cc) (cX:fi cj cr aC (.bd c)) (h1:c=.bg->∀j a rem,j<C.n+4->(D j).st≠.bd (.cU a rem)) (h2:∀a rem,c=.cU a rem->∀j,j<C.n+4->(D j).st≠.bd .bg) (h3:∀a,c=.b9 a->∀j g,j<C.n+4->(D j).st≠.bd (.aZ g)) (h4:∀g,c=.aZ g->∀j a,j<C.n+4->(D j).st≠.bd (.b9 a)) (h5:∀k,c=.bx k->ah=aC) (xA:i=0->∃bC,c0=.aZ bC/\c=.aZ bC):∃gs' w' u D',runT C.P (crowd gs w sl) i=(.next (crowd gs' w' sl),u)/\Inv C all gs' w' (t++u) D' cj cr ah aC/\Tr C (t++u) D' ah aC/\bj D'=upd (bj D) i (.bd c)/\Kept C w w' D D':=by have dR:=I.ok i hi;unfold Ok at dR;rw[aT]at dR;obtain⟨g',hx,jO,_⟩:=dR;have aM:i<gs.size:=(Array.getElem?_eq_some_iff.1 hx).1;have lP:=L.act c _ _ _ _ _ aly hA jO (i==0) w;have cF:=crowd_waits (P:=C.P) (sl:=sl) hx lP um;have hu:MemOp.ofEvents i g'.frame.fn g'.frame.place #[]=#[]:=rfl;rw[hu]at cF;have hS:=oZ D i (.bd c) (D i).g;refine⟨_,w,#[],_,cF,I.quiet hS qy (λj hj=>?_) (by simpa using I.size) (λ_ _ h=>h) ?_ I.CZ I.DF I.GJ ?_,T.quiet I hS qy (λj c' e=>?_) (λj r q e=>?_) (λj q hj e=>?_) (λq e=>?_),eN _ _ _,jN (λj=>(hS j).1) rfl rfl rfl rfl⟩;by_cases aS:j=i;subst aS;refine .inr ?_;rw[upd_same,Array.getElem?_setIfInBounds_self_of_lt aM];exact⟨_,rfl,j2 jO,hA⟩;exact .inl ⟨upd_ne D _ aS,Array.getElem?_setIfInBounds_ne (Ne.symm aS)⟩;rw[Array.size_setIfInBounds];by_cases h0:i=0;subst h0;obtain⟨bC,rfl,rfl⟩:=xA rfl;rw[upd_same];rcases I.main with⟨_,_,h,_⟩|⟨_,h⟩;rw[aT]at h;cases h;exact .inr ⟨⟨bC,.inr rfl⟩,h⟩;rw[upd_ne D _ (Ne.symm h0)];exact I.main;rw[eN];have e1:bj D i=.live c0:=aT;exact I.dg.bd hi c (by rw[e1];exact xy) (λp=>by rw[e1];exact Gq p) (by rw[e1];rfl) cX h1 h2 h3 h4 h5;by_cases aS:j=i;subst aS;rw[aT]at e;cases e;exact⟨c',by rw[upd_ne D _ aS];exact e⟩;by_cases aS:j=i;subst aS;rw[aT]at e;cases e;exact⟨r,q,by rw[upd_ne D _ aS];exact e⟩;by_cases aS:j=i;subst aS;rw[upd_same]at e;cases e;rw[upd_ne D _ aS]at e;rw[Array.append_empty];exact T.said j q hj e;by_cases aS:C.n+3=i;rw[aS,upd_same]at e;cases e;rw[upd_ne D _ aS]at e;exact⟨q,e⟩
def k9 i j fn fn' pos pos' c s r cap:Quiet #[{g:=i,fn:=fn,pos:=pos,act:=.send c s},{g:=j,fn:=fn',pos:=pos',act:=.recv c r cap},{g:=i,fn:=fn,pos:=pos,act:=.sendDone c s},{g:=j,fn:=fn',pos:=pos',act:=.recvDone c r}]:=by intro op cI;simp at cI;rcases cI with rfl|rfl|rfl|rfl<;>exact⟨rfl,λm=>by simp⟩
def meet(I:Inv C all gs w t D cj cr ah aC)(T:Tr C t D ah aC){i j}(hi:i<C.n+4)(hj:j<C.n+4)(kx:i≠j){xi xj} ci cj'{gi gj} (Le:gs'[i]? =some xi) (xB:gs'[j]? =some xj) (hgo:∀k,k≠i->k≠j->gs'[k]? =gs[k]?) (lC:gs'.size=gs.size) (MT:GR C.P C.E (D i).X (C.R i) gi xi/\Term C.P (C.N.Stop ci) gi (D i).v) (hoj:GR C.P C.E (D j).X (C.R j) gj xj/\Term C.P (C.N.Stop cj') gj (D j).v) (hu:Quiet u) (hw:∀k,k<C.n+4->jf C w (D k)->jf C w' (D k)) (hJ:∃s r,w'.heap[C.N.J]? =some (.chan 0 #[] cj s r false)) (hR:∃s r,w'.heap[C.N.R]? =some (.chan 0 #[] cr s r false)) (hD:w'.heap[C.N.D]? =some (.chan 3 (Array.replicate (ah-aC) C.N.dv) false ah aC false)) (uo:(∀r q,(D i).st≠.old r q)/\(∀r q,(D j).st≠.old r q)/\(∀c,(D i).st≠.bU c)/\∀c,(D j).st≠.bU c) (xA:(0=i->∃bC,ci=.aZ bC)/\(0=j->∃bC,cj'=.aZ bC)/\(0=i∨0=j->gs.size=C.n+4)) (dg:y5 C all (upd (upd (bj D) i (.live ci)) j (.live cj')) cj cr ah aC):Inv C all gs' w' (t++u) (upd (upd D i ((D i).to (.live ci) gi)) j ((D j).to (.live cj') gj)) cj cr ah aC/\Tr C (t++u) (upd (upd D i ((D i).to (.live ci) gi)) j ((D j).to (.live cj') gj)) ah aC:=by
 have hS:=mS D i j (.live ci) (.live cj') gi gj;have mA:∀k,upd (upd D i ((D i).to (.live ci) gi)) j ((D j).to (.live cj') gj) k=if k=j then(D j).to (.live cj') gj else if k=i then(D i).to (.live ci) gi else D k:=λk=>rfl
 have cE:∀k,k≠i->k≠j->upd (upd D i ((D i).to (.live ci) gi)) j ((D j).to (.live cj') gj) k=D k:=λk h1 h2=>by rw[mA,if_neg h2,if_neg h1]
 have hvi:upd (upd D i ((D i).to (.live ci) gi)) j ((D j).to (.live cj') gj) i=(D i).to (.live ci) gi:=by rw[mA,if_neg kx,if_pos rfl]
 have Ww:upd (upd D i ((D i).to (.live ci) gi)) j ((D j).to (.live cj') gj) j=(D j).to (.live cj') gj:=by rw[mA,if_pos rfl]
 have lE:bj (upd (upd D i ((D i).to (.live ci) gi)) j ((D j).to (.live cj') gj))=upd (upd (bj D) i (.live ci)) j (.live cj'):=by rw[eN,eN];rfl
 have hold:∀k r q,(upd (upd D i ((D i).to (.live ci) gi)) j ((D j).to (.live cj') gj) k).st=.old r q->k≠i/\k≠j/\(D k).st=.old r q:=λk r q e=>by by_cases h1:k=i;subst h1;rw[hvi]at e;cases e;by_cases h2:k=j;subst h2;rw[Ww]at e;cases e;rw[cE k h1 h2]at e;exact⟨h1,h2,e⟩
 refine⟨I.quiet hS hu (λk hk=>?_) (by rw[lC];exact I.size) hw ?_ hJ hR hD (by rw[lE];exact dg),T.quiet I hS hu (λk c' e=>?_) (λk r q e=>?_) (λk q hk e=>?_) (λq e=>?_)⟩;by_cases h1:k=i;subst h1;refine .inr ?_;rw[hvi,Le];exact⟨_,rfl,MT.1,MT.2⟩;by_cases h2:k=j;subst h2;refine .inr ?_;rw[Ww,xB];exact⟨_,rfl,hoj.1,hoj.2⟩;exact .inl ⟨cE k h1 h2,hgo k h1 h2⟩;by_cases h1:0=i;obtain⟨bC,BG⟩:=xA.1 h1;refine .inr ⟨⟨bC,.inl ?_⟩,by rw[lC];exact xA.2.2 (.inl h1)⟩;rw[h1,hvi,BG];rfl;by_cases h2:0=j;obtain⟨bC,BG⟩:=xA.2.1 h2;refine .inr ⟨⟨bC,.inl ?_⟩,by rw[lC];exact xA.2.2 (.inr h2)⟩;rw[h2,Ww,BG];rfl;rw[cE 0 h1 h2,lC];exact I.main;by_cases h1:k=i;subst h1;exact absurd e (uo.2.2.1 c');by_cases h2:k=j;subst h2;exact absurd e (uo.2.2.2 c');exact⟨c',by rw[cE k h1 h2];exact e⟩;by_cases h1:k=i;subst h1;exact absurd e (uo.1 r q);by_cases h2:k=j;subst h2;exact absurd e (uo.2.1 r q);exact⟨r,q,by rw[cE k h1 h2];exact e⟩;obtain⟨_,_,h3⟩:=hold k 1 q e;exact(T.said k q hk h3).app (λop cI _=>(hu op cI).1) ν;obtain⟨_,_,h3⟩:=hold _ 2 q e;exact⟨q,h3⟩
end
end Ph
namespace Ph
open Go.Conc Rn
open Go.ConcN (sumTo upd sumTo_upd upd_ne upd_same le_sumTo)
open Tp (cO Term Ld)
variable{α:Type}{C:j9 α}
def Kk(C:j9 α)(s:Nat->St α):Nat:=sumTo (C.n+4) λi=>(s i).ev
def ups(C:j9 α)(s:Nat->St α):Nat:=sumTo (C.n+4) λi=>(s i).up
def TD(C:j9 α)(D' D:Nat->Pd α):Prop:=Kk C (bj D')<Kk C (bj D)∨(Kk C (bj D')=Kk C (bj D)/\(ups C (bj D')<ups C (bj D)∨(ups C (bj D')=ups C (bj D)/\NQ (Dn C.P C.N) (C.n+4) D' D)))
def Goes(C:j9 α)(all:List α)(gs:Array Goroutine)(w:World)(sl:Option (Nat×Nat))(t:Trace)(D:Nat->Pd α)(i:Nat):Prop:=∃gs' w' u D' cj' cr' sent' rcvd',runT C.P (crowd gs w sl) i=(.next (crowd gs' w' sl),u)/\Inv C all gs' w' (t++u) D' cj' cr' sent' rcvd'/\Tr C (t++u) D' sent' rcvd'/\TD C D' D/\Kept C w w' D D'
def oe{s i}(hi:i<C.n+4) x:Kk C (upd s i x)+(s i).ev=Kk C s+x.ev:=sumTo_upd s x (λy=>y.ev) hi
def Zn{s i}(hi:i<C.n+4) x:ups C (upd s i x)+(s i).up=ups C s+x.up:=sumTo_upd s x (λy=>y.up) hi
def yV{s i j}(hi:i<C.n+4)(hj:j<C.n+4)(kx:i≠j) x y:Kk C (upd (upd s i x) j y)+(s i).ev+(s j).ev=Kk C s+x.ev+y.ev:=by have a:=oe (C:=C) (s:=upd s i x) hj y;have b:=oe (C:=C) (s:=s) hi x;rw[upd_ne s x (Ne.symm kx)]at a;omega
section
variable{all:List α}{gs gs':Array Goroutine}{w w':World}{t u:Trace}{D D':Nat->Pd α}{cj cr cj' cr':Bool}{ah aC sent' rcvd':Nat}{sl:Option (Nat×Nat)}
def qq{c c' v v' z z'}(h:(#[scase c v z]:Array CommCase)=#[scase c' v' z']):c=c'/\v=v':=by
 have:scase c v z=scase c' v' z':=by simpa using h
 unfold scase at this;injection this with h1 h2 h3;injection h1 with h1;injection h1 with h1;injection h2 with h2;exact⟨h1,h2⟩
def kS{c c' z z'}(h:(#[rcase c z]:Array CommCase)=#[rcase c' z']):c=c':=by
 have:rcase c z=rcase c' z':=by simpa using h
 unfold rcase at this;injection this with h1 h2 h3;injection h1 with h1;injection h1 with h1
def dq{c c' v z z'}(h:(#[rcase c z]:Array CommCase)=#[scase c' v z']):False:=by
 have:rcase c z=scase c' v z':=by simpa using h
 unfold rcase scase at this;injection this with h1 h2 h3;cases h2
def Inv.parked(I:Inv C all gs w t D cj cr ah aC){j gj cs sh}(hj:gs[j]? =some (parked gj cs sh)):j<C.n+4/\∃c,(D j).st=.bd c/\cs=C.N.cases c/\sh=C.N.shape c/\GR C.P C.E (D j).X (C.R j) (D j).g {gj with status:=.running,offers:=none}/\C.N.A c (D j).g (D j).v:=by obtain⟨aM,aT⟩:=I.status hj;refine⟨aM,?_⟩;rcases aT with aT|⟨c,hc⟩;rcases aT with e|e<;>cases e;have:=I.ok j aM;unfold Ok at this;rw[hc]at this;obtain⟨g',h1,h2,h3⟩:=this;rw[hj]at h1;have h4:=Option.some.inj h1;unfold Go.Conc.parked at h4;injection h4 with e1 e2 e3 e4 e5;injection e5 with e5;injection e5 with e6 e7;refine⟨c,hc,e6,e7,⟨⟨h2.run.1,rfl⟩,⟨h2.dy.1,?_⟩,?_,?_⟩,h3⟩;show gj.dying=none;rw[e4];exact h2.dy.2;show y6 _ _ _ _ gj.frame;rw[e1];exact h2.frame;show∃cs fu,_/\gj.callers=_/\_;rw[e2];exact h2.callers
def iD{P E X R g gj}(h:GR P E X R g {gj with status:=.running,offers:=none}){v v'}(hv:V E X v v'):GR P E X R (Go.Conc.served g v) (Go.Conc.served gj v'):=⟨⟨rfl,rfl⟩,h.dy,h.frame.finish hv,h.callers⟩
def nL(hp:0<C.n){i j}(hi:i<C.n+4)(hj:j<C.n+4)(h:C.rl i=C.rl j)(h2:C.rl i=2∨C.rl i=3):i=j:=by unfold j9.rl at h h2;split at h<;>split at h<;>(repeat' split at h)<;>(repeat' split at h2)<;>omega
def V.pair{E X v}(h:Rn.Clean v) b:V E X (.tuple #[v,.bool b]) (.tuple #[v,.bool b]):=V.eH ((VA.one (h.self X)).push (.bool b))
def Jm(L:yA C)(I:Inv C all gs w t D cj cr ah aC)(T:Tr C t D ah aC){i j}(hi:i<C.n+4)(hj:j<C.n+4){a rem xi xj} (MQ:(∃r,(D i).st=.live (.feed r)/\r.Perm (a::rem))∨(D i).st=.bd (.cU a rem)) (xu:(D j).st=.live .bg∨(D j).st=.bd .bg) (hAi:C.N.A (.cU a rem) (D i).g (D i).v) (Sy:C.N.A .bg (D j).g (D j).v) (Le:gs'[i]? =some (Go.Conc.served xi undef)) (xB:gs'[j]? =some (Go.Conc.served xj (.tuple #[C.N.jv a,.bool true]))) (hgo:∀k,k≠i->k≠j->gs'[k]? =gs[k]?) (lC:gs'.size=gs.size) (hri:GR C.P C.E (D i).X (C.R i) (D i).g {xi with status:=.running,offers:=none}) (hrj:GR C.P C.E (D j).X (C.R j) (D j).g {xj with status:=.running,offers:=none}) (hu:Quiet u) {s r d} (hc:w.heap[C.N.J]? =some (.chan 0 #[] cj s r false)):∃D',Inv C all gs' (World.setChan (w.at d) C.N.J 0 #[] cj (s+1) (r+1) false) (t++u) D' cj cr ah aC/\Tr C (t++u) D' ah aC/\TD C D' D/\∀k,(D' k).X=(D k).X:=by
 have WM:(bj D i).role=2:=by show(D i).st.role=2;rcases MQ with⟨r,h,_⟩|h<;>rw[h]<;>rfl
 have MR:(bj D j).role=1:=by show(D j).st.role=1;rcases xu with h|h<;>rw[h]<;>rfl
 have kx:i≠j:=λe=>by subst e;omega
 have aT:cj=false/\cr=false/\aC=0:=by have:=I.dg.cP i hi;rcases MQ with⟨r,h,_⟩|h;rw[show bj D i=_ from h]at this;exact this;rw[show bj D i=_ from h]at this;exact this
 have Pm:∀p,(bj D i).tok p=(a::rem).countP p:=λp=>by rcases MQ with⟨r,h,hp⟩|h;rw[show bj D i=_ from h];exact hp.countP_eq p;rw[show bj D i=_ from h];rfl
 have at5:(bj D i).ev=7+2*(rem.length+1):=by rcases MQ with⟨r,h,hp⟩|h;rw[show bj D i=_ from h];show 7+2*r.length=_;rw[hp.length_eq];rfl;rw[show bj D i=_ from h];rfl
 have Pk:∀p,(bj D j).tok p=0:=λp=>by rcases xu with h|h<;>rw[show bj D j=_ from h]<;>rfl
 have at4:(bj D j).ev=2:=by rcases xu with h|h<;>rw[show bj D j=_ from h]<;>rfl
 have ah5:(bj D i).said=0:=by rcases MQ with⟨r,h,hp⟩|h<;>rw[show bj D i=_ from h]<;>rfl
 have ah4:(bj D j).said=0:=by rcases xu with h|h<;>rw[show bj D j=_ from h]<;>rfl
 have h0:=I.pos;have hm:=meet (gs':=gs') (w':=World.setChan (w.at d) C.N.J 0 #[] cj (s+1) (r+1) false) (u:=u) I T hi hj kx (.feed rem) (.b9 a) Le xB hgo lC
  ⟨iD hri (V.eH (VA.empty _)),L.VP a rem _ _ hAi⟩ ⟨iD hrj (V.pair (L.Li.1 a) true),L.VS a _ _ Sy (L.tx a rem _ _ hAi)⟩ hu
  (λk hk h=>by
   have:=(h.drawn C d).chan C (c:=C.N.J) (by exact hc) (.chan 0 #[] cj (s+1) (r+1) false) d
   exact this)
  ⟨s+1,r+1,by
   have aM:C.N.J<w.heap.size:=(Array.getElem?_eq_some_iff.1 hc).1;show(w.heap.setIfInBounds C.N.J _)[C.N.J]? =_;rw[Array.getElem?_setIfInBounds_self_of_lt aM]⟩
  (by
   obtain⟨s2,r2,h2⟩:=I.DF;exact⟨s2,r2,by show(w.heap.setIfInBounds C.N.J _)[C.N.R]? =_;rw[Array.getElem?_setIfInBounds_ne I.ne.1];exact h2⟩)
  (by show(w.heap.setIfInBounds C.N.J _)[C.N.D]? =_;rw[Array.getElem?_setIfInBounds_ne I.ne.2.1];exact I.GJ)
  ⟨λr q e=>(by rcases MQ with⟨_,h,_⟩|h<;>rw[h]at e<;>cases e),λr q e=>(by rcases xu with h|h<;>rw[h]at e<;>cases e),λc e=>(by rcases MQ with⟨_,h,_⟩|h<;>rw[h]at e<;>cases e),λc e=>(by rcases xu with h|h<;>rw[h]at e<;>cases e)⟩
  ⟨λe=>(by subst e;have:=I.dg.role 0 hi;rw[WM]at this;simp[j9.rl]at this),λe=>(by subst e;have:=I.dg.role 0 hj;rw[MR]at this;simp[j9.rl]at this),λe=>by
   rcases e with e|e<;>subst e
   ·have:=I.dg.role 0 hi;rw[WM]at this;simp[j9.rl]at this
   ·have:=I.dg.role 0 hj;rw[MR]at this;simp[j9.rl]at this⟩
  (I.dg.two hi hj kx (.live (.feed rem)) (.live (.b9 a)) (by rw[WM];rfl) (by rw[MR];rfl) (λp=>by
    rw[Pm,Pk];show rem.countP p+[a].countP p=_;rw[List.countP_cons,List.countP_cons,List.countP_nil];omega) (by rw[ah5,ah4];rfl) I.dg.le (λk hk _ _=>I.dg.cP k hk) aT aT.2.1 (λc e=>(by cases e)) (λc e=>(by cases e)) (λk q hk _ _ h=>I.dg.p3 k q hk h))
 refine⟨_,hm.1,hm.2,.inl ?_,λk=>(mS D i j _ _ _ _ k).1⟩;rw[eN,eN];have:=yV (C:=C) (s:=bj D) hi hj kx (.live (.feed rem)) (.live (.b9 a));have e1:(St.live (j8.feed rem):St α).ev=7+2*rem.length:=rfl;have e2:(St.live (j8.b9 a):St α).ev=3:=rfl;show Kk C (upd (upd (bj D) i (.live (.feed rem))) j (.live (.b9 a)))<_;omega
def Qr{f m i j}(hi:i<m)(hj:j<m)(kx:i≠j):f i+f j<=sumTo m f:=by have h1:=u5 (f:=upd f i 0) (g:=f) (m:=m) (i:=i) hi (λk hk=>(upd_ne f 0 hk).symm);have h2:=le_sumTo (f:=upd f i 0) hj;rw[upd_same]at h1;rw[upd_ne f 0 (Ne.symm kx)]at h2;omega
def Jl(L:yA C)(I:Inv C all gs w t D cj cr ah aC)(T:Tr C t D ah aC){i j}(hi:i<C.n+4)(hj:j<C.n+4){a bC xi xj} (MQ:(D i).st=.live (.b9 a)∨(D i).st=.bd (.b9 a)) (xu:(D j).st=.live (.aZ bC)∨(D j).st=.bd (.aZ bC)) (hAi:C.N.A (.b9 a) (D i).g (D i).v) (Sy:C.N.A (.aZ bC) (D j).g (D j).v) (Le:gs'[i]? =some (Go.Conc.served xi undef)) (xB:gs'[j]? =some (Go.Conc.served xj (.tuple #[C.N.fv a,.bool true]))) (hgo:∀k,k≠i->k≠j->gs'[k]? =gs[k]?) (lC:gs'.size=gs.size) (hri:GR C.P C.E (D i).X (C.R i) (D i).g {xi with status:=.running,offers:=none}) (hrj:GR C.P C.E (D j).X (C.R j) (D j).g {xj with status:=.running,offers:=none}) (hu:Quiet u) {s r d} (hc:w.heap[C.N.R]? =some (.chan 0 #[] cr s r false)):∃D',Inv C all gs' (World.setChan (w.at d) C.N.R 0 #[] cr (s+1) (r+1) false) (t++u) D' cj cr ah aC/\Tr C (t++u) D' ah aC/\TD C D' D/\∀k,(D' k).X=(D k).X:=by
 have WM:(bj D i).role=1:=by show(D i).st.role=1;rcases MQ with h|h<;>rw[h]<;>rfl
 have MR:(bj D j).role=3:=by show(D j).st.role=3;rcases xu with h|h<;>rw[h]<;>rfl
 have kx:i≠j:=λe=>by subst e;omega
 have h0:=I.pos;have Xi:j=0:=by have h1:=I.dg.role j hj;have h2:=I.dg.role 0 (by omega);refine nL h0 hj (by omega) ?_ (.inr (by rw[<-h1,MR]));rw[<-h1,MR];simp[j9.rl]
 have lO:cr=false:=by have:=I.dg.cP i hi;rcases MQ with h|h;rw[show bj D i=_ from h]at this;exact this;rw[show bj D i=_ from h]at this;exact this
 have Pm:∀p,(bj D i).tok p=[a].countP p:=λp=>by rcases MQ with h|h<;>rw[show bj D i=_ from h]<;>rfl
 have at5:(bj D i).ev=3:=by rcases MQ with h|h<;>rw[show bj D i=_ from h]<;>rfl
 have Pk:∀p,(bj D j).tok p=bC.countP p:=λp=>by rcases xu with h|h<;>rw[show bj D j=_ from h]<;>rfl
 have at4:(bj D j).ev=0:=by rcases xu with h|h<;>rw[show bj D j=_ from h]<;>rfl
 have ah5:(bj D i).said=0:=by rcases MQ with h|h<;>rw[show bj D i=_ from h]<;>rfl
 have ah4:(bj D j).said=0:=by rcases xu with h|h<;>rw[show bj D j=_ from h]<;>rfl
 have xC:gs.size=C.n+4:=by rcases I.main with⟨k,_,h,_⟩|⟨_,h⟩;subst Xi;rcases xu with h'|h'<;>rw[h']at h<;>cases h;exact h
 have as6:(a::bC).length<=C.top:=by have h1:=I.dg.tok (λ_=>true);have h2:=Qr (f:=λi=>(bj D i).tok (λ_=>true)) hi hj kx;simp only[h1,Pm,Pk,List.countP_true]at h2;have:=I.dg.fits;simp only[List.length_cons,List.length_nil]at h2|-;omega
 have hm:=meet (gs':=gs') (w':=World.setChan (w.at d) C.N.R 0 #[] cr (s+1) (r+1) false) (u:=u) I T hi hj kx .bg (.aZ (a::bC)) Le xB hgo lC
  ⟨iD hri (V.eH (VA.empty _)),L.VN a _ _ hAi⟩ ⟨iD hrj (V.pair (L.Li.2.1 a) true),L.VR a bC _ _ as6 Sy⟩ hu
  (λk hk h=>by
   have:=(h.drawn C d).chan C (c:=C.N.R) (by exact hc) (.chan 0 #[] cr (s+1) (r+1) false) d
   exact this)
  (by
   obtain⟨s2,r2,h2⟩:=I.CZ;exact⟨s2,r2,by show(w.heap.setIfInBounds C.N.R _)[C.N.J]? =_;rw[Array.getElem?_setIfInBounds_ne (Ne.symm I.ne.1)];exact h2⟩)
  ⟨s+1,r+1,by
   have aM:C.N.R<w.heap.size:=(Array.getElem?_eq_some_iff.1 hc).1;show(w.heap.setIfInBounds C.N.R _)[C.N.R]? =_;rw[Array.getElem?_setIfInBounds_self_of_lt aM]⟩
  (by show(w.heap.setIfInBounds C.N.R _)[C.N.D]? =_;rw[Array.getElem?_setIfInBounds_ne I.ne.2.2];exact I.GJ)
  ⟨λr q e=>(by rcases MQ with h|h<;>rw[h]at e<;>cases e),λr q e=>(by rcases xu with h|h<;>rw[h]at e<;>cases e),λc e=>(by rcases MQ with h|h<;>rw[h]at e<;>cases e),λc e=>(by rcases xu with h|h<;>rw[h]at e<;>cases e)⟩
  ⟨λe=>(by subst e;exact absurd Xi.symm kx),λ_=>⟨_,rfl⟩,λ_=>xC⟩
  (I.dg.two hi hj kx (.live .bg) (.live (.aZ (a::bC))) (by rw[WM];rfl) (by rw[MR];rfl) (λp=>by
    rw[Pm,Pk];show 0+(a::bC).countP p=_;rw[List.countP_cons,List.countP_cons,List.countP_nil];omega) (by rw[ah5,ah4];rfl) I.dg.le (λk hk _ _=>I.dg.cP k hk) lO trivial (λc e=>(by cases e)) (λc e=>(by cases e)) (λk q hk _ _ h=>I.dg.p3 k q hk h))
 refine⟨_,hm.1,hm.2,.inl ?_,λk=>(mS D i j _ _ _ _ k).1⟩;rw[eN,eN];have:=yV (C:=C) (s:=bj D) hi hj kx (.live .bg) (.live (.aZ (a::bC)));have e1:(St.live j8.bg:St α).ev=2:=rfl;have e2:(St.live (j8.aZ (a::bC)):St α).ev=0:=rfl;show Kk C (upd (upd (bj D) i (.live .bg)) j (.live (.aZ (a::bC))))<_;omega
def nf{i}(hi:i<C.n+4){c0 c}(aT:(D i).st=.live c0)(gm:c.ev=c0.ev)(h:bj D'=upd (bj D) i (.bd c)):TD C D' D:=by
 refine .inr ⟨?_,.inl ?_⟩;rw[h];have:=oe (C:=C) (s:=bj D) hi (.bd c);have e1:(bj D i).ev=c0.ev:=by rw[show bj D i=_ from aT];rfl
 have e2:(St.bd c).ev=c.ev:=rfl;omega;rw[h];have:=Zn (C:=C) (s:=bj D) hi (.bd c);have e1:(bj D i).up=1:=by rw[show bj D i=_ from aT];rfl
 have e2:(St.bd c).up=0:=rfl;omega
def XJ(gs:Array Goroutine){i j}(kx:j≠i)(hi:i<gs.size)(hj:j<gs.size) x y:((gs.setIfInBounds j y).setIfInBounds i x)[i]? =some x/\((gs.setIfInBounds j y).setIfInBounds i x)[j]? =some y/\(∀k,k≠i->k≠j->((gs.setIfInBounds j y).setIfInBounds i x)[k]? =gs[k]?)/\((gs.setIfInBounds j y).setIfInBounds i x).size=gs.size:=by refine⟨by rw[Array.getElem?_setIfInBounds_self_of_lt (by simpa using hi)],?_,λk h1 h2=>?_,by simp⟩;rw[Array.getElem?_setIfInBounds_ne (Ne.symm kx),Array.getElem?_setIfInBounds_self_of_lt hj];rw[Array.getElem?_setIfInBounds_ne (Ne.symm h1),Array.getElem?_setIfInBounds_ne (Ne.symm h2)]
def dI i fn pos:MemOp.ofEvents i fn pos #[]=#[]:=rfl
def qd(L:yA C)(I:Inv C all gs w t D cj cr ah aC){i}(hi:i<C.n+4){c0}(aT:(D i).st=.live c0):∃g',gs[i]? =some g'/\i<gs.size/\GR C.P C.E (D i).X (C.R i) (D i).g g':=by have dR:=I.ok i hi;unfold Ok at dR;rw[aT]at dR;obtain⟨g',hx,jO,_⟩:=dR;exact⟨g',hx,(Array.getElem?_eq_some_iff.1 hx).1,jO⟩
def Mo(L:yA C)(I:Inv C all gs w t D cj cr ah aC)(T:Tr C t D ah aC){i}(hi:i<C.n+4)(aT:(D i).st=.live .bg)(hA:C.N.A .bg (D i).g (D i).v)(hnt:cj=true->Goes C all gs w sl t D i):Goes C all gs w sl t D i:=by
 obtain⟨g',hx,aM,jO⟩:=qd L I hi aT;have lP:=L.act .bg _ _ _ _ _ rfl hA jO (i==0) w;obtain⟨s,r,hc⟩:=I.CZ;cases Na:cj with
 |true=>exact hnt Na|false=>
 subst Na;by_cases hp:partners (gs.setIfInBounds i ph) C.N.J true=[];have um:∀j a rem,j<C.n+4->(D j).st≠.bd (.cU a rem):=λj a rem hj e=>by
  have dR:=I.ok j hj;unfold Ok at dR;rw[e]at dR;obtain⟨g2,T8,_⟩:=dR;have aS:j≠i:=λe2=>by subst e2;rw[aT]at e;cases e
  have:(j,0)∈partners (gs.setIfInBounds i ph) C.N.J true:=mem_partners.2 ⟨_,(by rw[Array.getElem?_setIfInBounds_ne (Ne.symm aS)];exact T8),by rw[my];simp[Net.chan]⟩;rw[hp]at this;cases this
 have lO:cr=false:=by have:=I.dg.cP i hi;rw[show bj D i=_ from aT]at this;exact this
 obtain⟨gs',w',u,D',h1,h2,h3,h4⟩:=na (sl:=sl) L I T hi aT hA rfl rfl (λ_=>rfl) (λcc uq=>by
 have:cc=rcase C.N.J C.N.zJ:=by simpa[Net.cases]using uq
 subst this;exact ways_recv_none hc hp) ⟨rfl,lO⟩ (λ_=>um) (λa rem e=>by cases e) (λa e=>by cases e) (λa e=>by cases e) (λa e=>by cases e) (λe=>by subst e;have:=I.dg.role 0 hi;rw[show bj D 0=_ from aT]at this;simp[j9.rl,St.role,j8.role]at this)
 exact⟨gs',w',u,D',_,_,_,_,h1,h2,h3,nf hi aT rfl h4.1,h4.2⟩;have gQ:∀j k,(j,k)∈partners (gs.setIfInBounds i ph) C.N.J true->k=0/\j≠i/\∃gj vj zj Oo,gs[j]? =some (parked gj #[scase C.N.J vj zj] Oo):=by intro j k hm;obtain⟨h1,h2,h3,c,g2,h4,h5,h6,_⟩:=I.partner hm;refine⟨h1,h2,?_⟩;cases c<;>simp only[Net.chan,Option.some.injEq,Prod.mk.injEq,Bool.false_eq_true,and_false,reduceCtorEq,and_true]at h5;exact absurd h5.symm I.ne.1;exact absurd h5.symm I.ne.2.1;exact⟨_,_,_,_,h6⟩
 obtain⟨j,gj,vj,zj,Oo,d,aS,xB,cF⟩:=crowd_recv_meets_some (P:=C.P) (sl:=sl) hx lP hc hp gQ;obtain⟨kL,c,pN,dL,nh,BF,Sy⟩:=I.parked xB;have mB:=I.dg.cP j kL;rw[show bj D j=_ from pN]at mB;cases c with
 |cU a rem=>obtain⟨_,hv⟩:=qq dL;subst hv;subst nh;simp only[Net.shape,finishComm_send,finishComm_recv,dI,Array.empty_append,recvd,if_true]at cF;have hjs:j<gs.size:=(Array.getElem?_eq_some_iff.1 xB).1;obtain⟨a1,a2,a3,a4⟩:=XJ gs aS aM hjs (Go.Conc.served g' (.tuple #[C.N.jv a,.bool true])) (Go.Conc.served gj undef);obtain⟨D',b1,b2,b3,b4⟩:=Jm (gs':=(gs.setIfInBounds j (Go.Conc.served gj undef)).setIfInBounds i (Go.Conc.served g' (.tuple #[C.N.jv a,.bool true]))) L I T kL hi (.inr pN) (.inl aT) Sy hA a2 a1 (λk h1 h2=>a3 k h2 h1) a4 BF (j2 jO) (k9 j i gj.frame.fn g'.frame.fn gj.frame.place g'.frame.place C.N.J s r 0) (d:=d) hc;exact⟨_,_,_,D',_,_,_,_,cF,b1,b2,b3,gC b4 (.inl rfl) rfl rfl rfl rfl⟩
 |bg=>exact(dq dL.symm).elim|b9 a=>exact absurd (qq dL).1 I.ne.1
 |bx k=>exact(dq dL.symm).elim|aZ g=>exact(dq dL.symm).elim
 |_=>exact mB.elim
end
end Ph
namespace Ph
open Go.Conc Rn
open Go.ConcN (sumTo upd sumTo_upd upd_ne upd_same le_sumTo)
open Tp (cO Term Ld)
variable{α:Type}{C:j9 α}
section
variable{all:List α}{gs gs':Array Goroutine}{w w':World}{t u:Trace}{D D':Nat->Pd α}{cj cr cj' cr':Bool}{ah aC sent' rcvd':Nat}{sl:Option (Nat×Nat)}
def Inv.waits(I:Inv C all gs w t D cj cr ah aC){i ch b c0}(aT:(D i).st=.live c0)(hp:partners (gs.setIfInBounds i ph) ch b=[]){j}(hj:j<C.n+4){c}(hc:C.N.chan c=some (ch,b)):(D j).st≠.bd c:=λe=>by
 have dR:=I.ok j hj;unfold Ok at dR;rw[e]at dR;obtain⟨g2,T8,_⟩:=dR;have aS:j≠i:=λe2=>by subst e2;rw[aT]at e;cases e
 have:(j,0)∈partners (gs.setIfInBounds i ph) ch b:=mem_partners.2 ⟨_,(by rw[Array.getElem?_setIfInBounds_ne (Ne.symm aS)];exact T8),by rw[my,if_pos hc];simp⟩;rw[hp]at this;cases this
def Inv.lZ(I:Inv C all gs w t D cj cr ah aC){i}(hi:i<C.n+4){c0}(aT:(D i).st=.live c0)(hr:c0.role≠3):i≠0:=λe=>by subst e;have:=I.dg.role 0 hi;rw[show bj D 0=_ from aT]at this;simp[j9.rl]at this;exact hr this
def Ml(L:yA C)(I:Inv C all gs w t D cj cr ah aC)(T:Tr C t D ah aC){i}(hi:i<C.n+4){r0}(aT:(D i).st=.live (.feed r0)){a rem}(JO:r0.Perm (a::rem))(hA:C.N.A (.cU a rem) (D i).g (D i).v):Goes C all gs w sl t D i:=by
 obtain⟨g',hx,aM,jO⟩:=qd L I hi aT;have lP:=L.act (.cU a rem) _ _ _ _ _ rfl hA jO (i==0) w;obtain⟨s,r,hc⟩:=I.CZ;have cX:cj=false/\cr=false/\aC=0:=by have:=I.dg.cP i hi;rw[show bj D i=_ from aT]at this;exact this
 obtain⟨rfl,lO⟩:=cX;by_cases hp:partners (gs.setIfInBounds i ph) C.N.J false=[];obtain⟨gs',w',u,D',h1,h2,h3,h4⟩:=na (sl:=sl) L I T hi aT hA rfl rfl (λp=>(JO.countP_eq p).symm) (λcc uq=>by
 have:cc=scase C.N.J (C.N.jv a) (.tuple #[]):=by simpa[Net.cases]using uq
 subst this;exact ways_send_none hc (by simp) hp) ⟨rfl,lO⟩ (λe=>by cases e) (λa' Dj e j hj=>I.waits aT hp hj rfl) (λa e=>by cases e) (λa e=>by cases e) (λa e=>by cases e) (λe=>absurd e (I.lZ hi aT (by simp[j8.role])))
 exact⟨gs',w',u,D',_,_,_,_,h1,h2,h3,nf hi aT (by show 7+2*(rem.length+1)=7+2*r0.length;rw[JO.length_eq];rfl) h4.1,h4.2⟩;have gQ:∀j k,(j,k)∈partners (gs.setIfInBounds i ph) C.N.J false->k=0/\j≠i/\∃gj zj Oo,gs[j]? =some (parked gj #[rcase C.N.J zj] Oo):=by intro j k hm;obtain⟨h1,h2,h3,c,g2,h4,h5,h6,_⟩:=I.partner hm;refine⟨h1,h2,?_⟩;cases c<;>simp only[Net.chan,Option.some.injEq,Prod.mk.injEq,and_false,reduceCtorEq,and_true]at h5;exact⟨_,_,_,h6⟩;exact absurd h5.symm I.ne.2.1;exact absurd h5.symm I.ne.1
 obtain⟨j,gj,zj,Oo,d,aS,xB,cF⟩:=crowd_send_meets_some (P:=C.P) (sl:=sl) hx lP hc hp gQ;obtain⟨kL,c,pN,dL,nh,BF,Sy⟩:=I.parked xB;have mB:=I.dg.cP j kL;rw[show bj D j=_ from pN]at mB;cases c with
 |bg=>subst nh;simp only[Net.shape,finishComm_send,finishComm_recv,dI,Array.empty_append,recvd,if_true]at cF;have hjs:j<gs.size:=(Array.getElem?_eq_some_iff.1 xB).1;obtain⟨a1,a2,a3,a4⟩:=XJ gs aS aM hjs (Go.Conc.served g' undef) (Go.Conc.served gj (.tuple #[C.N.jv a,.bool true]));obtain⟨D',b1,b2,b3,b4⟩:=Jm (gs':=(gs.setIfInBounds j (Go.Conc.served gj (.tuple #[C.N.jv a,.bool true]))).setIfInBounds i (Go.Conc.served g' undef)) L I T hi kL (.inl ⟨r0,aT,JO⟩) (.inr pN) hA Sy a1 a2 a3 a4 (j2 jO) BF (k9 i j g'.frame.fn gj.frame.fn g'.frame.place gj.frame.place C.N.J s r 0) (d:=d) hc;exact⟨_,_,_,D',_,_,_,_,cF,b1,b2,b3,gC b4 (.inl rfl) rfl rfl rfl rfl⟩
 |cU a rem=>exact(dq dL).elim|b9 a=>exact(dq dL).elim
 |bx k=>exact absurd (kS dL) I.ne.2.1|aZ g=>exact absurd (kS dL) I.ne.1
 |_=>exact mB.elim
def Mj(L:yA C)(I:Inv C all gs w t D cj cr ah aC)(T:Tr C t D ah aC){i}(hi:i<C.n+4){a}(aT:(D i).st=.live (.b9 a))(hA:C.N.A (.b9 a) (D i).g (D i).v):Goes C all gs w sl t D i:=by
 obtain⟨g',hx,aM,jO⟩:=qd L I hi aT;have lP:=L.act (.b9 a) _ _ _ _ _ rfl hA jO (i==0) w;obtain⟨s,r,hc⟩:=I.DF;have lO:cr=false:=by have:=I.dg.cP i hi;rw[show bj D i=_ from aT]at this;exact this
 subst lO;by_cases hp:partners (gs.setIfInBounds i ph) C.N.R false=[];obtain⟨gs',w',u,D',h1,h2,h3,h4⟩:=na (sl:=sl) L I T hi aT hA rfl rfl (λp=>rfl) (λcc uq=>by
 have:cc=scase C.N.R (C.N.fv a) (.tuple #[]):=by simpa[Net.cases]using uq
 subst this;exact ways_send_none hc (by simp) hp) rfl (λe=>by cases e) (λa' Dj e=>by cases e) (λa' e j g hj=>I.waits aT hp hj rfl) (λa e=>by cases e) (λa e=>by cases e) (λe=>absurd e (I.lZ hi aT (by simp[j8.role])))
 exact⟨gs',w',u,D',_,_,_,_,h1,h2,h3,nf hi aT rfl h4.1,h4.2⟩;have gQ:∀j k,(j,k)∈partners (gs.setIfInBounds i ph) C.N.R false->k=0/\j≠i/\∃gj zj Oo,gs[j]? =some (parked gj #[rcase C.N.R zj] Oo):=by intro j k hm;obtain⟨h1,h2,h3,c,g2,h4,h5,h6,_⟩:=I.partner hm;refine⟨h1,h2,?_⟩;cases c<;>simp only[Net.chan,Option.some.injEq,Prod.mk.injEq,and_false,reduceCtorEq,and_true]at h5;exact absurd h5 I.ne.1;exact absurd h5.symm I.ne.2.2;exact⟨_,_,_,h6⟩
 obtain⟨j,gj,zj,Oo,d,aS,xB,cF⟩:=crowd_send_meets_some (P:=C.P) (sl:=sl) hx lP hc hp gQ;obtain⟨kL,c,pN,dL,nh,BF,Sy⟩:=I.parked xB;have mB:=I.dg.cP j kL;rw[show bj D j=_ from pN]at mB;cases c with
 |aZ bC=>subst nh;simp only[Net.shape,finishComm_send,finishComm_recv,dI,Array.empty_append,recvd,if_true]at cF;have hjs:j<gs.size:=(Array.getElem?_eq_some_iff.1 xB).1;obtain⟨a1,a2,a3,a4⟩:=XJ gs aS aM hjs (Go.Conc.served g' undef) (Go.Conc.served gj (.tuple #[C.N.fv a,.bool true]));obtain⟨D',b1,b2,b3,b4⟩:=Jl (gs':=(gs.setIfInBounds j (Go.Conc.served gj (.tuple #[C.N.fv a,.bool true]))).setIfInBounds i (Go.Conc.served g' undef)) L I T hi kL (.inl aT) (.inr pN) hA Sy a1 a2 a3 a4 (j2 jO) BF (k9 i j g'.frame.fn gj.frame.fn g'.frame.place gj.frame.place C.N.R s r 0) (d:=d) hc;exact⟨_,_,_,D',_,_,_,_,cF,b1,b2,b3,gC b4 (.inr (.inl rfl)) rfl rfl rfl rfl⟩
 |cU a rem=>exact(dq dL).elim|b9 a=>exact(dq dL).elim
 |bx k=>exact absurd (kS dL) I.ne.2.2|bg=>exact absurd (kS dL).symm I.ne.1
 |_=>exact mB.elim
def Mn(L:yA C)(I:Inv C all gs w t D cj cr ah aC)(T:Tr C t D ah aC){i}(hi:i<C.n+4){bC}(aT:(D i).st=.live (.aZ bC))(hA:C.N.A (.aZ bC) (D i).g (D i).v)(lO:cr=false):Goes C all gs w sl t D i:=by
 obtain⟨g',hx,aM,jO⟩:=qd L I hi aT;have lP:=L.act (.aZ bC) _ _ _ _ _ rfl hA jO (i==0) w;obtain⟨s,r,hc⟩:=I.DF;subst lO;by_cases hp:partners (gs.setIfInBounds i ph) C.N.R true=[];obtain⟨gs',w',u,D',h1,h2,h3,h4⟩:=na (sl:=sl) L I T hi aT hA rfl rfl (λp=>rfl) (λcc uq=>by
 have:cc=rcase C.N.R C.N.zR:=by simpa[Net.cases]using uq
 subst this;exact ways_recv_none hc hp) rfl (λe=>by cases e) (λa' Dj e=>by cases e) (λa' e=>by cases e) (λg e j a hj=>I.waits aT hp hj rfl) (λa e=>by cases e) (λe=>⟨bC,rfl,rfl⟩)
 exact⟨gs',w',u,D',_,_,_,_,h1,h2,h3,nf hi aT rfl h4.1,h4.2⟩;have gQ:∀j k,(j,k)∈partners (gs.setIfInBounds i ph) C.N.R true->k=0/\j≠i/\∃gj vj zj Oo,gs[j]? =some (parked gj #[scase C.N.R vj zj] Oo):=by intro j k hm;obtain⟨h1,h2,h3,c,g2,h4,h5,h6,_⟩:=I.partner hm;refine⟨h1,h2,?_⟩;cases c<;>simp only[Net.chan,Option.some.injEq,Prod.mk.injEq,Bool.false_eq_true,and_false,reduceCtorEq,and_true]at h5;exact⟨_,_,_,_,h6⟩;exact absurd h5.symm I.ne.2.2;exact absurd h5 I.ne.1
 obtain⟨j,gj,vj,zj,Oo,d,aS,xB,cF⟩:=crowd_recv_meets_some (P:=C.P) (sl:=sl) hx lP hc hp gQ;obtain⟨kL,c,pN,dL,nh,BF,Sy⟩:=I.parked xB;have mB:=I.dg.cP j kL;rw[show bj D j=_ from pN]at mB;cases c with
 |b9 a=>obtain⟨_,hv⟩:=qq dL;subst hv;subst nh;simp only[Net.shape,finishComm_send,finishComm_recv,dI,Array.empty_append,recvd,if_true]at cF;have hjs:j<gs.size:=(Array.getElem?_eq_some_iff.1 xB).1;obtain⟨a1,a2,a3,a4⟩:=XJ gs aS aM hjs (Go.Conc.served g' (.tuple #[C.N.fv a,.bool true])) (Go.Conc.served gj undef);obtain⟨D',b1,b2,b3,b4⟩:=Jl (gs':=(gs.setIfInBounds j (Go.Conc.served gj undef)).setIfInBounds i (Go.Conc.served g' (.tuple #[C.N.fv a,.bool true]))) L I T kL hi (.inr pN) (.inl aT) Sy hA a2 a1 (λk h1 h2=>a3 k h2 h1) a4 BF (j2 jO) (k9 j i gj.frame.fn g'.frame.fn gj.frame.place g'.frame.place C.N.R s r 0) (d:=d) hc;exact⟨_,_,_,D',_,_,_,_,cF,b1,b2,b3,gC b4 (.inr (.inl rfl)) rfl rfl rfl rfl⟩
 |cU a rem=>exact absurd (qq dL).1.symm I.ne.1|bg=>exact(dq dL.symm).elim
 |bx k=>exact(dq dL.symm).elim|aZ g=>exact(dq dL.symm).elim
 |_=>exact mB.elim
end
end Ph
namespace Ph
open Go.Conc Rn
open Go.ConcN (sumTo upd sumTo_upd upd_ne upd_same le_sumTo)
open Tp (cO Term Ld)
variable{α:Type}{C:j9 α}
section
variable{all:List α}{gs gs':Array Goroutine}{w w':World}{t u:Trace}{D D':Nat->Pd α}{cj cr cj' cr':Bool}{ah aC sent' rcvd':Nat}{sl:Option (Nat×Nat)}
def jg.recv{j}(h:jg C t j ah aC){u z}(hg:z.g=C.n+3)(hz:z.act=.recvDone C.N.D aC)(hd:Deaf t (C.n+3)=0)(hu:Quiet u)(hle:aC<=ah):jg C (t++(u++#[z])) j ah (aC+1):=by
 have hq:∀op∈u++#[z],op.g=j->op.act.touch? =none:=by
  intro op cI _;rcases Array.mem_append.1 cI with h1|h1;exact(hu op h1).1;have:op=z:=by simpa using h1
  subst this;rw[hz];rfl
 obtain⟨s,k,y,h1,h2,h3,h4,h5,h6,h7⟩:=h;have aM:=lt_size_of_getElem? h1;obtain⟨s',k',y',g1,g2,g3,g4,g5,g6,g7⟩:=jg.app (C:=C) (t:=t) (u:=u++#[z]) (i:=j) (sent':=ah) ⟨s,k,y,h1,h2,h3,h4,h5,h6,h7⟩ hq ν;have yM:(t++(u++#[z]))[s]? =some y:=by rw[getElem?_append_old aM];exact h1
 refine⟨s,k,y,yM,h2,h3,h4,(heard_old aM).2 h5,λp y2 a hp hy ha=>?_,λhk=>?_⟩;rcases getElem?_append_cases hp with⟨_,JP⟩|⟨_,TK⟩;exact h6 p y2 a JP hy ha;rw[hq y2 TK hy]at ha;cases ha;by_cases hkr:k<aC;exact(h7 hkr).app _;have TU:k=aC:=by omega
 subst TU;have hpos:(t++(u++#[z]))[t.size+u.size]? =some z:=by rw[<-Array.append_assoc,Array.getElem?_append_right (by simp)];simp
 have hh:(t++(u++#[z])).heard (t.size+u.size):=by
  refine⟨C.n+3,by rw[Trace.g?,hpos];simp[hg],?_⟩;rw[<-Array.append_assoc];have:t.size+u.size=(t++u).size:=by simp
  rw[this,deaf_old ν];exact(hu.deaf t (C.n+3)).trans hd
 refine⟨t.size+u.size,z,hpos,hg,.inr (.single (.inr ⟨.handOver (c:=C.N.D) (k:=k) (by rw[act?_of yM,h3]) (by rw[act?_of hpos,hz]),(heard_old aM).2 h5,hh⟩))⟩
def ach(I:Inv C all gs w t D cj cr ah aC)(T:Tr C t D ah aC){i}(hi:i<C.n+4)(h0:i≠0){c0}(aT:(D i).st=.live c0){xi} ci{gi} (Le:gs'[i]? =some xi) (hgo:∀k,k≠i->gs'[k]? =gs[k]?) (lC:gs'.size=gs.size) (MT:GR C.P C.E (D i).X (C.R i) gi xi/\Term C.P (C.N.Stop ci) gi (D i).v) (hu:Quiet u) (hw:∀k,k<C.n+4->jf C w (D k)->jf C w' (D k)) (hJ:∃s r,w'.heap[C.N.J]? =some (.chan 0 #[] cj' s r false)) (hR:∃s r,w'.heap[C.N.R]? =some (.chan 0 #[] cr' s r false)) (hD:w'.heap[C.N.D]? =some (.chan 3 (Array.replicate (sent'-rcvd') C.N.dv) false sent' rcvd' false)) (hs:∀k q,k<C.n+4->(D k).st=.old 1 q->jg C (t++u) k sent' rcvd') (dg:y5 C all (upd (bj D) i (.live ci)) cj' cr' sent' rcvd') (gm:ci.ev<c0.ev):∃D',Inv C all gs' w' (t++u) D' cj' cr' sent' rcvd'/\Tr C (t++u) D' sent' rcvd'/\TD C D' D/\∀k,(D' k).X=(D k).X:=by
 have hS:=oZ D i (.live ci) gi;have lE:=eN D i ((D i).to (.live ci) gi);refine⟨_,I.quiet hS hu (λk hk=>?_) (by rw[lC];exact I.size) hw ?_ hJ hR hD (by rw[lE];exact dg),T.quiet I hS hu (λk c' e=>?_) (λk r q e=>?_) (λk q hk e=>?_) (λq e=>?_),.inl ?_,λk=>(hS k).1⟩;by_cases h1:k=i;subst h1;refine .inr ?_;rw[upd_same,Le];exact⟨_,rfl,MT.1,MT.2⟩;exact .inl ⟨upd_ne D _ h1,hgo k h1⟩;rw[upd_ne D _ (Ne.symm h0),lC];exact I.main;by_cases h1:k=i;subst h1;rw[aT]at e;cases e;exact⟨c',by rw[upd_ne D _ h1];exact e⟩;by_cases h1:k=i;subst h1;rw[aT]at e;cases e;exact⟨r,q,by rw[upd_ne D _ h1];exact e⟩;by_cases h1:k=i;subst h1;rw[upd_same]at e;cases e;rw[upd_ne D _ h1]at e;exact hs k q hk e;by_cases h1:C.n+3=i;rw[h1,upd_same]at e;cases e;rw[upd_ne D _ h1]at e;exact⟨q,e⟩;rw[lE];have:=oe (C:=C) (s:=bj D) hi (.live ci);have e1:(bj D i).ev=c0.ev:=by rw[show bj D i=_ from aT];rfl
 have e2:(St.live ci).ev=ci.ev:=rfl;show Kk C (upd (bj D) i (.live ci))<_;omega
def Rz(L:yA C)(I:Inv C all gs w t D cj cr ah aC)(T:Tr C t D ah aC){i}(hi:i<C.n+4)(aT:(D i).st=.live .bg)(hA:C.N.A .bg (D i).g (D i).v)(Na:cj=true):Goes C all gs w sl t D i:=by
 obtain⟨g',hx,aM,jO⟩:=qd L I hi aT;have lP:=L.act .bg _ _ _ _ _ rfl hA jO (i==0) w;obtain⟨s,r,hc⟩:=I.CZ;have lO:cr=false:=by have:=I.dg.cP i hi;rw[show bj D i=_ from aT]at this;exact this
 subst Na;subst lO;have hp:partners (gs.setIfInBounds i ph) C.N.J true=[]:=I.vK λj c hj hc e=>by have cX:=I.dg.cP j hj;rw[show bj D j=_ from hc]at cX;cases c<;>simp only[Net.chan,Option.some.injEq,Prod.mk.injEq,Bool.false_eq_true,and_false,reduceCtorEq,and_true]at e;exact I.ne.1 e.symm;exact cX.elim;exact absurd cX.1 (by simp)
 have cF:=crowd_recv_closed (P:=C.P) (sl:=sl) hx lP hc hp;simp only[Net.shape,finishComm_recv,dI,Array.empty_append,recvd,if_true]at cF;have e1:bj D i=.live .bg:=aT;obtain⟨D',b1,b2,b3,b4⟩:=ach (gs':=gs.setIfInBounds i (Go.Conc.served g' (.tuple #[C.N.zJ,.bool false]))) (w':=w) (u:=#[{g:=i,fn:=g'.frame.fn,pos:=g'.frame.place,act:=.recvClosed C.N.J}]) (cj':=true) (cr':=false) (sent':=ah) (rcvd':=aC) I T hi (I.lZ hi aT (by simp[j8.role])) aT .fg
  (by rw[Array.getElem?_setIfInBounds_self_of_lt aM]) (λk hk=>Array.getElem?_setIfInBounds_ne (Ne.symm hk)) (by simp)
  ⟨iD (j2 jO) (V.pair L.Li.2.2.2.1 false),L.acs _ _ hA⟩
  (λop cI=>by simp at cI;subst cI;exact⟨rfl,λm=>by simp⟩) (λ_ _ h=>h) I.CZ I.DF I.GJ
  (λk q hk e=>(T.said k q hk e).app (λop cI _=>by simp at cI;subst cI;rfl) ν)
  (I.dg.one hi _ (by rw[e1];rfl) (λp=>by rw[e1];rfl) (by rw[e1];rfl) ⟨rfl,rfl⟩ (λc e=>by cases e)) (by simp[j8.ev])
 exact⟨_,_,_,D',_,_,_,_,cF,b1,b2,b3,jN b4 rfl rfl rfl rfl⟩
def Mq(L:yA C)(I:Inv C all gs w t D cj cr ah aC)(T:Tr C t D ah aC){i}(hi:i<C.n+4){k}(aT:(D i).st=.live (.bx k))(hA:C.N.A (.bx k) (D i).g (D i).v):Goes C all gs w sl t D i:=by
 obtain⟨g',hx,aM,jO⟩:=qd L I hi aT;have lP:=L.act (.bx k) _ _ _ _ _ rfl hA jO (i==0) w;have hc:=I.GJ;have cX:cj=true/\cr=false/\aC=k/\k<3:=by have:=I.dg.cP i hi;rw[show bj D i=_ from aT]at this;exact this
 obtain⟨rfl,rfl,rfl,Dw⟩:=cX;have e1:bj D i=.live (.bx aC):=aT;have TZ:i=C.n+3:=by
  have h1:=I.dg.role i hi;have h2:C.rl (C.n+3)=2:=by unfold j9.rl;rw[if_neg (by omega),if_neg (by omega),if_neg (by omega)]
  refine nL I.pos hi (by omega) ?_ (.inl ?_);rw[h2,<-h1,e1];rfl;rw[<-h1,e1];rfl
 have hp:partners (gs.setIfInBounds i ph) C.N.D true=[]:=I.vK λj c hj hc e=>by have cX:=I.dg.cP j hj;rw[show bj D j=_ from hc]at cX;cases c<;>simp only[Net.chan,Option.some.injEq,Prod.mk.injEq,Bool.false_eq_true,and_false,reduceCtorEq,and_true]at e;exact I.ne.2.2 e;exact cX.elim;exact I.ne.2.1 e
 by_cases hs:ah=aC;subst hs;obtain⟨gs',w',u,D',h1,h2,h3,h4⟩:=na (sl:=sl) L I T hi aT hA rfl rfl (λp=>rfl) (λcc uq=>by
 have:cc=rcase C.N.D C.N.zD:=by simpa[Net.cases]using uq
 subst this;refine ways_recv_none (cap:=3) (s:=ah) (r:=ah) (tm:=false) ?_ hp;rw[hc];simp) ⟨rfl,rfl,rfl,Dw⟩ (λe=>by cases e) (λa' Dj e=>by cases e) (λa' e=>by cases e) (λg e=>by cases e) (λk e=>rfl) (λe=>absurd e (I.lZ hi aT (by simp[j8.role])))
 exact⟨gs',w',u,D',_,_,_,_,h1,h2,h3,nf hi aT rfl h4.1,h4.2⟩;have hle:=I.dg.le;have lC:0< (Array.replicate (ah-aC) C.N.dv).size:=by simp;omega
 have cF:=crowd_recv_buf (P:=C.P) (sl:=sl) hx lP hc lC hp;have kM:(Array.replicate (ah-aC) C.N.dv).getD 0 undef=C.N.dv:=by rw[Array.getD_eq_getD_getElem?,Array.getElem?_replicate,if_pos (by omega)];rfl
 have at3:(Array.replicate (ah-aC) C.N.dv).extract 1 (Array.replicate (ah-aC) C.N.dv).size=Array.replicate (ah-(aC+1)) C.N.dv:=by rw[Array.extract_replicate];congr 1;simp;omega
 simp only[Net.shape,finishComm_recv,dI,Array.empty_append,kM,at3]at cF;have pJ:recvd false C.N.dv true=C.N.dv:=rfl;rw[pJ]at cF;have lN:C.N.D<w.heap.size:=(Array.getElem?_eq_some_iff.1 hc).1;have W8:∃ci:j8 α,Term C.P (C.N.Stop ci) (Go.Conc.served (D i).g C.N.dv) (D i).v/\ci.role=2/\(∀p,ci.tok p=0)/\YK true false (aC+1) ci/\fi true false (aC+1) (.live ci)/\ci.ev<5-aC:=by by_cases h2:aC=2;subst h2;exact⟨.dk,L.Ge _ _ hA,rfl,λ_=>rfl,⟨rfl,rfl,rfl⟩,⟨rfl,rfl,rfl⟩,by simp[j8.ev]⟩;refine⟨.bx (aC+1),L.Mh aC _ _ (by omega) hA,rfl,λ_=>rfl,⟨rfl,rfl,rfl,by omega⟩,⟨rfl,rfl,rfl,by omega⟩,?_⟩;show 5-(aC+1)<5-aC;omega
 obtain⟨ci,c1,c2,c3,c4,c5,c6⟩:=W8;have hu:Quiet #[{g:=i,fn:=g'.frame.fn,pos:=g'.frame.place,act:=.recv C.N.D aC 3},{g:=i,fn:=g'.frame.fn,pos:=g'.frame.place,act:=.recvDone C.N.D aC}]:=by intro op cI;simp at cI;rcases cI with rfl|rfl<;>exact⟨rfl,λm=>by simp⟩
 have ry:C.gN i:=I.gN hi (by rw[aT];exact jV (α:=α) (.bx aC));have pK:∀j,j<C.n+4->j≠i->fi true false (aC+1) (bj D j)/\(∀q,bj D j=.bd (.bx q)->False):=by
  intro j hj aS;have h1:=I.dg.cP j hj;have h2:=I.dg.role j hj;have mJ:C.rl j≠2:=λe=>aS (nL I.pos hj hi (by rw[e,<-I.dg.role i hi,e1];rfl) (.inl e));cases xu:bj D j with
  |old r q=>
   rw[xu]at h1 h2;refine⟨?_,λq e=>by cases e⟩;match r,h1,h2 with
   |0,_,_=>exact trivial
   |1,h1,_=>exact h1
   |2,_,h2=>exact absurd h2.symm mJ
   |r+3,_,_=>exact trivial
  |bU c=>rw[xu]at h1 h2;refine⟨?_,λq e=>by cases e⟩;cases c<;>first|exact h1|exact absurd h2.symm mJ
  |born c=>rw[xu]at h1 h2;refine⟨?_,λq e=>by cases e⟩;cases c<;>first|exact h1|exact absurd h2.symm mJ
  |live c=>rw[xu]at h1 h2;refine⟨?_,λq e=>by cases e⟩;cases c<;>first|exact h1|exact absurd h2.symm mJ
  |bd c=>rw[xu]at h1 h2;refine⟨?_,λq e=>by cases e;exact absurd h2.symm mJ⟩;cases c<;>first|exact h1|exact absurd h2.symm mJ
 obtain⟨D',b1,b2,b3,b4⟩:=ach (gs':=gs.setIfInBounds i (Go.Conc.served g' C.N.dv)) (w':=World.setChan w C.N.D 3 (Array.replicate (ah-(aC+1)) C.N.dv) false ah (aC+1) false) (u:=#[{g:=i,fn:=g'.frame.fn,pos:=g'.frame.place,act:=.recv C.N.D aC 3},{g:=i,fn:=g'.frame.fn,pos:=g'.frame.place,act:=.recvDone C.N.D aC}]) (cj':=true) (cr':=false) (sent':=ah) (rcvd':=aC+1) I T hi (I.lZ hi aT (by simp[j8.role])) aT ci
  (by rw[Array.getElem?_setIfInBounds_self_of_lt aM]) (λk hk=>Array.getElem?_setIfInBounds_ne (Ne.symm hk)) (by simp)
  ⟨iD (j2 jO) (L.Li.2.2.1.self _),c1⟩ hu
  (λk hk h=>by
   have:=h.chan C (c:=C.N.D) hc (.chan 3 (Array.replicate (ah-(aC+1)) C.N.dv) false ah (aC+1) false) w.drawn;exact this)
  (by obtain⟨s2,r2,h2⟩:=I.CZ;exact⟨s2,r2,by show(w.heap.setIfInBounds C.N.D _)[C.N.J]? =_;rw[Array.getElem?_setIfInBounds_ne (Ne.symm I.ne.2.1)];exact h2⟩)
  (by obtain⟨s2,r2,h2⟩:=I.DF;exact⟨s2,r2,by show(w.heap.setIfInBounds C.N.D _)[C.N.R]? =_;rw[Array.getElem?_setIfInBounds_ne (Ne.symm I.ne.2.2)];exact h2⟩)
  (by show(w.heap.setIfInBounds C.N.D _)[C.N.D]? =_;rw[Array.getElem?_setIfInBounds_self_of_lt lN])
  (λj q hj e=>by
   have hd:Deaf t i=0:=T.deaf i ry λr q e=>by rw[aT]at e;cases e
   have:=(T.said j q hj e).recv (z:={g:=i,fn:=g'.frame.fn,pos:=g'.frame.place,act:=.recvDone C.N.D aC}) (u:=#[{g:=i,fn:=g'.frame.fn,pos:=g'.frame.place,act:=.recv C.N.D aC 3}]) TZ rfl (by rw[<-TZ];exact hd) (λop cI=>by simp at cI;subst cI;exact⟨rfl,λm=>by simp⟩) (by omega)
   simpa using this)
  (I.dg.zh (λj hj=>by
    by_cases aS:j=i
    ·subst aS;rw[upd_same,e1];exact c2
    ·rw[upd_ne _ _ aS]) (λp=>by
    have:=sumTo_upd (bj D) (.live ci) (λy=>y.tok p) hi
    have e2:(bj D i).tok p=0:=by rw[e1];rfl
    have e3:(St.live ci).tok p=0:=c3 p;omega) (by omega) (by
    have:=sumTo_upd (bj D) (.live ci) (λy=>y.said) hi
    have e2:(bj D i).said=0:=by rw[e1];rfl
    have e3:(St.live ci).said=0:=rfl;have e4:=I.dg.said;omega) (λj hj=>by
    by_cases aS:j=i
    ·subst aS;rw[upd_same];exact c5
    ·rw[upd_ne _ _ aS];exact(pK j hj aS).1) (λj c hj e=>by
    by_cases aS:j=i
    ·subst aS;rw[upd_same]at e;cases e
    ·rw[upd_ne _ _ aS]at e;exact e) (λj q hj e=>by
    by_cases aS:j=i
    ·subst aS;rw[upd_same]at e;cases e
    ·rw[upd_ne _ _ aS]at e;exact((pK j hj aS).2 q e).elim)) c6
 exact⟨_,_,_,D',_,_,_,_,cF,b1,b2,b3,gC b4 (.inr (.inr rfl)) rfl rfl rfl rfl⟩
end
end Ph
namespace Ph
open Go.Conc Rn
open Go.ConcN (sumTo upd sumTo_upd upd_ne upd_same le_sumTo)
open Tp (cO Term Ld)
variable{α:Type}{C:j9 α}
section
variable{all:List α}{gs gs':Array Goroutine}{w w':World}{t u:Trace}{D D':Nat->Pd α}{cj cr cj' cr':Bool}{ah aC sent' rcvd':Nat}{sl:Option (Nat×Nat)}
def lT(hp:0<C.n):sumTo (C.n+4) (λi=>if C.rl i=1 then 1 else 0)=3:=by
 have h0:∀m,m<=C.n->sumTo m (λi=>if C.rl i=1 then 1 else 0)=0:=by
  intro m;induction m with
  |zero=>intro _;rfl|succ m ih=>
  intro hm;show sumTo m _+(if C.rl m=1 then 1 else 0)=0;rw[ih (by omega)];have:C.rl m≠1:=by unfold j9.rl;split;omega;rw[if_pos (by omega)];omega
  rw[if_neg this]
 have h1:∀j,j<3->C.rl (C.n+j)=1:=λj hj=>by unfold j9.rl;rw[if_neg (by omega),if_neg (by omega),if_pos (by omega)]
 have h3:C.rl (C.n+3)≠1:=by unfold j9.rl;rw[if_neg (by omega),if_neg (by omega),if_neg (by omega)];omega
 show sumTo C.n _+(if C.rl C.n=1 then 1 else 0)+(if C.rl (C.n+1)=1 then 1 else 0)+(if C.rl (C.n+2)=1 then 1 else 0)+(if C.rl (C.n+3)=1 then 1 else 0)=3;rw[h0 C.n ν,if_pos (show C.rl C.n=1 from h1 0 (by omega)),if_pos (h1 1 (by omega)),if_pos (h1 2 (by omega)),if_neg h3]
def Fw(s:St α):s.said<=if s.role=1 then 1 else 0:=by
 cases s with
 |old r q=>
  match r with
  |0=>exact Nat.zero_le _
  |1=>exact ν
  |r+2=>exact Nat.zero_le _
 |_=>exact Nat.zero_le _
def y5.ZF{s}(h:y5 C all s cj cr ah aC)(hp:0<C.n){i}(hi:i<C.n+4)(hr:(s i).role=1)(hs:(s i).said=0):ah<3:=by
 apply Classical.byContradiction;intro hn;have h1:=lT (C:=C) hp;have h2:=zq (f:=λi=>(s i).said) (g:=λi=>if C.rl i=1 then 1 else 0) (C.n+4) (λi hi=>by have:=Fw (s i);rwa[h.role i hi]at this) (by rw[h1,<-h.said];omega) i hi;replace h2:(s i).said=if C.rl i=1 then 1 else 0:=h2
 rw[<-h.role i hi,hr,hs]at h2;simp at h2
def IC(T:Tr C t D ah aC){i}(ry:C.gN i)(um:∀r q,(D i).st≠.old r q){z u}(hz:z.g=i)(ha:z.act=.send C.N.D ah)(hu:Quiet (#[z]++u))(hle:aC<=ah):jg C (t++(#[z]++u)) i (ah+1) aC:=by
 have hpos:(t++(#[z]++u))[t.size]? =some z:=by rw[Array.getElem?_append_right ν,Nat.sub_self,Array.getElem?_append_left (by simp)];rfl
 refine⟨t.size,ah,z,hpos,hz,ha,by omega,⟨i,by rw[Trace.g?,hpos];simp[hz],?_⟩,λp y a hp hy hya=>?_,λhk=>by omega⟩;rw[deaf_old ν];exact T.deaf i ry um;rcases getElem?_append_cases hp with⟨h1,_⟩|⟨_,TK⟩;exact h1;rw[(hu y TK).1]at hya;cases hya
def QE(I:Inv C all gs w t D cj cr ah aC){i}(hi:i<C.n+4)(hr:(bj D i).role=1):C.R i=C.R i/\C.n<=i:=by refine⟨rfl,?_⟩;have:=I.dg.role i hi;rw[hr]at this;unfold j9.rl at this;apply Classical.byContradiction;intro hn;by_cases h0:i=0;rw[if_pos h0]at this;omega;rw[if_neg h0,if_pos (by omega)]at this;omega
def y5.next{s}(h:y5 C all s true false ah aC)(hp:0<C.n){i}(hi:i<C.n+4)(hri:(s i).role=2) k:∀j,j<C.n+4->j≠i->fi true false k (s j)/\(∀q,s j=.bd (.bx q)->False):=by
 intro j hj aS;have h1:=h.cP j hj;have h2:=h.role j hj;have mJ:C.rl j≠2:=λe=>aS (nL hp hj hi (by rw[e,<-h.role i hi,hri]) (.inl e));cases xu:s j with
 |old r q=>
  rw[xu]at h1 h2;refine⟨?_,λq e=>by cases e⟩;match r,h1,h2 with
  |0,_,_=>exact trivial
  |1,h1,_=>exact h1
  |2,_,h2=>exact absurd h2.symm mJ
  |r+3,_,_=>exact trivial
 |bU c=>rw[xu]at h1 h2;refine⟨?_,λq e=>by cases e⟩;cases c<;>first|exact h1|exact absurd h2.symm mJ
 |born c=>rw[xu]at h1 h2;refine⟨?_,λq e=>by cases e⟩;cases c<;>first|exact h1|exact absurd h2.symm mJ
 |live c=>rw[xu]at h1 h2;refine⟨?_,λq e=>by cases e⟩;cases c<;>first|exact h1|exact absurd h2.symm mJ
 |bd c=>rw[xu]at h1 h2;refine⟨?_,λq e=>by cases e;exact absurd h2.symm mJ⟩;cases c<;>first|exact h1|exact absurd h2.symm mJ
def Mf(L:yA C){k g v}(hk:k<3)(hA:C.N.A (.bx k) g v):∃ci:j8 α,Term C.P (C.N.Stop ci) (Go.Conc.served g C.N.dv) v/\ci.role=2/\(∀p,ci.tok p=0)/\fi true false (k+1) (.live ci)/\ci.ev<5-k:=by by_cases h2:k=2;subst h2;exact⟨.dk,L.Ge _ _ hA,rfl,λ_=>rfl,⟨rfl,rfl,rfl⟩,by simp[j8.ev]⟩;refine⟨.bx (k+1),L.Mh k _ _ (by omega) hA,rfl,λ_=>rfl,⟨rfl,rfl,rfl,by omega⟩,?_⟩;show 5-(k+1)<5-k;omega
def Mm(L:yA C)(eX:∀i,C.n<=i->i<C.n+4->C.R i=[base C.P])(I:Inv C all gs w t D cj cr ah aC)(T:Tr C t D ah aC){i}(hi:i<C.n+4)(aT:(D i).st=.live .fg)(hA:C.N.A .fg (D i).g (D i).v):Goes C all gs w sl t D i:=by
 obtain⟨g',hx,aM,jO⟩:=qd L I hi aT;have lP:=L.act .fg _ _ _ _ _ rfl hA jO (i==0) w;have hc:=I.GJ;have e1:bj D i=.live .fg:=aT;have cX:cj=true/\cr=false:=by have:=I.dg.cP i hi;rw[e1]at this;exact this
 obtain⟨rfl,rfl⟩:=cX;have oP:=(QE I hi (by rw[e1];rfl)).2;have fy:i≠0:=I.lZ hi aT (by simp[j8.role]);have ry:C.gN i:=.inr ⟨oP,hi⟩;have um:∀r q,(D i).st≠.old r q:=λr q e=>by rw[aT]at e;cases e
 have hd0:Deaf t i=0:=T.deaf i ry um;have hle:=I.dg.le;have hs3:ah<3:=I.dg.ZF I.pos hi (by rw[e1];rfl) (by rw[e1];rfl);rw[eX i oP hi]at jO;obtain⟨q,hq⟩:=L.VQ _ _ _ _ hA jO;have lN:C.N.D<w.heap.size:=(Array.getElem?_eq_some_iff.1 hc).1;by_cases hp:partners (gs.setIfInBounds i ph) C.N.D false=[];have Bw:(Array.replicate (ah-aC) C.N.dv).size<3:=by simp;omega
 have cF:=crowd_send_room (P:=C.P) (sl:=sl) hx lP hc Bw hp;have alS:(Array.replicate (ah-aC) C.N.dv).push C.N.dv=Array.replicate (ah+1-aC) C.N.dv:=by rw[show ah+1-aC=(ah-aC)+1 by omega,Array.replicate_succ]
 simp only[Net.shape,finishComm_send,dI,Array.empty_append,alS]at cF;have hu:Quiet (#[{g:=i,fn:=g'.frame.fn,pos:=g'.frame.place,act:=.send C.N.D ah}]++#[{g:=i,fn:=g'.frame.fn,pos:=g'.frame.place,act:=.sendDone C.N.D ah}]):=by intro op cI;simp at cI;rcases cI with rfl|rfl<;>exact⟨rfl,λm=>by simp⟩
 have hS:=oZ D i (.old 1 q) (D i).g;have lE:=eN D i ((D i).to (.old 1 q) (D i).g);have aaM:∀j k,j<C.n+4->bj D j≠.bd (.bx k):=λj k hj=>I.waits aT hp hj rfl;refine⟨_,_,_,upd D i ((D i).to (.old 1 q) (D i).g),true,false,ah+1,aC,cF,I.quiet hS hu (λj hj=>?_) (by simpa using I.size) (λj hj h=>?_) ?_ ?_ ?_ ?_ ?_,T.quiet I hS hu (λj c' e=>?_) (λj r q' e=>?_) (λj q' hj e=>?_) (λq' e=>?_),.inl ?_,gC (λk=>(hS k).1) (.inr (.inr rfl)) rfl rfl rfl rfl⟩;by_cases aS:j=i;subst aS;refine .inr ?_;rw[upd_same,Array.getElem?_setIfInBounds_self_of_lt aM];exact⟨⟨_,rfl,by rw[hd0];exact hq⟩,λe=>by cases e⟩;exact .inl ⟨upd_ne D _ aS,Array.getElem?_setIfInBounds_ne (Ne.symm aS)⟩;exact h.chan C (c:=C.N.D) hc (.chan 3 (Array.replicate (ah+1-aC) C.N.dv) false (ah+1) aC false) w.drawn;rw[upd_ne D _ (Ne.symm fy),Array.size_setIfInBounds];exact I.main;obtain⟨s2,r2,h2⟩:=I.CZ;exact⟨s2,r2,by show(w.heap.setIfInBounds C.N.D _)[C.N.J]? =_;rw[Array.getElem?_setIfInBounds_ne (Ne.symm I.ne.2.1)];exact h2⟩;obtain⟨s2,r2,h2⟩:=I.DF;exact⟨s2,r2,by show(w.heap.setIfInBounds C.N.D _)[C.N.R]? =_;rw[Array.getElem?_setIfInBounds_ne (Ne.symm I.ne.2.2)];exact h2⟩;show(w.heap.setIfInBounds C.N.D _)[C.N.D]? =_;rw[Array.getElem?_setIfInBounds_self_of_lt lN];rw[lE];refine I.dg.zh (λj hj=>?_) (λp=>?_) (by omega) ?_ (λj hj=>?_) (λj c hj e=>?_) (λj k hj e=>?_);by_cases aS:j=i;subst aS;rw[upd_same,e1];rfl;rw[upd_ne _ _ aS];have:=sumTo_upd (bj D) (.old 1 q) (λy=>y.tok p) hi;have e2:(bj D i).tok p=0:=by rw[e1];rfl
 have e3:(St.old 1 q:St α).tok p=0:=rfl;show sumTo (C.n+4) (λi_1=>St.tok p (upd (bj D) i (.old 1 q) i_1))=_;omega;have:=sumTo_upd (bj D) (.old 1 q) (λy=>y.said) hi;have e2:(bj D i).said=0:=by rw[e1];rfl
 have e3:(St.old 1 q:St α).said=1:=rfl;have e4:=I.dg.said;show _=sumTo (C.n+4) (λi_1=>St.said (upd (bj D) i (.old 1 q) i_1));omega;by_cases aS:j=i;subst aS;rw[upd_same];exact rfl;rw[upd_ne _ _ aS];exact I.dg.cP j hj;by_cases aS:j=i;subst aS;rw[upd_same]at e;cases e;rw[upd_ne _ _ aS]at e;exact e;by_cases aS:j=i;subst aS;rw[upd_same]at e;cases e;rw[upd_ne _ _ aS]at e;exact absurd e (aaM j k hj);by_cases aS:j=i;subst aS;rw[aT]at e;cases e;exact⟨c',by rw[upd_ne D _ aS];exact e⟩;by_cases aS:j=i;subst aS;rw[aT]at e;cases e;exact⟨r,q',by rw[upd_ne D _ aS];exact e⟩;by_cases aS:j=i;subst aS;exact IC T ry um rfl rfl hu hle;rw[upd_ne D _ aS]at e;exact(T.said j q' hj e).app (λop cI _=>(hu op cI).1) (by omega);by_cases aS:C.n+3=i;rw[aS,upd_same]at e;cases e;rw[upd_ne D _ aS]at e;exact⟨q',e⟩;rw[lE];have:=oe (C:=C) (s:=bj D) hi (.old 1 q);have e2:(bj D i).ev=1:=by rw[e1];rfl
 have e3:(St.old 1 q:St α).ev=0:=rfl;show Kk C (upd (bj D) i (.old 1 q))<_;omega;have gQ:∀j k,(j,k)∈partners (gs.setIfInBounds i ph) C.N.D false->k=0/\j≠i/\∃gj zj Oo,gs[j]? =some (parked gj #[rcase C.N.D zj] Oo):=by intro j k hm;obtain⟨h1,h2,h3,c,g2,h4,h5,h6,_⟩:=I.partner hm;refine⟨h1,h2,?_⟩;cases c<;>simp only[Net.chan,Option.some.injEq,Prod.mk.injEq,and_false,reduceCtorEq,and_true]at h5;exact absurd h5 I.ne.2.1;exact⟨_,_,_,h6⟩;exact absurd h5 I.ne.2.2
 obtain⟨j,gj,zj,Oo,d,aS,xB,cF⟩:=crowd_send_meets_some (P:=C.P) (sl:=sl) hx lP hc hp gQ;obtain⟨kL,c,pN,dL,nh,BF,Sy⟩:=I.parked xB;have mB:=I.dg.cP j kL;rw[show bj D j=_ from pN]at mB;cases c with
 |bx k=>
 obtain⟨_,_,hrk,Dw⟩:_/\_/\aC=k/\k<3:=mB;subst hrk;have e2:bj D j=.bd (.bx aC):=pN;have hsr:ah=aC:=I.dg.p3 j aC kL e2;subst hsr;have hj3:j=C.n+3:=by
  have h1:=I.dg.role j kL;have h2:C.rl (C.n+3)=2:=by unfold j9.rl;rw[if_neg (by omega),if_neg (by omega),if_neg (by omega)]
  refine nL I.pos kL (by omega) ?_ (.inl ?_);rw[h2,<-h1,e2];rfl;rw[<-h1,e2];rfl
 subst nh;have pJ:recvd false C.N.dv true=C.N.dv:=rfl;simp only[Net.shape,finishComm_send,finishComm_recv,dI,Array.empty_append,pJ]at cF;have hsv:Go.Conc.served {g' with status:=.running,offers:=none} undef=Go.Conc.served g' undef:=rfl;rw[hsv]at cF;have hjs:j<gs.size:=(Array.getElem?_eq_some_iff.1 xB).1;have Xi:j≠0:=by have:=I.pos;omega
 have ami:C.gN j:=.inr ⟨by omega,kL⟩;have atA:∀r q,(D j).st≠.old r q:=λr q e=>by rw[pN]at e;cases e
 have hdj:Deaf t (C.n+3)=0:=by rw[<-hj3];exact T.deaf j ami atA
 obtain⟨ci,c1,c2,c3,c5,c6⟩:=Mf L Dw Sy;obtain⟨a1,a2,a3,a4⟩:=XJ gs aS aM hjs (Go.Conc.served g' undef) (Go.Conc.served gj C.N.dv);have hS:=mS D i j (.old 1 q) (.live ci) (D i).g (Go.Conc.served (D j).g C.N.dv);have mA:∀k,upd (upd D i ((D i).to (.old 1 q) (D i).g)) j ((D j).to (.live ci) (Go.Conc.served (D j).g C.N.dv)) k=if k=j then(D j).to (.live ci) (Go.Conc.served (D j).g C.N.dv)else if k=i then(D i).to (.old 1 q) (D i).g else D k:=λk=>rfl
 generalize hD':upd (upd D i ((D i).to (.old 1 q) (D i).g)) j ((D j).to (.live ci) (Go.Conc.served (D j).g C.N.dv))=D' at hS mA;have lE:bj D'=upd (upd (bj D) i (.old 1 q)) j (.live ci):=by rw[<-hD',eN,eN];rfl
 have Ww:D' j=(D j).to (.live ci) (Go.Conc.served (D j).g C.N.dv):=by rw[mA,if_pos rfl]
 have hvi:D' i=(D i).to (.old 1 q) (D i).g:=by rw[mA,if_neg (Ne.symm aS),if_pos rfl]
 have Wv:∀k,k≠i->k≠j->D' k=D k:=λk h1 h2=>by rw[mA,if_neg h2,if_neg h1]
 have awL:∀k,bj D' k=if k=j then .live ci else if k=i then .old 1 q else bj D k:=λk=>by rw[lE];rfl
 let z:MemOp:={g:=i,fn:=g'.frame.fn,pos:=g'.frame.place,act:=.send C.N.D ah};let z1:MemOp:={g:=j,fn:=gj.frame.fn,pos:=gj.frame.place,act:=.recv C.N.D ah 3};let z2:MemOp:={g:=i,fn:=g'.frame.fn,pos:=g'.frame.place,act:=.sendDone C.N.D ah};let z3:MemOp:={g:=j,fn:=gj.frame.fn,pos:=gj.frame.place,act:=.recvDone C.N.D ah};have Du:Quiet #[z]:=λop cI=>by
  have:op=z:=by simpa using cI
  subst this;exact⟨rfl,λm=>by simp[z]⟩
 have Hx:Quiet #[z1,z2]:=λop cI=>by
  have:op=z1∨op=z2:=by simpa using cI
  rcases this with rfl|rfl<;>exact⟨rfl,λm=>by simp[z1,z2]⟩
 have hu:Quiet #[z,z1,z2,z3]:=k9 i j g'.frame.fn gj.frame.fn g'.frame.place gj.frame.place C.N.D ah ah 3;have ah0:t++#[z,z1,z2,z3]=t++#[z]++(#[z1,z2]++#[z3]):=by simp
 have aua:Deaf (t++#[z]) (C.n+3)=0:=(Du.deaf t (C.n+3)).trans hdj;refine⟨_,_,_,D',true,false,ah+1,ah+1,cF,I.quiet hS hu (λk hk=>?_) (by rw[a4];exact I.size) (λk hk h=>?_) ?_ ?_ ?_ ?_ ?_,T.quiet I hS hu (λk c' e=>?_) (λk r q' e=>?_) (λk q' hk e=>?_) (λq' e=>?_),.inl ?_,gC (λk=>(hS k).1) (.inr (.inr rfl)) rfl rfl rfl rfl⟩;by_cases h1:k=i;subst h1;refine .inr ?_;rw[hvi,a1];exact⟨⟨_,rfl,by rw[hd0];exact hq⟩,λe=>by cases e⟩;by_cases h2:k=j;subst h2;refine .inr ?_;rw[Ww,a2];exact⟨_,rfl,iD BF (L.Li.2.2.1.self _),c1⟩;exact .inl ⟨Wv k h1 h2,a3 k h1 h2⟩;have:=(h.drawn C d).chan C (c:=C.N.D) (by exact hc) (.chan 3 (Array.replicate (ah-ah) C.N.dv) false (ah+1) (ah+1) false) d;exact this;rw[Wv 0 (Ne.symm fy) (Ne.symm Xi),a4];exact I.main;obtain⟨s2,r2,h2⟩:=I.CZ;exact⟨s2,r2,by show(w.heap.setIfInBounds C.N.D _)[C.N.J]? =_;rw[Array.getElem?_setIfInBounds_ne (Ne.symm I.ne.2.1)];exact h2⟩;obtain⟨s2,r2,h2⟩:=I.DF;exact⟨s2,r2,by show(w.heap.setIfInBounds C.N.D _)[C.N.R]? =_;rw[Array.getElem?_setIfInBounds_ne (Ne.symm I.ne.2.2)];exact h2⟩;show(w.heap.setIfInBounds C.N.D _)[C.N.D]? =_;rw[Array.getElem?_setIfInBounds_self_of_lt lN,Nat.sub_self,Nat.sub_self];rw[lE];refine I.dg.two hi kL (Ne.symm aS) (.old 1 q) (.live ci) (by rw[e1];rfl) (by rw[e2];exact c2) (λp=>?_) ?_ ν (λk hk h1 h2=>(I.dg.next I.pos kL (by rw[e2];rfl) (ah+1) k hk h2).1) rfl c5 (λc e=>by cases e) (λc e=>by cases e) (λk q' hk h1 h2 e=>((I.dg.next I.pos kL (by rw[e2];rfl) (ah+1) k hk h2).2 q' e).elim);rw[e1,e2];show 0+ci.tok p=0+0;rw[c3];rw[e1,e2];show 1+0+ah=0+0+(ah+1);omega;by_cases h1:k=i;subst h1;rw[aT]at e;cases e;by_cases h2:k=j;subst h2;rw[pN]at e;cases e;exact⟨c',by rw[Wv k h1 h2];exact e⟩;by_cases h1:k=i;subst h1;rw[aT]at e;cases e;by_cases h2:k=j;subst h2;rw[pN]at e;cases e;exact⟨r,q',by rw[Wv k h1 h2];exact e⟩;show jg C (t++#[z,z1,z2,z3]) k (ah+1) (ah+1);rw[ah0];have h1:jg C (t++#[z]) k (ah+1) ah:=by
  by_cases h1:k=i;subst h1;have:=IC (u:=#[]) T ry um (z:=z) rfl rfl (by rw[Array.append_empty];exact Du) hle;rwa[Array.append_empty]at this;have h2:k≠j:=λe3=>by subst e3;rw[Ww]at e;cases e
  rw[Wv k h1 h2]at e;exact(T.said k q' hk e).app (λop cI _=>(Du op cI).1) (by omega)
 exact h1.recv (z:=z3) (u:=#[z1,z2]) hj3 rfl aua Hx (by omega);by_cases h2:C.n+3=j;rw[h2,Ww]at e;cases e;exact absurd hj3.symm h2;rw[lE];have:=yV (C:=C) (s:=bj D) hi kL (Ne.symm aS) (.old 1 q) (.live ci);have f1:(bj D i).ev=1:=by rw[e1];rfl
 have f2:(St.old 1 q:St α).ev=0:=rfl;have f3:(bj D j).ev=5-ah:=by rw[e2];rfl
 have f4:(St.live ci).ev=ci.ev:=rfl;omega
 |cU a rem=>exact(dq dL).elim|b9 a=>exact(dq dL).elim
 |bg=>exact absurd (kS dL).symm I.ne.2.1|aZ g=>exact absurd (kS dL).symm I.ne.2.2
 |_=>exact mB.elim
end
end Ph
namespace Ph
open Go.Conc Rn
open Go.ConcN (sumTo upd sumTo_upd upd_ne upd_same le_sumTo)
open Tp (cO Term Ld)
variable{α:Type}{C:j9 α}
section
variable{all:List α}{gs gs':Array Goroutine}{w w':World}{t u:Trace}{D D':Nat->Pd α}{cj cr cj' cr':Bool}{ah aC sent' rcvd':Nat}{sl:Option (Nat×Nat)}
def fA(k:j8 α->Bool):St α->St α
 |.bd c=>if k c then .live c else .bd c|s=>s
def eQ k(c:j8 α):fA k (.bd c)=if k c=true then .live c else .bd c:=rfl
def Qh k(s:St α):(fA k s).role=s.role:=by cases s with|bd c=>rw[eQ];split<;>rfl|_=>rfl
def Ij k(s:St α) p:(fA k s).tok p=s.tok p:=by cases s with|bd c=>rw[eQ];split<;>rfl|_=>rfl
def DT k(s:St α):(fA k s).said=s.said:=by cases s with|bd c=>rw[eQ];split<;>rfl|_=>rfl
def NY k(s:St α):(fA k s).ev=s.ev:=by cases s with|bd c=>rw[eQ];split<;>rfl|_=>rfl
def pB{u}(h:∀op∈u,∀m,op.act≠.mark m) t g:Deaf (t++u) g=Deaf t g:=by
 obtain⟨l⟩:=u;rw[Deaf_append];generalize Deaf t g=d;induction l with
 |nil=>rfl|cons y l ih=>
 have e:deafStep g d y=d:=by have:=h y (by simp);unfold deafStep;split;rename_i hh;exact absurd hh (this _);rename_i hh;exact absurd hh (this _);rfl
 rw[List.foldl_cons,e];exact ih (λop cI=>h op (by simp at cI|-;exact .inr cI))
def eZ(i fn:Nat)(pos:String)(ch:Nat):Trace:=#[{g:=i,fn:=fn,pos:=pos,act:=.access ⟨.obj ch,false,true⟩},{g:=i,fn:=fn,pos:=pos,act:=.close ch}]
def py i fn pos ch:MemOp.ofEvents i fn pos #[⟨.obj ch,false,true⟩,⟨.obj ch,true,true⟩]=eZ i fn pos ch:=by unfold MemOp.ofEvents eZ;simp[MemAct.ofEvent]
def ed{i fn pos ch op}(h:op∈eZ i fn pos ch):op.g=i/\(∀m,op.act≠.mark m)/\(op.act.touch? =none∨op.act.touch? =some ⟨.obj ch,false,.atomic⟩):=by unfold eZ at h;simp at h;rcases h with rfl|rfl;exact⟨rfl,λm=>by simp,.inr rfl⟩;exact⟨rfl,λm=>by simp,.inl rfl⟩
def Tr.close(T:Tr C t D ah aC){i fn ch:Nat}{pos:String}(hg:C.gN i)(Pz:ch=C.N.J∨ch=C.N.R)(um:∀g,C.gN g->ch∉ (D g).X)(hnu:∀c,(D i).st≠.bU c) (hX:∀g,(D' g).X=(D g).X) (Wx:∀j c,(D j).st=.bU c->∃c',(D' j).st=.bU c') (ho:∀j r q,(D j).st=.old r q->∃r' q',(D' j).st=.old r' q') (hs:∀j q,(D' j).st=.old 1 q->j≠i/\(D j).st=.old 1 q) (nh:∀q,(D' (C.n+3)).st=.old 2 q->sV C (t++eZ i fn pos ch)):Tr C (t++eZ i fn pos ch) D' ah aC where
 clean:=λsaid=>noRace_append (T.clean said) (λop cI=>(ed cI).1) λp a ha op cI b hb hc=>by rcases(ed cI).2.2 with h|h;rw[h]at hb;cases hb;rw[h]at hb;cases hb;have hw:a.write=true:=hc.2.2.1.resolve_right (by simp);rcases T.touch p a ha hc.2.1 with hk|⟨o,h1,h2,h3|h3⟩;exact hk i hg hnu;rw[hc.1]at h3;exact absurd h3.1 (um o.g h2);rw[hw]at h3;cases h3.1
 touch:=λp a ha hm=>by obtain⟨x,hx,uT⟩:=touch_of ha;rcases getElem?_append_cases hx with⟨hp,xq⟩|⟨_,TM⟩;rcases T.touch p a (by rw[touchAt_of xq];exact uT) hm with hk|⟨op,h1,h2,h3⟩;exact .inl λj hj hc=>(hk j hj λc e=>by obtain⟨c',h⟩:=Wx j c e;exact hc c' h).app _;refine .inr ⟨op,by rw[getElem?_append_old hp];exact h1,h2,?_⟩;unfold TC at h3|-;rw[hX];exact h3;obtain⟨e1,_,e3⟩:=ed TM;refine .inr ⟨x,hx,by rw[e1];exact hg,.inr ?_⟩;rcases e3 with h|h;rw[h]at uT;cases uT;rw[h]at uT;cases uT;exact⟨rfl,by rcases Pz with e|e<;>rw[e]<;>simp⟩
 deaf:=λj hj hc=>by rw[pB (λop cI=>(ed cI).2.1)];exact T.deaf j hj λr q e=>by obtain⟨r',q',h⟩:=ho j r q e;exact hc r' q' h
 said:=λj q hj e=>by obtain⟨h1,h2⟩:=hs j q e;exact(T.said j q hj h2).app (λop cI xB=>absurd ((ed cI).1.symm.trans xB) (Ne.symm h1)) ν
 shut:=nh;above:=λj hj=>(pB (λop cI=>(ed cI).2.1) t j).trans (T.above j hj)
def fi.fA{k}{s:St α}(h1:∀c,s=.bd c->k c=true->fi cj cr aC (.live c))(h2:(∀c,s=.bd c->k c=false)->fi cj cr aC s):fi cj cr aC (fA k s):=by
 cases s with
 |bd c=>rw[eQ];cases hk:k c with|true=>rw[if_pos rfl];exact h1 c rfl hk|false=>rw[if_neg (by simp)];exact h2 λc' e=>by cases e;exact hk
 |_=>exact h2 λc e=>by cases e
def Kt(L:yA C)(I:Inv C all gs w t D cj cr ah aC){i}(hi:i<C.n+4)(h0:i≠0){c:j8 α}{ch:Nat}{g'}(hx:gs[i]? =some g')(Xc:mayWake C.P g'=true) k d'(hd:d'.X=(D i).X/\d'.v=(D i).v) v (hD':D'=λj=>if j=i then d' else(D j).to (fA k (D j).st) (D j).g) (dR:Ok C t i (some (dU g' v)) d') {w1} (hw:∀j,j<C.n+4->jf C w (D j)->jf C w1 (D j)) (aln:∀j c g2,j<C.n+4->j≠i->(D j).st=.bd c->k c=true->(parked g2 (C.N.cases c) (C.N.shape c)).again w1={parked g2 (C.N.cases c) (C.N.shape c)with status:=.running}/\C.N.Stop c=C.N.A c) (ah2:∀j c g2,j<C.n+4->j≠i->(D j).st=.bd c->k c=false->(parked g2 (C.N.cases c) (C.N.shape c)).again w1=parked g2 (C.N.cases c) (C.N.shape c)) (Dw:∀c,k c=true->∀n,c≠.spawn n) (hJ:∃s r,w1.heap[C.N.J]? =some (.chan 0 #[] cj' s r false)) (hR:∃s r,w1.heap[C.N.R]? =some (.chan 0 #[] cr' s r false)) (hDD:w1.heap[C.N.D]? =some (.chan 3 (Array.replicate (ah-aC) C.N.dv) false ah aC false)) {u} (hu:∀op∈u,∀m,op.act≠.mark m) (dg:y5 C all (bj D') cj' cr' ah aC):Inv C all ((gs.map (woken C.P g' (dU g' v) w1)).setIfInBounds i (dU g' v)) w1 (t++u) D' cj' cr' ah aC:=by
 have aM:i<gs.size:=(Array.getElem?_eq_some_iff.1 hx).1;have hXv:∀j,(D' j).X=(D j).X/\(D' j).v=(D j).v:=λj=>by rw[hD'];dsimp only;by_cases aS:j=i;subst aS;rw[if_pos rfl];exact hd;rw[if_neg aS];exact⟨rfl,rfl⟩
 have cE:∀j,j≠i->D' j=(D j).to (fA k (D j).st) (D j).g:=λj hj=>by rw[hD'];exact if_neg hj
 have JV:=pB hu t;refine⟨I.pos,λj hj=>?_,by simpa using I.size,λj hj=>?_,λj l hj hl Y8 b Dz hbl=>I.Ns j l hj hl Y8 b (by rw[<-(hXv j).1];exact Dz) (by rw[<-(hXv l).1];exact hbl),?_,hJ,hR,hDD,I.ne,dg⟩;refine Ok.trace C ?_ (JV j);by_cases aS:j=i;subst aS;rw[Array.getElem?_setIfInBounds_self_of_lt (by simpa using aM),hD'];dsimp only;rw[if_pos rfl];exact dR;rw[Array.getElem?_setIfInBounds_ne (Ne.symm aS),Array.getElem?_map,cE j aS];have ru:=I.ok j hj;have hwk:∀x,woken C.P g' (dU g' v) w1 x=x.again w1:=λx=>by unfold woken;rw[Xc];rfl
 unfold Ok at ru;unfold Ok Pd.to;dsimp only;cases hs:(D j).st with
 |old r q=>rw[hs]at ru;obtain⟨⟨y,h1,h2⟩,h3⟩:=ru;rw[h1,Option.map_some,hwk,again_running _ h2.status];exact⟨⟨y,rfl,h2⟩,h3⟩
 |bU c=>rw[hs]at ru;rw[ru.1];exact⟨rfl,ru.2⟩|born c=>rw[hs]at ru;rw[ru.1,Option.map_some,hwk,again_running _ (.inl rfl)];exact⟨rfl,ru.2⟩
 |live c=>rw[hs]at ru;obtain⟨g2,h1,h2,h3⟩:=ru;rw[h1,Option.map_some,hwk,again_running _ (.inl h2.run.2)];exact⟨g2,rfl,h2,h3⟩
 |bd c=>
  rw[hs]at ru;obtain⟨g2,h1,h2,h3⟩:=ru;rw[h1,Option.map_some,hwk];cases hkc:k c with
  |true=>obtain⟨h4,h5⟩:=aln j c g2 hj aS hs hkc;rw[h4];show Ok C t j _ ⟨fA k (.bd c),_,_,_⟩;rw[eQ,if_pos hkc];exact⟨_,rfl,⟨⟨h2.run.1,rfl⟩,h2.dy,h2.frame,h2.callers⟩,.stop (by rw[h5];exact h3)⟩
  |false=>rw[ah2 j c g2 hj aS hs hkc];show Ok C t j _ ⟨fA k (.bd c),_,_,_⟩;rw[eQ,if_neg (by rw[hkc];simp)];exact⟨g2,rfl,h2,h3⟩
 have:=hw j hj (I.vd j hj);unfold jf at this|-;rw[(hXv j).1,(hXv j).2];exact this;rw[cE 0 (Ne.symm h0)];rw[Array.size_setIfInBounds,Array.size_map];show(∃n,n<=3/\fA k (D 0).st=_/\_)∨((∃bC,fA k (D 0).st=_∨fA k (D 0).st=_)/\_);rcases I.main with⟨n,h1,h2,h3⟩|⟨⟨bC,h|h⟩,h3⟩;exact .inl ⟨n,h1,by rw[h2];rfl,h3⟩;exact .inr ⟨⟨bC,.inl (by rw[h];rfl)⟩,h3⟩;refine .inr ⟨⟨bC,?_⟩,h3⟩;rw[h,eQ];split;exact .inl rfl;exact .inr rfl
end
end Ph
namespace Ph
open Go.Conc Rn
open Go.ConcN (sumTo upd sumTo_upd upd_ne upd_same le_sumTo)
open Tp (cO Term Ld)
variable{α:Type}{C:j9 α}
section
variable{all:List α}{gs gs':Array Goroutine}{w w':World}{t u:Trace}{D D':Nat->Pd α}{cj cr cj' cr':Bool}{ah aC sent' rcvd':Nat}{sl:Option (Nat×Nat)}
def kJ:j8 α->Bool
 |.bg=>true|_=>false
def kR:j8 α->Bool
 |.aZ _=>true|_=>false
def Iu k i(d':Pd α) D:bj (λj=>if j=i then d' else(D j).to (fA k (D j).st) (D j).g)=upd (λj=>fA k (bj D j)) i d'.st:=by funext j;by_cases aS:j=i;subst aS;show(if j=j then _ else _:Pd α).st=_;rw[if_pos rfl,upd_same];show(if j=i then _ else _:Pd α).st=_;rw[if_neg aS,upd_ne _ _ aS];rfl
def qN(I:Inv C all gs w t D cj cr ah aC){i}(hi:i<C.n+4)(hr:(bj D i).role=2):i=C.n+3:=by
 have h1:=I.dg.role i hi;have h2:C.rl (C.n+3)=2:=by unfold j9.rl;rw[if_neg (by omega),if_neg (by omega),if_neg (by omega)]
 refine nL I.pos hi (by omega) ?_ (.inl ?_);rw[h2,<-h1,hr];rw[<-h1,hr]
def E6(I:Inv C all gs w t D cj cr ah aC){i}(hi:i<C.n+4) k x(hxr:x.role=(bj D i).role)(hxt:∀p,x.tok p=(bj D i).tok p)(hxs:x.said=(bj D i).said)(hxp:∀c,x≠.bd c)(atb:fi cj' cr' aC x) (aT:∀j,j<C.n+4->j≠i->fi cj' cr' aC (fA k (bj D j))) (mJ:(bj D i).role=2):y5 C all (upd (λj=>fA k (bj D j)) i x) cj' cr' ah aC:=by
 have ni:∀j c,j<C.n+4->upd (λj=>fA k (bj D j)) i x j=.bd c->j≠i/\bj D j=.bd c:=λj c hj e=>by
  by_cases aS:j=i;subst aS;rw[upd_same]at e;exact absurd e (hxp c);rw[upd_ne _ _ aS]at e;refine⟨aS,?_⟩;cases hs:bj D j with
  |bd c'=>rw[hs,eQ]at e;split at e;cases e;exact e
  |_=>rw[hs]at e;cases e
 refine I.dg.zh (λj hj=>?_) (λp=>?_) I.dg.le ?_ (λj hj=>?_) (λj c hj e=>(ni j c hj e).2) (λj q hj e=>?_);by_cases aS:j=i;subst aS;rw[upd_same];exact hxr;rw[upd_ne _ _ aS];exact Qh k _;have h1:=sumTo_upd (λj=>fA k (bj D j)) x (λy=>y.tok p) hi;have h2:sumTo (C.n+4) (λa=>(fA k (bj D a)).tok p)=sumTo (C.n+4) (λa=>(bj D a).tok p):=sumTo_congr _ λj _=>Ij k _ p;have h3:=hxt p;have h4:=Ij k (bj D i) p;omega;have h1:=sumTo_upd (λj=>fA k (bj D j)) x (λy=>y.said) hi;have h2:sumTo (C.n+4) (λa=>(fA k (bj D a)).said)=sumTo (C.n+4) (λa=>(bj D a).said):=sumTo_congr _ λj _=>DT k _;have h4:=DT k (bj D i);have h5:=I.dg.said;omega;by_cases aS:j=i;subst aS;rw[upd_same];exact atb;rw[upd_ne _ _ aS];exact aT j hj aS;obtain⟨h1,h2⟩:=ni j _ hj e;have:=I.dg.role j hj;rw[h2]at this;exact absurd (nL I.pos hj hi (by rw[<-this,<-I.dg.role i hi,mJ];rfl) (.inl this.symm)) h1
def Cr(I:Inv C all gs w t D cj cr ah aC){i}(hi:i<C.n+4) k x(gm:x.ev< (bj D i).ev)(hD':bj D'=upd (λj=>fA k (bj D j)) i x):TD C D' D:=by refine .inl ?_;rw[hD'];have h1:Kk C (upd (λj=>fA k (bj D j)) i x)+(fA k (bj D i)).ev=Kk C (λj=>fA k (bj D j))+x.ev:=oe hi x;have h2:Kk C (λj=>fA k (bj D j))=Kk C (bj D):=sumTo_congr _ λj _=>NY k _;have h3:=NY k (bj D i);omega
def Jw(L:yA C)(I:Inv C all gs w t D cj cr ah aC)(T:Tr C t D ah aC){i}(hi:i<C.n+4)(aT:(D i).st=.live (.feed []))(hA:C.N.A .fb (D i).g (D i).v):Goes C all gs w sl t D i:=by
 obtain⟨g',hx,aM,jO⟩:=qd L I hi aT;obtain⟨s,r,hc⟩:=I.CZ;have e1:bj D i=.live (.feed []):=aT;have cX:cj=false/\cr=false/\aC=0:=by have:=I.dg.cP i hi;rw[e1]at this;exact this
 obtain⟨rfl,rfl,rfl⟩:=cX;obtain⟨Xc,lP⟩:=L.CC .fb C.N.J _ _ _ _ _ (.inl ⟨rfl,rfl⟩) hA jO;have uj:=lP (i==0) w s r hc;have fy:i≠0:=I.lZ hi aT (by simp[j8.role]);have TZ:=qN I hi (by rw[e1];rfl);have ry:C.gN i:=I.gN hi (by rw[aT];exact jV (α:=α) (.feed []));have cF:=runT_crowd_go (P:=C.P) (sl:=sl) hx uj;rw[py]at cF;have lN:C.N.J<w.heap.size:=(Array.getElem?_eq_some_iff.1 hc).1;have hJ1:(w.heap.setIfInBounds C.N.J (.chan 0 #[] true s r false))[C.N.J]? =some (.chan 0 #[] true s r false):=Array.getElem?_setIfInBounds_self_of_lt lN;have hR1:∃s2 r2,(w.heap.setIfInBounds C.N.J (.chan 0 #[] true s r false))[C.N.R]? =some (.chan 0 #[] false s2 r2 false):=by obtain⟨s2,r2,h2⟩:=I.DF;exact⟨s2,r2,by rw[Array.getElem?_setIfInBounds_ne I.ne.1];exact h2⟩
 have hD1:(w.heap.setIfInBounds C.N.J (.chan 0 #[] true s r false))[C.N.D]? =_:=(Array.getElem?_setIfInBounds_ne I.ne.2.1).trans I.GJ;obtain⟨s2,r2,J0⟩:=hR1;have pK:∀j,j<C.n+4->j≠i->(D j).st.role≠2:=λj hj aS e=>aS ((qN I hj e).trans TZ.symm);have lE:=Iu kJ i ((D i).to (.live (.bx 0)) (dU (D i).g (.tuple #[]))) D;have ah8:=E6 (cj':=true) (cr':=false) I hi kJ (.live (.bx 0)) (by rw[e1];rfl) (λp=>by rw[e1];rfl) (by rw[e1];rfl) (λc e=>by cases e) ⟨rfl,rfl,rfl,by omega⟩ (λj hj aS=>by
 have h1:=I.dg.cP j hj;have h2:=pK j hj aS;refine fi.fA (λc e hk=>?_) (λhk=>?_);cases c<;>first|exact(Bool.noConfusion hk)|exact rfl
 change (bj D j).role≠2 at h2;cases hs:bj D j with
 |old r q=>
  rw[hs]at h1 h2;match r,h1,h2 with
  |0,_,_=>exact trivial
  |1,_,_=>exact rfl
  |2,_,h2=>exact absurd rfl h2
  |r+3,_,_=>exact trivial
 |bU c=>rw[hs]at h1 h2;cases c<;>first|exact h1|exact absurd rfl h2
 |born c=>rw[hs]at h1 h2;cases c<;>first|exact h1|exact absurd rfl h2
 |live c=>rw[hs]at h1 h2;cases c<;>first|exact h1|exact absurd rfl h2|exact⟨rfl,rfl⟩
 |bd c=>
 rw[hs]at h1 h2;cases c<;>first|exact absurd rfl h2|exact h1|skip
 exact absurd (hk _ hs) (by simp[kJ])) (by rw[e1];rfl)
 have um:∀g,C.gN g->C.N.J∉ (D g).X:=λg hg hm=>(I.vd g (I.Gw hg)).vL C hm hc;refine⟨_,_,_,λj=>if j=i then(D i).to (.live (.bx 0)) (dU (D i).g (.tuple #[]))else(D j).to (fA kJ (D j).st) (D j).g,true,false,ah,0,cF,?_,?_,Cr I hi kJ (.live (.bx 0)) (by rw[e1];show(5-0:Nat)<7+2*0;omega) lE,gC (λl=>(by split<;>first|(rename_i e;subst e;rfl)|rfl)) (.inl rfl) rfl rfl rfl rfl⟩;refine Kt (c:=.fb) (ch:=C.N.J) L I hi fy hx Xc kJ ((D i).to (.live (.bx 0)) (dU (D i).g (.tuple #[]))) ⟨rfl,rfl⟩ (.tuple #[]) rfl ⟨_,rfl,EU jO (V.eH (VA.empty _)) rfl rfl,L.OT _ _ hA⟩ (λj hj h=>?_) (λj c g2 hj aS e hk=>?_) (λj c g2 hj aS e hk=>?_) (λc hk n e=>by subst e;cases hk) ⟨s,r,hJ1⟩ ⟨s2,r2,J0⟩ hD1 (λop cI=>(ed cI).2.1) (by rw[lE];exact ah8);exact h.chan C hc (.chan 0 #[] true s r false) w.drawn;cases c<;>first|exact(Bool.noConfusion hk)|skip
 exact⟨again_recv_closed hJ1,rfl⟩;have h1:=I.dg.cP j hj;rw[show bj D j=_ from e]at h1;have h2:=pK j hj aS;rw[e]at h2;cases c with
 |bg=>cases hk
 |b9 a=>exact again_send_open J0|aZ bC=>exact again_recv_open J0
 |cU a rem=>exact absurd rfl h2|bx k=>exact absurd rfl h2
 |_=>exact h1.elim
 refine T.close ry (.inl rfl) um (λc e=>by rw[aT]at e;cases e) (λg=>?_) (λj c e=>?_) (λj r q e=>?_) (λj q e=>?_) (λq e=>?_);split;rename_i hg;subst hg;rfl;rfl;refine⟨c,?_⟩;rw[if_neg (λaS=>by subst aS;rw[aT]at e;cases e)];show fA kJ (D j).st=_;rw[e];rfl;refine⟨r,q,?_⟩;rw[if_neg (λaS=>by subst aS;rw[aT]at e;cases e)];show fA kJ (D j).st=_;rw[e];rfl;split at e;cases e;rename_i aS;refine⟨aS,?_⟩;change fA kJ (D j).st=_ at e;cases hs:(D j).st with
 |bd c=>rw[hs,eQ]at e;split at e<;>cases e
 |_=>rw[hs]at e;exact e
 rw[if_pos TZ.symm]at e;cases e
end
end Ph
