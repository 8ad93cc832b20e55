import Derived.Test.YtlpcjiollnnmgabGreatDoorM06
import Derived.Conc.EventLaws
set_option maxRecDepth 100000
set_option maxHeartbeats 8000000
set_option linter.all false
namespace Go.Proofs.YtlpcjiollnnmgabGreatDoor
namespace Rn
open Go.Conc
open Tp (cN Term Ld)
section
variable{P:Program}{E:Env}{X:List Nat}
def SZ{g}(h:yV g) b w:(∃o w' es,stepG P b g w=.ended o w' es)∨∃g1 w1 es,stepG P b g w=.go g1 w1 es/\Bad g1:=by
 obtain⟨fr,cs,st,dy,off⟩:=g;obtain⟨h1,h2,⟨h3,h4⟩,h5⟩:=h;obtain rfl:dy=none:=h2;replace h3:fr.defers=[]:=h3;rcases h5 with⟨ch,h5⟩|⟨h5,why,k,h6⟩;replace h5:fr.mode=.panicking ch:=h5;have e1:stepG P b ⟨fr,cs,st,none,off⟩ w=unwind P b fr cs none w:=by unfold stepG;simp only[h5]
 rw[e1];unfold unwind;simp only[h3,h5];split;exact .inl ⟨_,_,_,rfl⟩;cases cs with|cons c cs=>refine .inr ⟨_,_,_,rfl,.inl ⟨rfl,rfl,⟨?_,λx hx=>h4 x (List.mem_cons_of_mem _ hx)⟩,.inl (raise_mode c ch)⟩⟩;rw[n9];exact h4 c List.mem_cons_self|nil=>dsimp only;split;exact .inr ⟨_,_,_,rfl,.inr (.inl (by simp))⟩;split;exact .inr ⟨_,_,_,rfl,.inr (.inr (by simp))⟩;exact .inl ⟨_,_,_,rfl⟩;exact .inl ⟨_,_,_,rfl⟩
 replace h5:fr.mode=.run:=h5;replace h6:fr.todo=.code (.refuse why)::k:=h6;have e1:stepG P b ⟨fr,cs,st,none,off⟩ w=stepG.exec P b true fr cs none w:=by unfold stepG;simp only[h5]
 rw[e1];unfold stepG.exec;simp only[h6];exact .inl ⟨_,_,_,rfl⟩
def tI{g g1 gx w w1 wx es ops}(h:stepG P true g w=.go gx wx es)(hr:runT P (solo g w) 0=(.next (solo g1 w1),ops)):gx=g1/\wx=w1:=by rw[runT_solo_go h]at hr;injection hr with h1 h2;injection h1 with h1;exact Tp.j3 h1
def sF{g g1 w w1 wx o es ops}(h:stepG P true g w=.ended o wx es)(hr:runT P (solo g w) 0=(.next (solo g1 w1),ops)):False:=by rw[show solo g w=crowd #[g] w none from rfl,runT_many_ended (i:=0) (by rfl) h]at hr;cases hr
def seg0{g g1:Goroutine}{w w1:World}{ops:Array MemOp}{k:Nat}(h:cN P g w g1 w1 ops k):runT P (solo g w) 0=(.next (solo g1 w1),ops):=by have:=h.same w.tape w.drawn (λ_ _=>rfl) #[g] none (Tp.Lu g) rfl;rw[show w1.re w.tape (w.drawn+k)=w1 by rw[<-h.tape,<-h.drawn];rfl]at this;exact this
def Ny{Stop}(hS:∀g w,Stop g w->¬yV g){g w}(h:Term P Stop g w):¬yV g:=by induction h with|stop h=>exact hS _ _ h|@next g w nx h1 h2 h3 ih=>intro hl;obtain⟨ops,k,hm⟩:=h1 w.tape w.drawn;have hr:=(seg0 hm);rcases SZ (P:=P) hl true (w.re w.tape w.drawn)with⟨o,w',es,he⟩|⟨g1,w1,es,he,hb⟩;exact sF he hr;obtain⟨rfl,rfl⟩:=tI he hr;rcases hb with hb|hb|hb;exact ih _ _ hb;exact hb (h2 _ _).1.run;exact hb (h2 _ _).2
def Down(P:Program)(Stop:Goroutine->World->Prop)(y x:Goroutine×World):Prop:=¬Stop x.1 x.2/\∃τ n ops k,cN P x.1 (x.2.re τ n) y.1 y.2 ops k
def WC{g g1 g2 w w1 w2 ao6 SI k1 k2}(h1:cN P g w g1 w1 ao6 k1)(h2:cN P g w g2 w2 SI k2):g1=g2/\w1=w2:=by have a:=(seg0 h1);have b:=(seg0 h2);rw[a]at b;injection b with b _;injection b with b;exact Tp.j3 b
def Vt{Stop g w}(h:Term P Stop g w):Acc (Down P Stop) (g,w):=by induction h with|stop h=>exact⟨_,λy hy=>absurd h hy.1⟩|@next g w nx h1 h2 h3 ih=>refine⟨_,λy hy=>?_⟩;obtain⟨_,τ,n,ops,k,hm⟩:=hy;obtain⟨SI,k2,hm2⟩:=h1 τ n;obtain⟨e1,e2⟩:=WC hm hm2;obtain⟨y1,y2⟩:=y;dsimp only at e1 e2;subst e1;subst e2;exact ih τ n
def ZI(E:Env)(g:Goroutine):Prop:=g.frame.mode=.run/\∃ops i l k o,g.frame.todo=.inRegion ops (i::l)::k/\ops[i]? =some o/\Zr E o
def WZ{Sh}(hC:∀r b,E.C r=some b->r<E.G){v w}(hw:WR E Sh X v w){c c'}(hc:V E X c c') z s:illMade v {chan:=c,send:=s,zero:=z}=true∨c=.chan none:=by unfold illMade;cases hc with|sq=>exact .inr rfl|chan r b h=>refine .inl ?_;dsimp only;rw[hw.eY r (hC r b h)];rfl|_=>exact .inl rfl
def CG{Sh}(hC:∀r b,E.C r=some b->r<E.G){v w}(hw:WR E Sh X v w){g g2 c c'}(hc:V E X c c'){z s shape es}(h:stepG P true g v=.comm g2 #[{chan:=c,send:=s,zero:=z}] true shape v es){g1 v1 ops}(hr:runT P (solo g v) 0=(.next (solo g1 v1),ops)):g1.status≠.running:=by
 rcases WZ hC hw hc z s with hi|rfl;rw[show solo g v=crowd #[g] v none from rfl,runT_crowd_comm (i:=0) (by rfl) h]at hr;unfold communicate at hr;dsimp only at hr;have aqJ:(#[{chan:=c,send:=s,zero:=z}]:Array CommCase).any (illMade v)=true:=by simpa using hi
 split at hr;cases hr;rename_i hx;exact absurd aqJ hx;have uD:∀cc∈(#[{chan:=.chan none,send:=s,zero:=z}]:Array CommCase),NoWays v ((#[g]:Array Goroutine).setIfInBounds 0 ph) cc:=by
  intro cc nD;have:cc={chan:=.chan none,send:=s,zero:=z}:=by simpa using nD
  subst this;exact⟨rfl,by unfold ways;rfl⟩
 have:=crowd_waits (P:=P) (sl:=none) (i:=0) (gs:=#[g]) (by rfl) h uD;rw[show solo g v=crowd #[g] v none from rfl,this]at hr;injection hr with hr _;injection hr with hr;have:(#[g]:Array Goroutine).setIfInBounds 0 (parked g2 #[{chan:=.chan none,send:=s,zero:=z}] shape)=#[g1]:=congrArg Machine.gs hr;have h3:parked g2 #[{chan:=.chan none,send:=s,zero:=z}] shape=g1:=by simpa using this
 rw[<-h3];simp[parked]
def aaW{r}(h:Tp.QY r):(∃o w' es,r=.ended o w' es)∨∃g1 w1 es,r=.go g1 w1 es/\Bad g1:=by
 cases r with
 |go g v es=>refine .inr ⟨_,_,_,rfl,?_⟩;rcases h with h|⟨h1,d,h2,_⟩;exact .inr (.inl (by rcases h with h|h|h<;>rw[h]<;>simp));exact .inr (.inr (by rw[h2];simp))
 |ended o v es=>exact .inl ⟨_,_,_,rfl⟩|_=>exact h.elim
def OO{fr cs s v v' h es}(hr:s.runT P v #[]=(.halt h v',es))(pd:eu h)(hd:fr.defers=[]/\∀c∈cs,c.defers=[]):(∃o w' es,stepG.apply P true fr cs none s v=.ended o w' es)∨∃g1 w1 es,stepG.apply P true fr cs none s v=.go g1 w1 es/\Bad g1:=by
 unfold stepG.apply;simp only[if_true];rw[hr];have hl:∀l,yV {frame:=fr.raise l,callers:=cs,status:=.running,dying:=none}:=λl=>⟨rfl,rfl,⟨by rw[n9];exact hd.1,hd.2⟩,.inl (raise_mode fr l)⟩;cases h with
 |panic x=>exact .inr ⟨_,_,_,rfl,.inl (hl _)⟩|goexit=>exact .inr ⟨_,_,_,rfl,.inl (hl _)⟩
 |blocked=>exact .inr ⟨_,_,_,rfl,.inr (.inl (by simp))⟩|waiting=>exact .inr ⟨_,_,_,rfl,.inr (.inl (by simp))⟩
 |exit c=>exact .inl ⟨_,_,_,rfl⟩|fatal m=>exact aaW (Tp.dN (Tp.qV _ _ _ _ _ _))
 |throw m=>exact .inr ⟨_,_,_,rfl,.inr (.inr (by simp))⟩|unsupported u=>cases u<;>first|exact .inl ⟨_,_,_,rfl⟩|exact pd.elim
 |stuck m=>exact .inl ⟨_,_,_,rfl⟩
def SS t:(∃z,norm P (zeroValue t)=.pure z)∨∃h,eu h/\norm P (zeroValue t)=.halt h:=by unfold zeroValue typeInfo;cases hi:P.info? t with|none=>right;rw[lF (a:=.stuck "no such type") (by rw[cF (a:=P) rfl,hi];rfl)];exact⟨.stuck "no such type",trivial,rfl⟩|some i=>rw[cF (a:=i) (by rw[cF (a:=P) rfl,hi];rfl)];cases i.zero with|none=>right;refine⟨_,?_,rfl⟩;exact trivial|some z=>exact .inl ⟨z,rfl⟩
def Pp{fr cs st off ops i l k o}(hm:fr.mode=.run)(hr:fr.roundOf=none)(ht:fr.todo=.inRegion ops (i::l)::k)(hi:ops[i]? =some o)(hg:o.guard=none) b w:stepG P b ⟨fr,cs,st,none,off⟩ w=stepG.apply P true fr cs none (execOp fr.eval o) w:=by
 have e1:stepG P b ⟨fr,cs,st,none,off⟩ w=stepG.exec P b true fr cs none w:=by unfold stepG;simp only[hm]
 rw[e1];unfold stepG.exec;have Xl:∀y,Region.wanted o y=true:=λy=>by unfold Region.wanted;rw[hg]
 have ZR:fr.oper? =some o:=by unfold Frame.oper?;rw[ht];exact hi
 simp only[ht,hi,Option.map_some,Option.getD_some,Xl,if_true];unfold stepG.oper;simp only[ZR,hr]
def Rx fn:seen P fn #[]=#[]:=rfl
def Mh {Sh} (hC : ∀ r b, E.C r = some b -> r < E.G) {R g g'} (h : GR P E X R g g') (ht : ZI E g) {v w} (hw : WR E Sh X v w) {g1 v1 ops} (hr : runT P (solo g v) 0 = (.next (solo g1 v1), ops)) : Bad g1 := by
  obtain ⟨hm, ao1, i, l, k, o, e1, e2, e3⟩ := ht
  obtain ⟨fr, cs, st, dy, off⟩ := g
  obtain ⟨_, ⟨rfl, _⟩, h3, ⟨ds, ds', rfl, _, h4⟩⟩ := h
  replace hm : fr.mode = .run := hm
  replace e1 : fr.todo = .inRegion ao1 (i :: l) :: k := e1
  have hg : o.guard = none := by
    have := h3.ok
    rw [show (Goroutine.mk fr (ds ++ [wall]) st none off).frame.todo = fr.todo from rfl, e1] at this
    exact (this.head o (Array.mem_of_getElem? e2)).1
  have aS := λb u => Pp (P := P) (cs := ds ++ [wall]) (st := st) (off := off) hm h3.round.1 e1 e2 hg b u
  have ql : fr.defers = [] /\ ∀ c ∈ ds ++ [wall], c.defers = [] := ⟨h3.defers.1, h4.clean⟩
  have adg : ∀ (h : Halt) (es : Array Event), eu h -> (execOp fr.eval o).runT P v #[] = (.halt h v, es) -> Bad g1 := by
    intro h pj pd cD
    rcases OO (P := P) cD pd ql with ⟨o', w', es, he⟩ | ⟨g2, w2, es, he, hb⟩
    · exact (sF ((aS true v).trans he) hr).elim
    · obtain ⟨rfl, rfl⟩ := tI ((aS true v).trans he) hr
      exact hb
  have Fq : ∀ (h : Halt), eu h -> norm P (execOp fr.eval o) = .halt h -> Bad g1 := λh pd hh => adg h #[] pd (by rw [cZ, hh]; rfl)
  have xQ := aS true v
  have gr := h3.eval
  obtain ⟨dst, op, type, pos, after, guard⟩ := o
  unfold stepG.apply at xQ
  simp only [if_true] at xQ
  cases op with
  | send ch x =>
    have : (execOp fr.eval ⟨dst, .send ch x, type, pos, after, guard⟩).runT P v #[] = (.ok (.comm #[{ chan := fr.eval ch, send := some (fr.eval x), zero := .tuple #[] }] true .send) v, #[]) := rfl
    rw [this] at xQ
    exact .inr (.inl (CG hC hw (gr ch e3.1) xQ hr))
  | recv t ch ok =>
    have hex : execOp fr.eval ⟨dst, .recv t ch ok, type, pos, after, guard⟩ = (do
      let .chan _ elem <- underlying t | stuck "receive: channel type expected"
      pure (.comm #[{ chan := fr.eval ch, send := none, zero := <- zeroValue elem }] true (.recv ok))) := rfl
    cases hu : P.underlying t with
    | none =>
      have : ∃ h, eu h /\ norm P (underlying t) = .halt h := by
        unfold underlying
        rw [cF (a := P) rfl, hu]
        refine ⟨_, ?_, rfl⟩; exact trivial
      obtain ⟨h, pd, hh⟩ := this
      exact Fq h pd (by rw [hex, lF hh])
    | some d =>
      have hn := fI hu
      cases d with
      | chan dir elem =>
        rcases SS (P := P) elem with ⟨z, hz⟩ | ⟨h, pd, hz⟩
        · have : (execOp fr.eval ⟨dst, .recv t ch ok, type, pos, after, guard⟩).runT P v #[] = (.ok (.comm #[{ chan := fr.eval ch, send := none, zero := z }] true (.recv ok)) v, #[]) := by
            rw [cZ, hex, cF hn]
            dsimp only
            rw [cF hz]
            rfl
          rw [this] at xQ
          exact .inr (.inl (CG hC hw (gr ch e3) xQ hr))
        · refine Fq h pd ?_
          rw [hex, cF hn]
          dsimp only
          rw [lF hz]
      | _ => exact Fq (.stuck "receive: channel type expected") trivial (by rw [hex, cF hn]; rfl)
  | call c =>
    obtain ⟨h1, x, h2, hx⟩ := e3
    obtain ⟨callee, args, argTypes⟩ := c
    dsimp only at h1 h2
    subst h1; subst h2
    have hex : execOp fr.eval ⟨dst, .call ⟨.builtin .close, #[x], argTypes⟩, type, pos, after, guard⟩ = (do pure (.value (<- Builtin.close_ argTypes type #[fr.eval x]))) := by
      have : (#[x] : Array Operand).map fr.eval = #[fr.eval x] := by simp
      show (do pure (.value (<- Builtin.close_ argTypes type ((#[x] : Array Operand).map fr.eval))) : Sem Next) = _
      rw [this]
    have hv := gr x hx
    revert hv
    generalize fr.eval x = y at hex
    generalize (Goroutine.frame g').eval x = y'
    intro hv
    cases hv with
    | sq => exact Fq (.panic (.iface P.rt.plainError (strVal "close of nil channel"))) trivial (by rw [hex]; rfl)
    | chan r b hb =>
      refine adg (.stuck "getObj: a row of cells") #[] ?_ ?_
      · exact trivial
      · rw [hex]
        have hj := hw.eY r (hC r b hb)
        show Sem.runT P (Sem.getObj r _) v #[] = _
        rw [Sem.runT]
        simp only [hj]
    | _ => exact Fq (.stuck "close: one channel expected") trivial (by rw [hex]; rfl)
  | go c =>
    obtain ⟨⟨x, h1, hx⟩, h2⟩ := e3
    obtain ⟨callee, args, argTypes⟩ := c
    dsimp only at h1 h2
    subst h1; subst h2
    have hex : execOp fr.eval ⟨dst, .go ⟨.value x, #[], argTypes⟩, type, pos, after, guard⟩ = (do pure (.spawn (<- Deferred.ofValue (fr.eval x) #[]))) := by
      have h1 : (#[] : Array Operand).map fr.eval = #[] := by simp
      show (do pure (.spawn (<- Deferred.ofValue (fr.eval x) ((#[] : Array Operand).map fr.eval))) : Sem Next) = _
      rw [h1]
    have hsp : ∀ d, (execOp fr.eval ⟨dst, .go ⟨.value x, #[], argTypes⟩, type, pos, after, guard⟩).runT P v #[] = (.ok (.spawn d) v, #[]) -> Bad g1 := λd hd => by
      rw [hd] at xQ
      simp only [ite_self, Rx] at xQ
      have Xz : ∀ {gx child : Goroutine}, stepG P true ⟨fr, ds ++ [wall], st, none, off⟩ v = .spawn gx child v #[] -> False := λ{gx child} Ca => by
        have h3 := runT_crowd_spawn (P := P) (sl := none) (i := 0) (gs := #[⟨fr, ds ++ [wall], st, none, off⟩]) rfl (show stepG P (0 == 0) _ v = .spawn _ _ _ _ from Ca)
        have h4 : runT P (solo ⟨fr, ds ++ [wall], st, none, off⟩ v) 0 = _ := h3
        rw [hr] at h4
        have h5 := (Prod.mk.inj h4).1
        injection h5 with h5
        have h6 := congrArg (λm : Machine => m.gs.size) h5
        simp [solo, crowd] at h6
      split at xQ <;> split at xQ
      · obtain ⟨rfl, rfl⟩ := tI xQ hr
        exact .inr (.inr (by simp))
      · exact (Xz xQ).elim
      · obtain ⟨rfl, rfl⟩ := tI xQ hr
        exact .inr (.inr (by simp))
      · exact (Xz xQ).elim
    cases hy : fr.eval x with
    | func f a c => exact hsp _ (by rw [hex, hy]; rfl)
    | nilFunc => exact hsp _ (by rw [hex, hy]; rfl)
    | _ => exact Fq (.stuck "call: function value expected") trivial (by rw [hex, hy]; rfl)
  | _ => exact e3.elim
def VP{Sh}(hF:∀f fn b,E.F f->P.funcs[f]? =some fn->fn.body=some b->gB P E b)(hB:Z8 P E)(hG:P.globals.size<=E.G)(hC:∀r b,E.C r=some b->r<E.G){Stop}(hS:∀g w,Stop g w->¬yV g){R g g' v}(h:GR P E X R g g')(ht:Term P Stop g v)(hn:¬Stop g v){w}(hw:WR E Sh X (v.re w.tape w.drawn) w) b':∃g1 v1 Y Yy w1 iI,Down P Stop (g1,v1) (g,v)/\Term P Stop g1 v1/\stepG P b' g' w=.go Yy w1 iI/\GR P E (X++Y) R g1 Yy/\Out E Sh X w Y v1 w1/\∀e∈iI,UG (X++Y) Sh e:=by
 cases ht with
 |stop hx=>exact absurd hx hn|next nx h1 h2 h3=>
 obtain⟨ops,k,hm⟩:=h1 w.tape w.drawn;have hr:=(seg0 hm);have hnb:¬Bad (nx w.tape w.drawn).1:=by rintro(hb|hb|hb);exact Ny hS (h3 _ _) hb;exact hb (h2 _ _).1.run;exact hb (h2 _ _).2
 by_cases oN:ZI E g;exact absurd (Mh hC h oN hw hr) hnb;have hx:=VJ hF hB hG h (λQr ops i l k o e1 e2 e3=>oN ⟨Qr,ops,i,l,k,o,e1,e2,e3⟩) hw true b';cases hs:stepG P true g (v.re w.tape w.drawn)with
 |go gx vx es=>obtain⟨rfl,rfl⟩:=tI hs hr;rw[hs]at hx;rcases hx with hx|⟨Y,Yy,w1,iI,e1,e2,e3,e4⟩;exact absurd hx hnb;exact⟨_,_,Y,Yy,w1,iI,⟨hn,_,_,ops,k,hm⟩,h3 _ _,e1,e2,e3,e4⟩
 |ended o vx es=>exact(sF hs hr).elim|_=>rw[hs]at hx;exact hx.elim
end
end Rn
namespace Rn
open Go.Conc
section
variable{P:Program}
structure yY(fr:Frame)(o:Oper):Prop where
 mode:fr.mode=.run
 round:fr.roundOf=none
 guard:o.guard=none
 todo:∃ops i l k,fr.todo=.inRegion ops (i::l)::k/\ops[i]? =some o
def Ad fn:seen P fn #[]=#[]:=rfl
def yY.step{fr o}(h:yY fr o) cs st off b w:stepG P b ⟨fr,cs,st,none,off⟩ w=stepG.apply P true fr cs none (execOp fr.eval o) w:=by obtain⟨ops,i,l,k,h1,h2⟩:=h.todo;exact Pp h.mode h.round h1 h2 h.guard b w
theorem yY.send{fr o}(h:yY fr o){ch x}(ho:o.op=.send ch x) cs st off b w:stepG P b ⟨fr,cs,st,none,off⟩ w=.comm ⟨fr,cs,.running,none,none⟩ #[{chan:=fr.eval ch,send:=some (fr.eval x),zero:=.tuple #[]}] true .send w #[]:=by
 rw[h.step];unfold stepG.apply;simp only[if_true];have:(execOp fr.eval o).runT P w #[]=(.ok (.comm #[{chan:=fr.eval ch,send:=some (fr.eval x),zero:=.tuple #[]}] true .send) w,#[]):=by obtain⟨dst,op,type,pos,after,guard⟩:=o;dsimp only at ho;subst ho;rfl
 rw[this];simp only[ite_self,Ad];rfl
theorem yY.recv{fr o}(h:yY fr o){t ch ok}(ho:o.op=.recv t ch ok){d e i z}(ht:P.underlying t=some (.chan d e))(hi:P.info? e=some i)(hz:i.zero=some z) cs st off b w :
  stepG P b ⟨fr,cs,st,none,off⟩ w=.comm ⟨fr,cs,.running,none,none⟩ #[{chan:=fr.eval ch,send:=none,zero:=z}] true (.recv ok) w #[]:=by
 rw[h.step];unfold stepG.apply;simp only[if_true];have:(execOp fr.eval o).runT P w #[]=(.ok (.comm #[{chan:=fr.eval ch,send:=none,zero:=z}] true (.recv ok)) w,#[]):=by
  obtain⟨dst,op,type,pos,after,guard⟩:=o;dsimp only at ho;subst ho;rw[cZ];have hex:execOp fr.eval ⟨dst,.recv t ch ok,type,pos,after,guard⟩=(do
   let .chan _ elem <-underlying t|stuck "receive: channel type expected"
   pure (.comm #[{chan:=fr.eval ch,send:=none,zero:=<-zeroValue elem}] true (.recv ok))):=rfl
  rw[hex,cF (fI ht)];dsimp only;have hzv:norm P (zeroValue e)=.pure z:=by
   unfold zeroValue typeInfo;rw[cF (a:=i) (by rw[cF (a:=P) rfl,hi];rfl),hz]
   rfl
  rw[cF hzv];rfl
 rw[this];simp only[ite_self,Ad];rfl
def Mu fn c:seen P fn #[⟨.obj c,false,true⟩,⟨.obj c,true,true⟩]=#[⟨.obj c,false,true⟩,⟨.obj c,true,true⟩]:=by unfold seen;simp
theorem yY.close {fr o} (h : yY fr o) {x ats} (ho : o.op = .call ⟨.builtin .close, #[x], ats⟩) {c room s r buf tm} (hx : fr.eval x = .chan (some c)) (hk : fr.kind ≠ .early) cs st off b {w} (hc : w.heap[c]? = some (.chan room buf false s r tm)) :
    stepG P b ⟨fr, cs, st, none, off⟩ w = .go ⟨fr.finish (.tuple #[]), cs, .running, none, none⟩ { w with heap := w.heap.setIfInBounds c (.chan room buf true s r tm) } #[⟨.obj c, false, true⟩, ⟨.obj c, true, true⟩] := by
  rw [h.step]
  unfold stepG.apply
  simp only [if_true]
  have : (execOp fr.eval o).runT P w #[] = (.ok (.value (.tuple #[])) { w with heap := w.heap.setIfInBounds c (.chan room buf true s r tm) }, #[⟨.obj c, false, true⟩, ⟨.obj c, true, true⟩]) := by
    obtain ⟨dst, op, type, pos, after, guard⟩ := o
    dsimp only at ho
    subst ho
    have hex : execOp fr.eval ⟨dst, .call ⟨.builtin .close, #[x], ats⟩, type, pos, after, guard⟩ = (do pure (.value (<- Builtin.close_ ats type #[fr.eval x]))) := by
      have : (#[x] : Array Operand).map fr.eval = #[fr.eval x] := by simp
      show (do pure (.value (<- Builtin.close_ ats type ((#[x] : Array Operand).map fr.eval))) : Sem Next) = _
      rw [this]
    rw [hex, hx]
    have h1 := run_close_open (P := P) ats type hc
    have h2 := events_close_open (P := P) (es := #[]) ats type hc
    rw [close_some] at h1 h2 |-
    show Sem.runT P (Sem.getObj c _) w #[] = _
    rw [Sem.runT]
    simp only [hc]
    show Sem.runT P (Sem.setObj c _ _) w _ = _
    rw [Sem.runT]
    simp only [hc]
    rfl
  rw [this]
  have wE : (fr.kind == CallKind.early) = false := by cases hq : fr.kind <;> first | rfl | exact absurd hq hk
  simp only [wE, Bool.false_eq_true, if_false, Mu]
  rfl
def jo(P:Program)(d:Deferred):Goroutine:={frame:={(default:Frame)with fn:=P.funcs.size,defers:=[d],mode:=.panicking [goexitEntry]},callers:=[],status:=.running,dying:=none}
theorem yY.go {fr o} (h : yY fr o) {x ats} (ho : o.op = .go ⟨.value x, #[], ats⟩) {f a c} (hx : fr.eval x = .func (.func f) a c) cs st off b w :
    stepG P b ⟨fr, cs, st, none, off⟩ w = .spawn ⟨fr.finish undef, cs, .running, none, none⟩ (jo P { target := .fn (.func f) c, args := a }) w #[] := by
  rw [h.step]
  unfold stepG.apply
  simp only [if_true]
  have : (execOp fr.eval o).runT P w #[] = (.ok (.spawn { target := .fn (.func f) c, args := a }) w, #[]) := by
    obtain ⟨dst, op, type, pos, after, guard⟩ := o
    dsimp only at ho
    subst ho
    have hex : execOp fr.eval ⟨dst, .go ⟨.value x, #[], ats⟩, type, pos, after, guard⟩ = (do pure (.spawn (<- Deferred.ofValue (fr.eval x) #[]))) := by
      have h1 : (#[] : Array Operand).map fr.eval = #[] := by simp
      show (do pure (.spawn (<- Deferred.ofValue (fr.eval x) ((#[] : Array Operand).map fr.eval))) : Sem Next) = _
      rw [h1]
    rw [hex, hx]
    show (Result.ok (Next.spawn { target := .fn (.func f) c, args := a ++ #[] }) w, (#[] : Array Event)) = _
    rw [Array.append_empty]
  rw [this]
  simp only [ite_self, Ad]
  rw [if_neg (by simp)]
  rfl
end
end Rn
namespace Ph
open Go.Conc Rn
open Go.ConcN (sumTo upd sumTo_upd upd_ne upd_same)
open Tp (cN Term Ld)
def OU{β:Type}(R:β->β->Prop)(m:Nat)(F' F:Nat->β):Prop:=∃i,i<m/\R (F' i) (F i)/\∀j,j≠i->F' j=F j
theorem JD{β} R:∀m (F:Nat->β),(∀i,i<m->Acc R (F i))->Acc (OU R m) F
 |0,F,_=>⟨_,λF' ⟨i,hi,_⟩=>absurd hi (Nat.not_lt_zero i)⟩|m+1,F,h=>by
  have key:∀x,Acc R x->∀F:Nat->β,F m=x->(∀i,i<m->Acc R (F i))->Acc (OU R (m+1)) F:=by
   intro x hx;induction hx with
   |intro x _ ih1=>
   intro F hF hA;have h2:=JD R m F hA;induction h2 with
   |intro F _ ih2=>
   refine⟨_,λF' hF'=>?_⟩;obtain⟨i,hi,hR,ho⟩:=hF';by_cases him:i=m;subst him;exact ih1 (F' i) (by rw[<-hF];exact hR) F' rfl (λj hj=>by rw[ho j (by omega)];exact hA j hj);have aM:i<m:=by omega
   refine ih2 F' ⟨i,aM,hR,ho⟩ (by rw[ho m (Ne.symm him),hF]) (λj hj=>?_);by_cases aR:j=i;subst aR;exact(hA j hj).inv hR;rw[ho j aR];exact hA j hj
  exact key (F m) (h m (Nat.lt_succ_self m)) F rfl (λi hi=>h i (Nat.lt_succ_of_lt hi))
inductive ko(α:Type)
 |bg|b8 (a:α)|fi
 |feed (rem:List α)|cT (a:α) (rem:List α)|fe|br (k:Nat)|dh
 |spawn (k:Nat)|aZ (bD:List α)
inductive St(α:Type)
 |old (r q:Nat)|bS (c:ko α)|born (c:ko α)|live (c:ko α)|bc (c:ko α)
structure Pd(α:Type) where
 st:St α
 g:Goroutine
 v:World
 X:List Nat
structure Net(α:Type) where
 J:Nat
 R:Nat
 D:Nat
 jv:α->Value
 fv:α->Value
 dv:Value
 zJ:Value
 zR:Value
 zD:Value
 A:ko α->Goroutine->World->Prop
 TX:α->Prop
variable{α:Type}
def Net.Stop(N:Net α):ko α->Goroutine->World->Prop
 |.feed rem=>λg v=>(∃a DD,rem.Perm (a::DD)/\N.A (.cT a DD) g v)∨(rem=[]/\N.A .fe g v)|c=>N.A c
def Net.cases(N:Net α):ko α->Array CommCase
 |.bg=>#[rcase N.J N.zJ]|.b8 a=>#[scase N.R (N.fv a) (.tuple #[])]|.fi=>#[scase N.D N.dv (.tuple #[])]|.cT a _=>#[scase N.J (N.jv a) (.tuple #[])]|.br _=>#[rcase N.D N.zD]|.aZ _=>#[rcase N.R N.zR]|_=>#[]
def Net.shape(_:Net α):ko α->CommShape
 |.bg|.aZ _=>.recv true|.br _=>.recv false|_=>.send
def Dn(P:Program)(N:Net α)(d' d:Pd α):Prop:=(∃c,d.st=.live c/\d'.st=.live c/\Down P (N.Stop c) (d'.g,d'.v) (d.g,d.v))∨∃r q,d.st=.old r (q+1)/\d'.st=.old r q
def ab9{P N c x}(h:Acc (Down P (N.Stop c)) x):∀d:Pd α,d.st=.live c->(d.g,d.v)=x->Acc (Dn P N) d:=by induction h with|intro x _ ih=>intro d hd he;refine⟨_,λd' UU=>?_⟩;rcases UU with⟨c',h1,h2,h3⟩|⟨r,q,h1,_⟩;rw[hd]at h1;cases h1;exact ih _ (by rw[<-he];exact h3) d' h2 rfl;rw[hd]at h1;cases h1
theorem YK{P N} r:∀q (d:Pd α),d.st=.old r q->Acc (Dn P N) d
 |0,d,hd=>⟨_,λd' UU=>by rcases UU with⟨c',h1,_⟩|⟨r',q,h1,_⟩<;>rw[hd]at h1<;>cases h1⟩
 |q+1,d,hd=>⟨_,λd' UU=>by rcases UU with⟨c',h1,_⟩|⟨r',q',h1,h2⟩;rw[hd]at h1;cases h1;rw[hd]at h1;cases h1;exact YK r q d' h2⟩
def agz{P N}(d:Pd α)(h:∀c,d.st=.live c->Term P (N.Stop c) d.g d.v):Acc (Dn P N) d:=by cases hs:d.st with|live c=>exact ab9 (Vt (h c hs)) d hs rfl|old r q=>exact YK r q d hs|_=>exact⟨_,λd' UU=>by rcases UU with⟨c',h1,_⟩|⟨r,q,h1,_⟩<;>rw[hs]at h1<;>cases h1⟩
def base(P:Program):Frame:={(default:Frame)with fn:=P.funcs.size,defers:=[],mode:=.panicking [goexitEntry]}
structure kp(α:Type) where
 P:Program
 E:Env
 Sh:Nat->Prop
 N:Net α
 n:Nat
 R:Nat->List Frame
 f:Nat->FuncId
 a:Nat->Array Value
 ok0:List Nat->Prop
 top:Nat
variable(C:kp α)
def kp.d(i:Nat):Deferred:={target:=.fn (.func (C.f i)) (C.a i),args:=#[]}
def kp.first(i:Nat):Goroutine:={frame:=Frame.enter C.P (C.f i) (C.a i) .deferred,callers:=[base C.P],status:=.running,dying:=none}
def Ok(t:Trace)(i:Nat)(x:Option Goroutine)(d:Pd α):Prop:=match d.st with
 |.old r q=>(∃y,x=some y/\QuitsD C.P q (Deaf t i) y)/\(r=2->C.N.A .dh d.g d.v)
 |.bS c=>x=none/\C.R i=[base C.P]/\GR C.P C.E d.X (C.R i) d.g (C.first i)/\Term C.P (C.N.Stop c) d.g d.v
 |.born c=>x=some (jo C.P (C.d i))/\C.R i=[base C.P]/\GR C.P C.E d.X (C.R i) d.g (C.first i)/\Term C.P (C.N.Stop c) d.g d.v
 |.live c=>∃g',x=some g'/\GR C.P C.E d.X (C.R i) d.g g'/\Term C.P (C.N.Stop c) d.g d.v
 |.bc c=>∃g',x=some (parked g' (C.N.cases c) (C.N.shape c))/\GR C.P C.E d.X (C.R i) d.g g'/\C.N.A c d.g d.v
def jq(w:World)(d:Pd α):Prop:=WR C.E C.Sh d.X (d.v.re w.tape w.drawn) w
def WR.pT{E Sh X}{v w w1:World}(h:WR E Sh X (v.re w.tape w.drawn) w)(hs:w.heap.size<=w1.heap.size)(hx:∀b∈X,w1.heap[b]? =w.heap[b]?):WR E Sh X (v.re w1.tape w1.drawn) w1:=⟨h.size,λi b hb=>by obtain⟨o,o',h1,h2,h3⟩:=h.el i b hb;exact⟨o,o',h1,(hx b (List.mem_of_getElem? hb)).trans h2,h3⟩,h.eY,h.nodup,h.shared,λb hb=>Nat.lt_of_lt_of_le (h.low b hb) hs,rfl,rfl⟩
def jq.lt{w d}(h:jq C w d){b}(hb:b∈d.X):b<w.heap.size:=by obtain⟨i,hi⟩:=List.getElem?_of_mem hb;obtain⟨_,_,_,h2,_⟩:=WR.el h i b hi;exact(Array.getElem?_eq_some_iff.1 h2).1
def jq.vW{w d}(h:jq C w d){b}(hb:b∈d.X){cap s r buf cl tm}:w.heap[b]?≠some (.chan cap buf cl s r tm):=by obtain⟨i,hi⟩:=List.getElem?_of_mem hb;obtain⟨_,_,_,h2,h3⟩:=WR.el h i b hi;rw[h2];intro e;cases e;cases h3
def jq.other{w w1 v1 d X Y}(h:jq C w d)(ho:Out C.E C.Sh X w Y v1 w1)(hd:∀b,b∈d.X->b∈X->C.Sh b):jq C w1 d:=by refine WR.pT h ho.size λb hb=>?_;by_cases hX:b∈X;exact ho.shared b (hd b hb hX);exact ho.others b (h.lt C hb) hX
def jq.chan{w d}(h:jq C w d){c cap s r buf cl tm}(hc:w.heap[c]? =some (.chan cap buf cl s r tm)) o k:jq C {w with heap:=w.heap.setIfInBounds c o,drawn:=k} d:=by
 refine WR.pT h (by show w.heap.size<=(w.heap.setIfInBounds c o).size;simp) λb hb=>?_;have bZ:c≠b:=λe=>by subst e;exact h.vW C hb hc
 show(w.heap.setIfInBounds c o)[b]? =w.heap[b]?;rw[Array.getElem?_setIfInBounds_ne bZ]
def jq.drawn{w d}(h:jq C w d) k:jq C (w.at k) d:=WR.pT h ν λ_ _=>rfl
def Ok.trace{t u i x d}(h:Ok C t i x d)(hu:Deaf (t++u) i=Deaf t i):Ok C (t++u) i x d:=by unfold Ok at h|-;rw[hu];exact h
structure Kept(w w':World)(D D':Nat->Pd α):Prop where
 size:w.heap.size<=w'.heap.size
 heap:∀b,b<w.heap.size->b≠C.N.J->b≠C.N.R->b≠C.N.D->((∀i,i<C.n+4->b∉ (D i).X)∨C.Sh b)->w'.heap[b]? =w.heap[b]?
 grow:∀i,∃Y,(D' i).X=(D i).X++Y/\∀b∈Y,w.heap.size<=b
 os:w'.os=w.os
 output:w'.output=w.output
 tape:w'.tape=w.tape
variable{C}
theorem Kept.trans{w w1 w2:World}{D D1 D2:Nat->Pd α}(h:Kept C w w1 D D1)(h':Kept C w1 w2 D1 D2):Kept C w w2 D D2 where
 size:=Nat.le_trans h.size h'.size;heap:=λb hb n1 n2 n3 hx=>by rw[h'.heap b (Nat.lt_of_lt_of_le hb h.size) n1 n2 n3 ?_,h.heap b hb n1 n2 n3 hx];rcases hx with hx|hx;refine .inl λi hi hm=>?_;obtain⟨Y,e,hY⟩:=h.grow i;rw[e]at hm;rcases List.mem_append.1 hm with hm|hm;exact hx i hi hm;have:=hY b hm;omega;exact .inr hx
 grow:=λi=>by obtain⟨Y,e,hY⟩:=h.grow i;obtain⟨Z,e2,hZ⟩:=h'.grow i;refine⟨Y++Z,by rw[e2,e,List.append_assoc],λb hb=>?_⟩;rcases List.mem_append.1 hb with hb|hb;exact hY b hb;exact Nat.le_trans h.size (hZ b hb)
 os:=h'.os.trans h.os;output:=h'.output.trans h.output;tape:=h'.tape.trans h.tape
def jX{w w' D D'}(hX:∀i,(D' i).X=(D i).X)(hh:w'.heap=w.heap)(h1:w'.os=w.os)(h2:w'.output=w.output)(h3:w'.tape=w.tape):Kept C w w' D D':=⟨by rw[hh];exact ν,λ_ _ _ _ _ _=>by rw[hh],λi=>⟨[],by rw[hX,List.append_nil],λ_ h=>by cases h⟩,h1,h2,h3⟩
def gI{w w' D D'}(hX:∀i,(D' i).X=(D i).X){ch}(Qw:ch=C.N.J∨ch=C.N.R∨ch=C.N.D){o}(hh:w'.heap=w.heap.setIfInBounds ch o)(h1:w'.os=w.os)(h2:w'.output=w.output)(h3:w'.tape=w.tape):Kept C w w' D D':=⟨by rw[hh];simp,λb _ n1 n2 n3 _=>by rw[hh,Array.getElem?_setIfInBounds_ne];rintro rfl;rcases Qw with e|e|e;exact n1 e;exact n2 e;exact n3 e,λi=>⟨[],by rw[hX,List.append_nil],λ_ h=>by cases h⟩,h1,h2,h3⟩
def ko.role:ko α->Nat
 |.bg|.b8 _|.fi=>1|.feed _|.cT _ _|.fe|.br _|.dh=>2|.spawn _|.aZ _=>3
def St.role:St α->Nat
 |.old r _=>r|.bS c|.born c|.live c|.bc c=>c.role
def ko.tok(p:α->Bool):ko α->Nat
 |.b8 a=>[a].countP p|.feed rem=>rem.countP p|.cT a rem=>(a::rem).countP p|.aZ bD=>bD.countP p|_=>0
def St.tok(p:α->Bool):St α->Nat
 |.old _ _=>0|.bS c|.born c|.live c|.bc c=>c.tok p
def ko.ev:ko α->Nat
 |.bg=>2|.b8 _=>3|.fi=>1|.feed rem=>7+2*rem.length|.cT _ rem=>7+2*(rem.length+1)|.fe=>7|.br k=>5-k|.dh=>1|.spawn k=>5-k|.aZ _=>0
def St.ev:St α->Nat
 |.old _ _=>0|.bS c=>c.ev+2|.born c=>c.ev+1|.live c|.bc c=>c.ev
def St.up:St α->Nat
 |.live _=>1|_=>0
def St.said:St α->Nat
 |.old 1 _=>1|_=>0
theorem sumTo_congr{f g}:∀m,(∀i,i<m->f i=g i)->sumTo m f=sumTo m g
 |0,_=>rfl|m+1,h=>by show sumTo m f+f m=sumTo m g+g m;rw[sumTo_congr m (λi hi=>h i (by omega)),h m (by omega)]
theorem sumTo_le{f g}:∀m,(∀i,i<m->f i<=g i)->sumTo m f<=sumTo m g
 |0,_=>ν|m+1,h=>Nat.add_le_add (sumTo_le m (λi hi=>h i (by omega))) (h m (by omega))
theorem zX{f g}:∀m,(∀i,i<m->f i<=g i)->sumTo m g<=sumTo m f->∀i,i<m->f i=g i
 |0,_,_,i,hi=>by omega|m+1,h,hs,i,hi=>by have h1:=sumTo_le m (λi hi=>h i (by omega));have h2:=h m (by omega);have hs':sumTo m g+g m<=sumTo m f+f m:=hs;by_cases hm:i=m;subst hm;omega;exact zX m (λi hi=>h i (by omega)) (by omega) i (by omega)
def Vy{f g} m(h:sumTo m f<sumTo m g):∃i,i<m/\f i<g i:=by
 apply Classical.byContradiction;intro hn;have:sumTo m g<=sumTo m f:=sumTo_le m λi hi=>by apply Classical.byContradiction;intro hc;exact hn ⟨i,hi,by omega⟩
 omega
def vo{f g m i}(hi:i<m)(h:∀j,j≠i->g j=f j):sumTo m g+f i=sumTo m f+g i:=by
 have:g=upd f i (g i):=by funext j;by_cases hj:j=i;subst hj;rw[upd_same];rw[upd_ne f (g i) hj,h j hj]
 rw[this,upd_same];have:=sumTo_upd f (g i) id hi;simpa using this
end Ph
namespace Ph
open Go.Conc Rn
open Go.ConcN (sumTo upd sumTo_upd upd_ne upd_same le_sumTo)
open Tp (cN Term Ld)
variable{α:Type}(C:kp α)
def Zs(cj cr:Bool)(aA:Nat):ko α->Prop
 |.spawn _|.aZ _=>True|.bg|.b8 _=>cr=false|.fi=>cj=true/\cr=false|.feed _|.cT _ _=>cj=false/\cr=false/\aA=0|.fe=>False|.br k=>cj=true/\cr=false/\aA=k/\k<3|.dh=>cj=true/\cr=false/\aA=3
def fj(cj cr:Bool)(aA:Nat):St α->Prop
 |.old 1 _=>cj=true|.old 2 _=>cj=true/\cr=true/\aA=3|.old _ _=>True|.bS c|.born c=>match c with
  |.bg=>cr=false
  |.feed _=>cj=false/\cr=false/\aA=0
  |_=>False
 |.live c=>match c with
  |.cT _ _=>False
  |c=>Zs cj cr aA c
 |.bc c=>match c with
  |.bg=>cj=false/\cr=false
  |.b8 _=>cr=false
  |.cT _ _=>cj=false/\cr=false/\aA=0
  |.br k=>cj=true/\cr=false/\aA=k/\k<3
  |.aZ _=>cr=false
  |_=>False
def kp.rl(i:Nat):Nat:=if i=0 then 3 else if i<C.n then 0 else if i<C.n+3 then 1 else 2
def kp.gZ(i:Nat):Prop:=i=0∨C.n<=i/\i<C.n+4
structure zB(all:List α)(s:Nat->St α)(cj cr:Bool)(ag aA:Nat):Prop where
 role:∀i,i<C.n+4->(s i).role=C.rl i
 tok:∀p,sumTo (C.n+4) (λi=>(s i).tok p)=all.countP p
 le:aA<=ag
 said:ag=sumTo (C.n+4) (λi=>(s i).said)
 cO:∀i,i<C.n+4->fj cj cr aA (s i)
 p1:∀i j,i<C.n+4->j<C.n+4->s i=.bc .bg->∀a rem,s j≠.bc (.cT a rem)
 p2:∀i j,i<C.n+4->j<C.n+4->∀a g,s i=.bc (.b8 a)->s j≠.bc (.aZ g)
 p3:∀i k,i<C.n+4->s i=.bc (.br k)->ag=aA
 fits:all.length<=C.top
def bj(D:Nat->Pd α):Nat->St α:=λi=>(D i).st
structure Inv(all:List α)(gs:Array Goroutine)(w:World)(t:Trace)(D:Nat->Pd α)(cj cr:Bool)(ag aA:Nat):Prop where
 pos:0<C.n
 ok:∀i,i<C.n+4->Ok C t i gs[i]? (D i)
 size:gs.size<=C.n+4
 vq:∀i,i<C.n+4->jq C w (D i)
 Ov:∀i j,i<C.n+4->j<C.n+4->i≠j->∀b,b∈(D i).X->b∈(D j).X->C.Sh b
 main:(∃k,k<=3/\(D 0).st=.live (.spawn k)/\gs.size=C.n+k)∨((∃bD,(D 0).st=.live (.aZ bD)∨(D 0).st=.bc (.aZ bD))/\gs.size=C.n+4)
 Dm:∃s r,w.heap[C.N.J]? =some (.chan 0 #[] cj s r false)
 DZ:∃s r,w.heap[C.N.R]? =some (.chan 0 #[] cr s r false)
 Hz:w.heap[C.N.D]? =some (.chan 3 (Array.replicate (ag-aA) C.N.dv) false ag aA false)
 ne:C.N.J≠C.N.R/\C.N.J≠C.N.D/\C.N.R≠C.N.D
 df:zB C all (bj D) cj cr ag aA
def blk:Loc->Nat
 |.cell a=>a.block|.obj r=>r|_=>0
def UE(D:Nat->Pd α)(g:Nat)(a:Touch):Prop:=(blk a.loc∈(D g).X/\(a.write=true->¬C.Sh (blk a.loc)))∨(a.write=false/\(a.loc=.obj C.N.J∨a.loc=.obj C.N.R))
def jr(t:Trace)(i ag aA:Nat):Prop:=∃s k z,t[s]? =some z/\z.g=i/\z.act=.send C.N.D k/\k<ag/\t.heard s/\(∀p y a,t[p]? =some y->y.g=i->y.act.touch? =some a->p<s)/\(k<aA->Knows t (C.n+3) s)
def tj(t:Trace):Prop:=∃c z,t[c]? =some z/\z.g=C.n+3/\z.act=.close C.N.R/\t.heard c/\∀p y a,t[p]? =some y->C.gZ y.g->y.g≠0->y.act.touch? =some a->Before t p c
structure Tr(t:Trace)(D:Nat->Pd α)(ag aA:Nat):Prop where
 clean:∀said,¬Race said t
 touch:∀p a,touchAt t p=some a->a.loc.isMemory=true->(∀i,C.gZ i->(∀c,(D i).st≠.bS c)->Knows t i p)∨∃op,t[p]? =some op/\C.gZ op.g/\UE C D op.g a
 deaf:∀i,C.gZ i->(∀r q,(D i).st≠.old r q)->Deaf t i=0
 said:∀i q,i<C.n+4->(D i).st=.old 1 q->jr C t i ag aA
 shut:∀q,(D (C.n+3)).st=.old 2 q->tj C t
 above:∀j,C.n+4<=j->Deaf t j=0
variable{C}
def Inv.status{all gs w t D cj cr ag aA}(h:Inv C all gs w t D cj cr ag aA){i x}(hx:gs[i]? =some x):i<C.n+4/\((x.status=.running∨x.status=.finished)∨∃c,(D i).st=.bc c):=by
 have hi:i<C.n+4:=Nat.lt_of_lt_of_le (Array.getElem?_eq_some_iff.1 hx).1 h.size;refine⟨hi,?_⟩;have:=h.ok i hi;unfold Ok at this;cases hs:(D i).st with
 |old r q=>rw[hs]at this;obtain⟨⟨y,h1,h2⟩,_⟩:=this;rw[hx]at h1;cases h1;exact .inl h2.status
 |bS c=>rw[hs]at this;rw[hx]at this;cases this.1
 |born c=>rw[hs]at this;have h1:=this.1;rw[hx]at h1;cases h1;exact .inl (.inl rfl)
 |live c=>rw[hs]at this;obtain⟨g',h1,h2,_⟩:=this;rw[hx]at h1;cases h1;exact .inl (.inl h2.run.2)
 |bc c=>exact .inr ⟨c,rfl⟩
def Net.chan(N:Net α):ko α->Option (Nat×Bool)
 |.bg=>some (N.J,false)|.b8 _=>some (N.R,true)|.fi=>some (N.D,true)|.cT _ _=>some (N.J,true)|.br _=>some (N.D,false)|.aZ _=>some (N.R,false)|_=>none
def mG(N:Net α) c g ch b:offersAt (parked g (N.cases c) (N.shape c)) ch b=if N.chan c=some (ch,b)then [0]else []:=by
 cases c with
 |bg=>cases b<;>simp[Net.cases,Net.shape,Net.chan,offersAt_parked_recv,offersAt_parked_recv']
 |b8 a=>cases b<;>simp[Net.cases,Net.shape,Net.chan,offersAt_parked_send,offersAt_parked_send']
 |cT a r=>cases b<;>simp[Net.cases,Net.shape,Net.chan,offersAt_parked_send,offersAt_parked_send']
 |fi=>cases b<;>simp[Net.cases,Net.shape,Net.chan,offersAt_parked_send,offersAt_parked_send']
 |br k=>cases b<;>simp[Net.cases,Net.shape,Net.chan,offersAt_parked_recv,offersAt_parked_recv']
 |aZ k=>cases b<;>simp[Net.cases,Net.shape,Net.chan,offersAt_parked_recv,offersAt_parked_recv']
 |_=>simp[Net.cases,Net.chan,offersAt,parked]
section
variable{all:List α}{gs:Array Goroutine}{w:World}{t:Trace}{D:Nat->Pd α}{cj cr:Bool}{ag aA:Nat}
def Inv.partner(h:Inv C all gs w t D cj cr ag aA){i ch b j k}(hm:(j,k)∈partners (gs.setIfInBounds i ph) ch b):k=0/\j≠i/\j<C.n+4/\∃c g',(D j).st=.bc c/\C.N.chan c=some (ch,b)/\gs[j]? =some (parked g' (C.N.cases c) (C.N.shape c))/\GR C.P C.E (D j).X (C.R j) (D j).g g'/\C.N.A c (D j).g (D j).v:=by obtain⟨g,hg,hk⟩:=mem_partners.1 hm;rcases getElem?_stand gs i j g hg with⟨rfl,rfl⟩|⟨bZ,hj⟩;rw[offersAt_ph]at hk;cases hk;obtain⟨aM,aS⟩:=h.status hj;rcases aS with aS|⟨c,hc⟩;rw[offersAt_of_not_blocked (by rcases aS with e|e<;>rw[e]<;>simp)]at hk;cases hk;have:=h.ok j aM;unfold Ok at this;rw[hc]at this;obtain⟨g',h1,h2,h3⟩:=this;rw[hj]at h1;cases h1;rw[mG]at hk;split at hk;rename_i Qw;exact⟨by simpa using hk,bZ,aM,c,g',hc,Qw,hj,h2,h3⟩;cases hk
def Inv.vV(h:Inv C all gs w t D cj cr ag aA){i ch b}(hn:∀j c,j<C.n+4->(D j).st=.bc c->C.N.chan c≠some (ch,b)):partners (gs.setIfInBounds i ph) ch b=[]:=by apply List.eq_nil_iff_forall_not_mem.2;rintro⟨j,k⟩hm;obtain⟨_,_,aM,c,g',h1,h2,_⟩:=h.partner hm;exact hn j c aM h1 h2
def Inv.woken(h:Inv C all gs w t D cj cr ag aA){w'}(hJ:∃s r,w'.heap[C.N.J]? =some (.chan 0 #[] cj s r false))(hR:∃s r,w'.heap[C.N.R]? =some (.chan 0 #[] cr s r false))(hD:∃b s r,w'.heap[C.N.D]? =some (.chan 3 b false s r false)) P g g':gs.map (woken P g g' w')=gs:=by
 apply Array.ext_getElem?;intro j;rw[Array.getElem?_map];cases hx:gs[j]? with
 |none=>rfl|some x=>
 rw[Option.map_some];congr 1;obtain⟨aM,aS⟩:=h.status hx;rcases aS with aS|⟨c,hc⟩;unfold Go.Conc.woken;split;exact again_running _ aS;rfl;have dO:=h.ok j aM;have cX:fj cj cr aA (D j).st:=h.df.cO j aM;unfold Ok at dO;rw[hc]at dO cX;obtain⟨y,h1,_,_⟩:=dO;rw[hx]at h1;cases h1;obtain⟨s1,r1,e1⟩:=hJ;obtain⟨s2,r2,e2⟩:=hR;obtain⟨b3,s3,r3,e3⟩:=hD;cases c with
 |bg=>obtain⟨rfl,_⟩:cj=false/\_:=cX;exact woken_recv_open _ _ e1
 |b8 a=>obtain rfl:cr=false:=cX;exact woken_send_open _ _ e2
 |cT a rem=>obtain⟨rfl,_⟩:cj=false/\_:=cX;exact woken_send_open _ _ e1
 |br k=>exact woken_recv_open _ _ e3|aZ bD=>obtain rfl:cr=false:=cX;exact woken_recv_open _ _ e2
 |_=>exact cX.elim
end
section
variable{all:List α}{s s':Nat->St α}{cj cr cj' cr':Bool}{ag aA sent' rcvd':Nat}
def zB.zL(h:zB C all s cj cr ag aA)(xS:∀i,i<C.n+4->(s' i).role=(s i).role)(G8:∀p,sumTo (C.n+4) (λi=>(s' i).tok p)=sumTo (C.n+4) (λi=>(s i).tok p))(hle:rcvd'<=sent')(Ql:sent'=sumTo (C.n+4) (λi=>(s' i).said)) (cX:∀i,i<C.n+4->fj cj' cr' rcvd' (s' i)) (nB:∀i c,i<C.n+4->s' i=.bc c->s i=.bc c) (hp3:∀i k,i<C.n+4->s' i=.bc (.br k)->sent'=rcvd'):zB C all s' cj' cr' sent' rcvd' where
 role:=λi hi=>(xS i hi).trans (h.role i hi);tok:=λp=>(G8 p).trans (h.tok p);le:=hle;said:=Ql;cO:=cX;p1:=λi j hi hj h1 a rem h2=>h.p1 i j hi hj (nB i _ hi h1) a rem (nB j _ hj h2);p2:=λi j hi hj a g h1 h2=>h.p2 i j hi hj a g (nB i _ hi h1) (nB j _ hj h2);p3:=hp3;fits:=h.fits
def zB.one(h:zB C all s cj cr ag aA){i}(hi:i<C.n+4) x(xS:x.role=(s i).role)(G8:∀p,x.tok p=(s i).tok p)(Ql:x.said=(s i).said)(aS:fj cj cr aA x)(hp:∀c,x≠.bc c):zB C all (upd s i x) cj cr ag aA:=by
 have nB:∀j c,j<C.n+4->upd s i x j=.bc c->s j=.bc c:=λj c hj hc=>by by_cases aR:j=i;subst aR;rw[upd_same]at hc;exact absurd hc (hp c);rwa[upd_ne s x aR]at hc
 refine h.zL (λj hj=>?_) (λp=>?_) h.le ?_ (λj hj=>?_) nB (λj k hj hc=>h.p3 j k hj (nB j _ hj hc));by_cases aR:j=i;subst aR;rw[upd_same,xS];rw[upd_ne s x aR];have:=sumTo_upd s x (λy=>y.tok p) hi;have e:=G8 p;omega;have:=sumTo_upd s x (λy=>y.said) hi;have e:=h.said;omega;by_cases aR:j=i;subst aR;rw[upd_same];exact aS;rw[upd_ne s x aR];exact h.cO j hj
theorem zB.bc(h:zB C all s cj cr ag aA){i:Nat}(hi:i<C.n+4)(c:ko α)(xS:c.role=(s i).role)(G8:∀p,c.tok p=(s i).tok p)(Ql:0=(s i).said)(aS:fj cj cr aA (.bc c)) (h1:c=.bg->∀j a rem,j<C.n+4->s j≠.bc (.cT a rem)) (h2:∀a rem,c=.cT a rem->∀j,j<C.n+4->s j≠.bc .bg) (h3:∀a,c=.b8 a->∀j g,j<C.n+4->s j≠.bc (.aZ g)) (h4:∀g,c=.aZ g->∀j a,j<C.n+4->s j≠.bc (.b8 a)) (h5:∀k,c=.br k->ag=aA):zB C all (upd s i (.bc c)) cj cr ag aA where
 role:=λj hj=>by by_cases aR:j=i;subst aR;rw[upd_same];exact xS.trans (h.role j hj);rw[upd_ne s _ aR];exact h.role j hj
 tok:=λp=>by have:=sumTo_upd s (.bc c) (λy=>y.tok p) hi;have e:(St.bc c).tok p=(s i).tok p:=G8 p;have e2:=h.tok p;omega
 le:=h.le;said:=by have:=sumTo_upd s (.bc c) (λy=>y.said) hi;have e:=h.said;have e2:(St.bc c).said=0:=rfl;omega
 cO:=λj hj=>by by_cases aR:j=i;subst aR;rw[upd_same];exact aS;rw[upd_ne s _ aR];exact h.cO j hj
 p1:=λj k hj hk e1 a rem e2=>by by_cases aR:j=i;subst aR;rw[upd_same]at e1;cases e1;by_cases LZ:k=j;subst LZ;rw[upd_same]at e2;cases e2;rw[upd_ne s _ LZ]at e2;exact h1 rfl k a rem hk e2;rw[upd_ne s _ aR]at e1;by_cases LZ:k=i;subst LZ;rw[upd_same]at e2;cases e2;exact h2 a rem rfl j hj e1;rw[upd_ne s _ LZ]at e2;exact h.p1 j k hj hk e1 a rem e2
 p2:=λj k hj hk a g e1 e2=>by by_cases aR:j=i;subst aR;rw[upd_same]at e1;cases e1;by_cases LZ:k=j;subst LZ;rw[upd_same]at e2;cases e2;rw[upd_ne s _ LZ]at e2;exact h3 a rfl k g hk e2;rw[upd_ne s _ aR]at e1;by_cases LZ:k=i;subst LZ;rw[upd_same]at e2;cases e2;exact h4 g rfl j a hj e1;rw[upd_ne s _ LZ]at e2;exact h.p2 j k hj hk a g e1 e2
 p3:=λj k hj e=>by by_cases aR:j=i;subst aR;rw[upd_same]at e;cases e;exact h5 k rfl;rw[upd_ne s _ aR]at e;exact h.p3 j k hj e
 fits:=h.fits
def zB.two(h:zB C all s cj cr ag aA){i j}(hi:i<C.n+4)(hj:j<C.n+4)(j9:i≠j) x y(hx:x.role=(s i).role)(hy:y.role=(s j).role)(G8:∀p,x.tok p+y.tok p=(s i).tok p+(s j).tok p)(Ql:x.said+y.said+ag=(s i).said+(s j).said+sent')(hle:rcvd'<=sent') (aS:∀k,k<C.n+4->k≠i->k≠j->fj cj cr rcvd' (s k)) (hsx:fj cj cr rcvd' x) (hsy:fj cj cr rcvd' y) (hpx:∀c,x≠.bc c) (hpy:∀c,y≠.bc c) (hp3:∀k q,k<C.n+4->k≠i->k≠j->s k=.bc (.br q)->sent'=rcvd'):zB C all (upd (upd s i x) j y) cj cr sent' rcvd':=by
 have mI:∀k,upd (upd s i x) j y k=if k=j then y else if k=i then x else s k:=λk=>rfl
 have nB:∀k c,k<C.n+4->upd (upd s i x) j y k=.bc c->k≠i/\k≠j/\s k=.bc c:=λk c hk hc=>by rw[mI]at hc;split at hc;exact absurd hc (hpy c);split at hc;exact absurd hc (hpx c);rename_i h1 h2;exact⟨h2,h1,hc⟩
 have e1:∀φ:St α->Nat,sumTo (C.n+4) (λk=>φ (upd (upd s i x) j y k))+φ (s i)+φ (s j)=sumTo (C.n+4) (λk=>φ (s k))+φ x+φ y:=λφ=>by have a:=sumTo_upd (upd s i x) y φ hj;have b:=sumTo_upd s x φ hi;rw[upd_ne s x (Ne.symm j9)]at a;omega
 refine h.zL (λk hk=>?_) (λp=>?_) hle ?_ (λk hk=>?_) (λk c hk hc=>(nB k c hk hc).2.2) (λk q hk hc=>?_);rw[mI];split;rename_i e;subst e;exact hy;split;rename_i e;subst e;exact hx;rfl;have:=e1 (λy=>y.tok p);have e:=G8 p;omega;have:=e1 (λy=>y.said);have e:=h.said;omega;rw[mI];split;exact hsy;split;exact hsx;rename_i a b;exact aS k hk b a;obtain⟨a,b,c⟩:=nB k _ hk hc;exact hp3 k q hk a b c
end
end Ph
namespace Ph
open Go.Conc Rn
open Go.ConcN (sumTo upd sumTo_upd upd_ne upd_same le_sumTo)
variable{α:Type}{C:kp α}
def Quiet(u:Trace):Prop:=∀op∈u,op.act.touch? =none/\∀m,op.act≠.mark m
def Quiet.deaf{u}(h:Quiet u) t g:Deaf (t++u) g=Deaf t g:=by
 obtain⟨l⟩:=u;rw[Deaf_append];generalize Deaf t g=d;induction l with
 |nil=>rfl|cons y l ih=>
 have e:deafStep g d y=d:=by have:=(h y (by simp)).2;unfold deafStep;split;rename_i hh;exact absurd hh (this _);rename_i hh;exact absurd hh (this _);rfl
 rw[List.foldl_cons,e];exact ih (λop cI=>h op (by simp at cI|-;exact .inr cI))
def xH{said t u}(h:¬Race said t)(hu:∀op∈u,op.act.touch? =none):¬Race said (t++u):=by
 rintro⟨i,j,j9,⟨a,b,ha,hb,hc⟩,n1,n2⟩;obtain⟨x,hx,ve⟩:=touch_of ha;obtain⟨y,hy,hyb⟩:=touch_of hb;rcases getElem?_append_cases hy with⟨hj,hy'⟩|⟨hj,UK⟩;have hi:i<t.size:=Nat.lt_trans j9 hj;have xN:t[i]? =some x:=by rw[<-getElem?_append_old (u:=u) hi];exact hx
 exact h ⟨i,j,j9,⟨a,b,by simp[Trace.act?,xN,ve],by simp[Trace.act?,hy',hyb],hc⟩,λe=>n1 (hb_app u e),λe=>n2 (hb_app u e)⟩;rw[hu y UK]at hyb;cases hyb
def jr.app{t u i ag aA sent'}(h:jr C t i ag aA)(hu:∀op∈u,op.g=i->op.act.touch? =none)(hs:ag<=sent'):jr C (t++u) i sent' aA:=by obtain⟨s,k,z,h1,h2,h3,h4,h5,h6,h7⟩:=h;have aM:=lt_size_of_getElem? h1;refine⟨s,k,z,by rw[getElem?_append_old aM];exact h1,h2,h3,by omega,(heard_old aM).2 h5,λp y a hp hy ha=>?_,λhk=>(h7 hk).app u⟩;rcases getElem?_append_cases hp with⟨_,KF⟩|⟨_,UK⟩;exact h6 p y a KF hy ha;rw[hu y UK hy]at ha;cases ha
def tj.app{t u}(h:tj C t)(hu:∀op∈u,C.gZ op.g->op.g≠0->op.act.touch? =none):tj C (t++u):=by obtain⟨c,z,h1,h2,h3,h4,h5⟩:=h;have aM:=lt_size_of_getElem? h1;refine⟨c,z,by rw[getElem?_append_old aM];exact h1,h2,h3,(heard_old aM).2 h4,λp y a hp hg h0 ha=>?_⟩;rcases getElem?_append_cases hp with⟨_,KF⟩|⟨_,UK⟩;exact(h5 p y a KF hg h0 ha).app u;rw[hu y UK hg h0]at ha;cases ha
section
variable{t u:Trace}{D D':Nat->Pd α}{ag aA sent' rcvd':Nat}
def Tr.mute(h:Tr C t D ag aA)(hu:∀op∈u,op.act.touch? =none)(hX:∀g,(D' g).X=(D g).X)(Xp:∀i,C.gZ i->(∀c,(D' i).st≠.bS c)->(∀c,(D i).st≠.bS c)∨∀p,Knows t 0 p->Knows (t++u) i p)(h0:∀c,(D 0).st≠.bS c) (hd:∀i,C.gZ i->(∀r q,(D' i).st≠.old r q)->(∀r q,(D i).st≠.old r q)/\Deaf (t++u) i=Deaf t i) (hs:∀i q,i<C.n+4->(D' i).st=.old 1 q->jr C (t++u) i sent' rcvd') (nA:∀q,(D' (C.n+3)).st=.old 2 q->tj C (t++u)) (DU:∀j,C.n+4<=j->Deaf (t++u) j=Deaf t j):Tr C (t++u) D' sent' rcvd' where
 clean:=λsaid=>xH (h.clean said) hu;touch:=λp a ha hm=>by obtain⟨x,hx,ve⟩:=touch_of ha;rcases getElem?_append_cases hx with⟨hp,xN⟩|⟨_,UL⟩;rcases h.touch p a (by rw[touchAt_of xN];exact ve) hm with hk|⟨op,h1,h2,h3⟩;refine .inl λi hi hc=>?_;rcases Xp i hi hc with h4|h4;exact(hk i hi h4).app u;exact h4 p (hk 0 (.inl rfl) h0);refine .inr ⟨op,by rw[getElem?_append_old hp];exact h1,h2,?_⟩;unfold UE at h3|-;rw[hX];exact h3;rw[hu x UL]at ve;cases ve
 deaf:=λi hi hc=>by obtain⟨h1,h2⟩:=hd i hi hc;rw[h2];exact h.deaf i hi h1
 said:=hs;shut:=nA;above:=λj hj=>(DU j hj).trans (h.above j hj)
def Eu{X Sh e}(h:UG X Sh e):(MemAct.ofEvent e).touch? =none∨∃a,(MemAct.ofEvent e).touch? =some a/\blk a.loc∈X/\(a.write=true->¬Sh (blk a.loc)):=by rcases h with rfl|⟨h1,⟨a,h2,h3,h4⟩|⟨r,h2,h3,h4⟩⟩;exact .inl rfl;obtain⟨loc,wr,sy⟩:=e;obtain rfl:loc=.cell a:=h2;obtain rfl:sy=false:=h1;refine .inr ⟨⟨.cell a,wr,.plain⟩,?_,h3,h4⟩;cases wr<;>rfl;obtain⟨loc,wr,sy⟩:=e;obtain rfl:loc=.obj r:=h2;obtain rfl:sy=false:=h1;refine .inr ⟨⟨.obj r,wr,.plain⟩,?_,h3,h4⟩;cases wr<;>rfl
def YM{X Sh es}(h:∀e∈es,UG X Sh e) d:deafBehind d es=d:=by
 obtain⟨l⟩:=es;unfold deafBehind;rw[<-Array.foldl_toList];show List.foldl _ d l=d;induction l with
 |nil=>rfl|cons e l ih=>
 rw[List.foldl_cons];have he:=h e (by simp);have:(match e.loc with|.mark .disable=>d+1|.mark .enable=>d-1|_=>d)=d:=by rcases he with rfl|⟨_,⟨a,h2,_⟩|⟨r,h2,_⟩⟩;rfl;rw[h2];rw[h2]
 refine(congrArg (λx=>List.foldl _ x l) this).trans ?_;exact ih λe' Qv=>h e' (by simp at Qv|-;exact .inr Qv)
def Tr.own(h:Tr C t D ag aA){i}(hg:C.gZ i){c}(hi:(D i).st=.live c) d'(aS:∃c',d'.st=.live c')(hX:∀b∈(D i).X,b∈d'.X){fn pos es}(he:∀e∈es,UG d'.X C.Sh e) (ajR:∀j,C.gZ j->j≠i->∀b,b∈d'.X->b∈(D j).X->C.Sh b) (Qw:C.N.J∉d'.X/\C.N.R∉d'.X) (ai5:i=0∨∀q,(D (C.n+3)).st≠.old 2 q) (aM:i<C.n+4):Tr C (t++MemOp.ofEvents i fn pos es) (upd D i d') ag aA:=by
 have bY:∀op∈MemOp.ofEvents i fn pos es,op.g=i:=λop cI=>by obtain⟨e,_,rfl⟩:=Go.Conc.mem_ofEvents cI;rfl
 have hnu:∀c,(D i).st≠.bS c:=λc e=>by rw[hi]at e;cases e
 have uD:∀r q,(D i).st≠.old r q:=λr q e=>by rw[hi]at e;cases e
 refine⟨λsaid=>noRace_append (h.clean said) bY λp a ha op cI b hb hc=>?_,λp a ha hm=>?_,λj hj hjo=>?_,λj q hj hq=>?_,λq hq=>?_,λj hj=>(Deaf_other t (g':=i) (by omega) _ bY).trans (h.above j hj)⟩;rcases h.touch p a ha hc.2.1 with hk|⟨o,h1,h2,h3⟩;exact hk i hg hnu;by_cases NV:o.g=i;have:=knows_own h1;rwa[NV]at this;exfalso;obtain⟨e,hem,rfl⟩:=Go.Conc.mem_ofEvents cI;rcases Eu (he e hem)with hn|⟨b',pf,uI,iq⟩;rw[hn]at hb;cases hb;rw[pf]at hb;cases hb;rcases h3 with⟨h4,h5⟩|⟨h4,h5⟩;rw[hc.1]at h4 h5;have nA:=ajR o.g h2 NV _ uI h4;rcases hc.2.2.1 with hw|hw;exact h5 hw nA;exact iq hw nA;rw[hc.1]at h5;rcases h5 with h5|h5<;>rw[h5]at uI;exact Qw.1 uI;exact Qw.2 uI;obtain⟨x,hx,ve⟩:=touch_of ha;rcases getElem?_append_cases hx with⟨hp,xN⟩|⟨_,UL⟩;rcases h.touch p a (by rw[touchAt_of xN];exact ve) hm with hk|⟨op,h1,h2,h3⟩;refine .inl λj hj hc=>(hk j hj λc e=>?_).app _;by_cases aR:j=i;subst aR;exact hnu c e;exact hc c (by rw[upd_ne D d' aR];exact e);refine .inr ⟨op,by rw[getElem?_append_old hp];exact h1,h2,?_⟩;by_cases NV:op.g=i;unfold UE at h3|-;rw[NV]at h3|-;rw[upd_same];rcases h3 with⟨h4,h5⟩|h4;exact .inl ⟨hX _ h4,h5⟩;exact .inr h4;unfold UE at h3|-;rw[upd_ne D d' NV];exact h3;refine .inr ⟨x,hx,by rw[bY x UL];exact hg,?_⟩;obtain⟨e,hem,rfl⟩:=Go.Conc.mem_ofEvents UL;rcases Eu (he e hem)with hn|⟨b',pf,uI,iq⟩;rw[hn]at ve;cases ve;rw[pf]at ve;cases ve;unfold UE;rw[upd_same];exact .inl ⟨uI,iq⟩;by_cases aR:j=i;subst aR;rw[Deaf_own,YM he];exact h.deaf j hj uD;rw[Deaf_other t (g':=i) (Ne.symm aR) _ bY];exact h.deaf j hj λr q e=>hjo r q (by rw[upd_ne D d' aR];exact e);have aR:j≠i:=λe=>by subst e;obtain⟨c',e'⟩:=aS;rw[upd_same,e']at hq;cases hq
 rw[upd_ne D d' aR]at hq;exact(h.said j q hj hq).app (λop cI hg=>absurd ((bY op cI).symm.trans hg) (Ne.symm aR)) ν;have aR:C.n+3≠i:=λe=>by obtain⟨c',e'⟩:=aS;rw[e,upd_same,e']at hq;cases hq
 rw[upd_ne D d' aR]at hq;rcases ai5 with rfl|hs;exact(h.shut q hq).app λop cI _ h0=>absurd (bY op cI) h0;exact absurd hq (hs q)
end
end Ph
namespace Ph
open Go.Conc Rn
open Go.ConcN (sumTo upd sumTo_upd upd_ne upd_same le_sumTo)
open Tp (cN Term Ld)
variable{α:Type}{C:kp α}
def ko.Vu:ko α->Bool
 |.bg|.b8 _|.fi|.cT _ _|.br _|.aZ _=>true|_=>false
def dQ(g:Goroutine)(v:Value):Goroutine:={g with frame:=g.frame.finish v,status:=.running,offers:=none}
structure yW(C:kp α):Prop where
 code:∀f fn b,C.E.F f->C.P.funcs[f]? =some fn->fn.body=some b->gB C.P C.E b
 bo:Z8 C.P C.E
 ald:C.P.globals.size<=C.E.G
 YW:∀r b,C.E.C r=some b->r<C.E.G
 re:∀c g v τ n,C.N.A c g v->C.N.A c g (v.re τ n)
 Rm:∀c g v,C.N.A c g v->¬yV g
 started:∀i,C.n<=i->i<C.n+4->C.E.F (C.f i)/\∃fn,C.P.funcs[C.f i]? =some fn
 act:∀c X R g v g',c.Vu=true->C.N.A c g v->GR C.P C.E X R g g'->∀b w,stepG C.P b g' w=.comm {g' with status:=.running,offers:=none} (C.N.cases c) true (C.N.shape c) w #[]
 CW:∀c ch X R g v g',(c=.fe/\ch=C.N.J∨c=.dh/\ch=C.N.R)->C.N.A c g v->GR C.P C.E X R g g'->mayWake C.P g'=true/\∀b w s r,w.heap[ch]? =some (.chan 0 #[] false s r false)->
  stepG C.P b g' w=.go (dQ g' (.tuple #[])) {w with heap:=w.heap.setIfInBounds ch (.chan 0 #[] true s r false)} #[⟨.obj ch,false,true⟩,⟨.obj ch,true,true⟩]
 app0:∀X Y,C.ok0 X->C.ok0 (X++Y)
 LN:∀k X R g v g',k<=3->C.ok0 X->C.N.A (.spawn k) g v->GR C.P C.E X R g g'->∀b w,stepG C.P b g' w=.spawn (dQ g' undef) (jo C.P (C.d (C.n+k))) w #[]
 Md:(∀a,Rn.Clean (C.N.jv a))/\(∀a,Rn.Clean (C.N.fv a))/\Rn.Clean C.N.dv/\Rn.Clean C.N.zJ/\Rn.Clean C.N.zR
 tx:∀a rem g v,C.N.A (.cT a rem) g v->C.N.TX a
 Wy:∀a g v,C.N.A .bg g v->C.N.TX a->Term C.P (C.N.Stop (.b8 a)) (Go.Conc.served g (.tuple #[C.N.jv a,.bool true])) v
 ac6:∀g v,C.N.A .bg g v->Term C.P (C.N.Stop .fi) (Go.Conc.served g (.tuple #[C.N.zJ,.bool false])) v
 Wu:∀a g v,C.N.A (.b8 a) g v->Term C.P (C.N.Stop .bg) (Go.Conc.served g undef) v
 Ww:∀X g v g',C.N.A .fi g v->GR C.P C.E X [base C.P] g g'->∃q,QuitsD C.P q 0 (Go.Conc.served g' undef)
 Wv:∀a rem g v,C.N.A (.cT a rem) g v->Term C.P (C.N.Stop (.feed rem)) (Go.Conc.served g undef) v
 PX:∀g v,C.N.A .fe g v->Term C.P (C.N.Stop (.br 0)) (dQ g (.tuple #[])) v
 Nl:∀k g v,k<2->C.N.A (.br k) g v->Term C.P (C.N.Stop (.br (k+1))) (Go.Conc.served g C.N.dv) v
 GM:∀g v,C.N.A (.br 2) g v->Term C.P (C.N.Stop .dh) (Go.Conc.served g C.N.dv) v
 PW:∀X g v g',C.N.A .dh g v->GR C.P C.E X [base C.P] g g'->∃q,QuitsD C.P q 0 (dQ g' (.tuple #[]))
 Wt:∀k g v,k<3->C.N.A (.spawn k) g v->Term C.P (C.N.Stop (.spawn (k+1))) (dQ g undef) v
 PV:∀g v,C.N.A (.spawn 3) g v->Term C.P (C.N.Stop (.aZ [])) (dQ g undef) v
 Wx:∀a bD g v,(a::bD).length<=C.top->C.N.A (.aZ bD) g v->Term C.P (C.N.Stop (.aZ (a::bD))) (Go.Conc.served g (.tuple #[C.N.fv a,.bool true])) v
def yW.stop(L:yW C) c g v(h:C.N.Stop c g v):¬yV g:=by
 cases c with
 |feed rem=>rcases h with⟨a,r,_,h⟩|⟨_,h⟩;exact L.Rm _ _ _ h;exact L.Rm _ _ _ h
 |_=>exact L.Rm _ _ _ h
def Fv{P E X R g g' h h'}(hg:GR P E X R g g'){u u'}(hu:V E X u u')(e1:h=dQ g u)(e2:h'=dQ g' u'):GR P E X R h h':=by subst e1;subst e2;exact⟨⟨rfl,rfl⟩,hg.dy,hg.frame.finish hu,hg.callers⟩
def EK{E Sh X v w}(h:WR E Sh X v w):WR E Sh X (v.re w.tape w.drawn) w:=by
 have:v.re w.tape w.drawn=v:=by rw[<-h.tape,<-h.drawn];rfl
 rw[this];exact h
def Inv.gZ{all gs w t D cj cr ag aA}(h:Inv C all gs w t D cj cr ag aA){i}(hi:i<C.n+4)(hr:(D i).st.role≠0):C.gZ i:=by have:=h.df.role i hi;unfold kp.rl at this;unfold kp.gZ;by_cases h0:i=0;exact .inl h0;refine .inr ⟨?_,hi⟩;apply Classical.byContradiction;intro hc;rw[if_neg h0,if_pos (by omega)]at this;exact hr this
def Inv.Hj{all gs w t D cj cr ag aA}(h:Inv C all gs w t D cj cr ag aA){i}(hi:C.gZ i):i<C.n+4:=by have:=h.pos;rcases hi with rfl|⟨_,hi⟩<;>omega
def j4(c:ko α):c.role≠0:=by cases c<;>simp[ko.role]
section
variable{all:List α}{gs:Array Goroutine}{w:World}{t:Trace}{D:Nat->Pd α}{cj cr:Bool}{ag aA:Nat}{sl:Option (Nat×Nat)}
def Wz(L:yW C)(I:Inv C all gs w t D cj cr ag aA)(T:Tr C t D ag aA){i}(hi:i<C.n+4){c}(aS:(D i).st=.live c)(hn:¬C.N.Stop c (D i).g (D i).v):∃gs' w' u D',runT C.P (crowd gs w sl) i=(.next (crowd gs' w' sl),u)/\Inv C all gs' w' (t++u) D' cj cr ag aA/\Tr C (t++u) D' ag aA/\OU (Dn C.P C.N) (C.n+4) D' D/\(∀j,(D' j).st=(D j).st)/\Kept C w w' D D':=by
 have dO:=I.ok i hi;unfold Ok at dO;rw[aS]at dO;obtain⟨g',hx,jY,Xt⟩:=dO;have adf:=I.vq i hi;obtain⟨g1,v1,Y,Yy,w1,iI,ajP,afs,uB,abD,oB,gr⟩:=VP L.code L.bo L.ald L.YW (L.stop c) jY Xt hn adf (i==0);have aM:i<gs.size:=(Array.getElem?_eq_some_iff.1 hx).1;have Ya:∀(ch:Nat)(o:Obj),(∃cap buf cl s r tm,o=.chan cap buf cl s r tm)->w.heap[ch]? =some o->w1.heap[ch]? =some o:=by rintro ch o⟨cap,buf,cl,s,r,tm,rfl⟩h;rw[oB.others ch (Array.getElem?_eq_some_iff.1 h).1 (λhm=>adf.vW C hm h)];exact h
 have hJ:∃s r,w1.heap[C.N.J]? =some (.chan 0 #[] cj s r false):=let⟨s,r,h⟩:=I.Dm;⟨s,r,Ya _ _ ⟨_,_,_,_,_,_,rfl⟩ h⟩;have hR:∃s r,w1.heap[C.N.R]? =some (.chan 0 #[] cr s r false):=let⟨s,r,h⟩:=I.DZ;⟨s,r,Ya _ _ ⟨_,_,_,_,_,_,rfl⟩ h⟩;have hD:=Ya _ _ ⟨_,_,_,_,_,_,rfl⟩ I.Hz;have cD:=runT_crowd_go (P:=C.P) (sl:=sl) hx uB;rw[I.woken hJ hR ⟨_,_,_,hD⟩]at cD;have bY:∀op∈MemOp.ofEvents i g'.frame.fn g'.frame.place iI,op.g=i:=λop cI=>by obtain⟨e,_,rfl⟩:=Go.Conc.mem_ofEvents cI;rfl
 let d':Pd α:=⟨.live c,g1,v1,(D i).X++Y⟩;have af2:∀j,(upd D i d' j).st=(D j).st:=λj=>by by_cases aR:j=i;subst aR;rw[upd_same];exact aS.symm;rw[upd_ne D d' aR]
 have Oe:∀j,j≠i->(upd D i d' j)=D j:=λj hj=>upd_ne D d' hj;have lK:∀j,j<C.n+4->j≠i->∀b,b∈(D i).X++Y->b∈(D j).X->C.Sh b:=λj hj aR b hb DT=>by rcases List.mem_append.1 hb with hb|hb;exact I.Ov i j hi hj (Ne.symm aR) b hb DT;have h1:=(oB.fresh b hb).1;have h2:=(I.vq j hj).lt C DT;omega
 have rS:C.gZ i:=I.gZ hi (by rw[aS];exact j4 c);refine⟨_,w1,_,upd D i d',cD,?_,?_,⟨i,hi,?_,λj hj=>Oe j hj⟩,af2,⟨oB.size,λb hb _ _ _ hx=>hx.elim (λhx=>oB.others b hb (hx i hi)) (λhx=>oB.shared b hx),λj=>?_,oB.os,oB.output,oB.tape⟩⟩;refine⟨I.pos,λj hj=>?_,by simpa using I.size,λj hj=>?_,λj k hj hk ZU b DT TC=>?_,?_,hJ,hR,hD,I.ne,?_⟩;by_cases aR:j=i;subst aR;rw[upd_same,Array.getElem?_setIfInBounds_self_of_lt aM];exact⟨Yy,rfl,abD,afs⟩;rw[Oe j aR,Array.getElem?_setIfInBounds_ne (Ne.symm aR)];exact(I.ok j hj).trace C (Deaf_other t (g':=i) (Ne.symm aR) _ bY);by_cases aR:j=i;subst aR;rw[upd_same];exact EK oB.rel;rw[Oe j aR];exact(I.vq j hj).other C oB λb h1 h2=>I.Ov j i hj hi aR b h1 h2;by_cases aR:j=i;subst aR;rw[upd_same]at DT;rw[Oe k (Ne.symm ZU)]at TC;exact lK k hk (Ne.symm ZU) b DT TC;rw[Oe j aR]at DT;by_cases LZ:k=i;subst LZ;rw[upd_same]at TC;exact lK j hj aR b TC DT;rw[Oe k LZ]at TC;exact I.Ov j k hj hk ZU b DT TC;rw[af2,Array.size_setIfInBounds];exact I.main;have:bj (upd D i d')=bj D:=funext af2;rw[this];exact I.df;obtain⟨s1,r1,e1⟩:=hJ;obtain⟨s2,r2,e2⟩:=hR;have hrel:=EK oB.rel;refine T.own rS aS d' ⟨c,rfl⟩ (λb hb=>List.mem_append_left _ hb) gr (λj hj aR b hb DT=>lK j (I.Hj hj) aR b hb DT) ⟨λhm=>?_,λhm=>?_⟩ ?_ hi;exact jq.vW C (d:=d') hrel hm e1;exact jq.vW C (d:=d') hrel hm e2;by_cases h0:i=0;exact .inl h0;refine .inr λq hq=>?_;have Ca:fj cj cr aA (D (C.n+3)).st:=I.df.cO (C.n+3) (by omega);rw[hq]at Ca;have rQ:fj cj cr aA (D i).st:=I.df.cO i hi;have kQ:(D i).st.role=C.rl i:=I.df.role i hi;rw[aS]at rQ kQ;obtain⟨_,lV,_⟩:=Ca;have KM:c.role≠3:=by rw[show c.role=C.rl i from kQ];unfold kp.rl;rw[if_neg h0];split;omega;split<;>omega
 cases c with
 |bg=>have:cr=false:=rQ;rw[this]at lV;cases lV
 |b8 a=>have:cr=false:=rQ;rw[this]at lV;cases lV
 |fi=>have:cj=true/\cr=false:=rQ;rw[this.2]at lV;cases lV
 |feed rem=>have:cj=false/\cr=false/\_:=rQ;rw[this.2.1]at lV;cases lV
 |cT a rem=>exact rQ.elim|fe=>exact rQ.elim
 |br k=>have:cj=true/\cr=false/\_:=rQ;rw[this.2.1]at lV;cases lV
 |dh=>have:cj=true/\cr=false/\_:=rQ;rw[this.2.1]at lV;cases lV
 |spawn k=>exact absurd rfl KM|aZ bD=>exact absurd rfl KM
 show Dn C.P C.N (upd D i d' i) (D i);rw[upd_same];exact .inl ⟨c,aS,rfl,ajP⟩;by_cases aR:j=i;subst aR;rw[upd_same];exact⟨Y,rfl,λb hb=>(oB.fresh b hb).1⟩;rw[Oe j aR];exact⟨[],by rw[List.append_nil],λ_ h=>by cases h⟩
def WB(I:Inv C all gs w t D cj cr ag aA)(T:Tr C t D ag aA){i}(hi:i<C.n+4)(dX:0<i){r q}(aS:(D i).st=.old r q){x}(hx:gs[i]? =some x)(hr:x.status=.running):∃gs' w' u D',runT C.P (crowd gs w sl) i=(.next (crowd gs' w' sl),u)/\Inv C all gs' w' (t++u) D' cj cr ag aA/\Tr C (t++u) D' ag aA/\OU (Dn C.P C.N) (C.n+4) D' D/\(∀φ:St α->Nat,(∀r a b,φ (.old r a)=φ (.old r b))->∀j,φ (D' j).st=φ (D j).st)/\Kept C w w' D D':=by
 have dO:=I.ok i hi;unfold Ok at dO;rw[aS]at dO;obtain⟨⟨y,hy,hq⟩,Hh⟩:=dO;rw[hx]at hy;cases hy;cases q with
 |zero=>rw[hq.1]at hr;cases hr
 |succ k=>
 rcases hq with⟨hf,_⟩|⟨_,g',es,hm,afv,hq'⟩;rw[hf]at hr;cases hr;have fP:(i==0)=false:=by simp;omega
 have aM:i<gs.size:=(Array.getElem?_eq_some_iff.1 hx).1;have cD:=runT_crowd_go (P:=C.P) (w:=w) (sl:=sl) hx (by rw[fP];exact afv w);rw[I.woken I.Dm I.DZ ⟨_,_,_,I.Hz⟩]at cD;have bY:∀op∈MemOp.ofEvents i x.frame.fn x.frame.place es,op.g=i:=λop cI=>by obtain⟨e,_,rfl⟩:=Go.Conc.mem_ofEvents cI;rfl
 let d':Pd α:=⟨.old r k,(D i).g,(D i).v,(D i).X⟩;have hX:∀j,(upd D i d' j).X=(D j).X:=λj=>by by_cases aR:j=i;subst aR;rw[upd_same];rw[upd_ne D d' aR]
 have hv:∀j,(upd D i d' j).v=(D j).v:=λj=>by by_cases aR:j=i;subst aR;rw[upd_same];rw[upd_ne D d' aR]
 have bZ:∀j,j≠i->upd D i d' j=D j:=λj hj=>upd_ne D d' hj;have lI:bj (upd D i d')=upd (bj D) i (.old r k):=by funext j;by_cases aR:j=i;subst aR;show(upd D j d' j).st=_;rw[upd_same,upd_same];show(upd D i d' j).st=_;rw[upd_ne D d' aR,upd_ne _ _ aR];rfl
 have xS:=I.df.cO i hi;have KJ:∀j,j≠i->Deaf (t++MemOp.ofEvents i x.frame.fn x.frame.place es) j=Deaf t j:=λj hj=>Deaf_other t (g':=i) (Ne.symm hj) _ bY;have XS:∀op∈MemOp.ofEvents i x.frame.fn x.frame.place es,op.act.touch? =none:=λop cI=>by obtain⟨e,he,rfl⟩:=Go.Conc.mem_ofEvents cI;exact touch_mute (hm e he)
 refine⟨_,w,_,upd D i d',cD,⟨I.pos,λj hj=>?_,by simpa using I.size,λj hj=>?_,λj k hj hk ZU b DT TC=>?_,?_,I.Dm,I.DZ,I.Hz,I.ne,?_⟩,?_,⟨i,hi,?_,bZ⟩,λφ hφ j=>?_,jX hX rfl rfl rfl rfl⟩;by_cases aR:j=i;subst aR;rw[upd_same,Array.getElem?_setIfInBounds_self_of_lt aM];exact⟨⟨g',rfl,by rw[Deaf_own];exact hq'⟩,Hh⟩;rw[bZ j aR,Array.getElem?_setIfInBounds_ne (Ne.symm aR)];exact(I.ok j hj).trace C (KJ j aR);unfold jq;rw[hX,hv];exact I.vq j hj;rw[hX]at DT TC;exact I.Ov j k hj hk ZU b DT TC;rw[bZ 0 (by omega),Array.size_setIfInBounds];exact I.main;rw[lI];have e1:(bj D i)=.old r (k+1):=aS;refine I.df.one hi _ (by rw[e1];rfl) (λp=>by rw[e1];rfl) (by rw[e1];cases r with|zero=>rfl|succ r=>cases r<;>rfl) ?_ (λc e=>by cases e);have h2:fj cj cr aA (D i).st:=I.df.cO i hi;rw[aS]at h2;match r,h2 with
 |0,h2=>exact h2
 |1,h2=>exact h2
 |2,h2=>exact h2
 |r+3,h2=>exact h2
 have hold:∀j r' q',(upd D i d' j).st=.old r' q'->∃q'',(D j).st=.old r' q'':=λj r' q' e=>by by_cases aR:j=i;subst aR;rw[upd_same]at e;cases e;exact⟨_,aS⟩;rw[bZ j aR]at e;exact⟨_,e⟩
 refine T.mute XS hX (λj hj hc=>.inl λc e=>?_) (λc e=>?_) (λj hj hc=>?_) (λj q' hj e=>?_) (λq' e=>?_) (λj hj=>KJ j (by omega));by_cases aR:j=i;subst aR;rw[aS]at e;cases e;exact hc c (by rw[bZ j aR];exact e);rcases I.main with⟨_,_,h,_⟩|⟨⟨_,h|h⟩,_⟩<;>rw[h]at e<;>cases e;have aR:j≠i:=λe=>by subst e;exact hc r k (by rw[upd_same])
 rw[bZ j aR]at hc;exact⟨hc,KJ j aR⟩;obtain⟨q'',h⟩:=hold j 1 q' e;exact(T.said j q'' hj h).app (λop cI _=>XS op cI) ν;obtain⟨q'',h⟩:=hold _ 2 q' e;exact(T.shut q'' h).app λop cI _ _=>XS op cI;rw[upd_same];exact .inr ⟨r,k,aS,rfl⟩;by_cases aR:j=i;subst aR;rw[upd_same,aS];exact hφ r k (k+1);rw[bZ j aR]
end
end Ph
namespace Ph
open Go.Conc Rn
open Go.ConcN (sumTo upd sumTo_upd upd_ne upd_same le_sumTo)
open Tp (cN Term Ld)
variable{α:Type}{C:kp α}
section
variable{all:List α}{gs gs':Array Goroutine}{w w':World}{t u:Trace}{D D':Nat->Pd α}{cj cr cj' cr':Bool}{ag aA sent' rcvd':Nat}{sl:Option (Nat×Nat)}
def acu(D' D:Nat->Pd α):Prop:=∀j,(D' j).X=(D j).X/\(D' j).v=(D j).v
def Inv.quiet(I:Inv C all gs w t D cj cr ag aA)(hS:acu D' D)(hu:Quiet u)(dO:∀j,j<C.n+4->(D' j=D j/\gs'[j]? =gs[j]?)∨Ok C t j gs'[j]? (D' j))(lU:gs'.size<=C.n+4)(hw:∀j,j<C.n+4->jq C w (D j)->jq C w' (D j)) (xU:(∃k,k<=3/\(D' 0).st=.live (.spawn k)/\gs'.size=C.n+k)∨((∃bD,(D' 0).st=.live (.aZ bD)∨(D' 0).st=.bc (.aZ bD))/\gs'.size=C.n+4)) (hJ:∃s r,w'.heap[C.N.J]? =some (.chan 0 #[] cj' s r false)) (hR:∃s r,w'.heap[C.N.R]? =some (.chan 0 #[] cr' s r false)) (hD:w'.heap[C.N.D]? =some (.chan 3 (Array.replicate (sent'-rcvd') C.N.dv) false sent' rcvd' false)) (df:zB C all (bj D') cj' cr' sent' rcvd'):Inv C all gs' w' (t++u) D' cj' cr' sent' rcvd':=⟨I.pos,λj hj=>by
 rcases dO j hj with⟨h1,h2⟩|h;rw[h1,h2];exact(I.ok j hj).trace C (hu.deaf t j);exact h.trace C (hu.deaf t j),lU,λj hj=>by
 have:=hw j hj (I.vq j hj);unfold jq at this|-;rw[(hS j).1,(hS j).2];exact this,λj k hj hk ZU b DT TC=>I.Ov j k hj hk ZU b (by rw[<-(hS j).1];exact DT) (by rw[<-(hS k).1];exact TC),xU,hJ,hR,hD,I.ne,df⟩
def Inv.zero(I:Inv C all gs w t D cj cr ag aA):∀c,(D 0).st≠.bS c:=λc e=>by rcases I.main with⟨_,_,h,_⟩|⟨⟨_,h|h⟩,_⟩<;>rw[h]at e<;>cases e
def Tr.quiet(I:Inv C all gs w t D cj cr ag aA)(T:Tr C t D ag aA)(hS:acu D' D)(hu:Quiet u)(Xp:∀j c,(D j).st=.bS c->∃c',(D' j).st=.bS c')(ho:∀j r q,(D j).st=.old r q->∃r' q',(D' j).st=.old r' q') (hs:∀j q,j<C.n+4->(D' j).st=.old 1 q->jr C (t++u) j sent' rcvd') (nA:∀q,(D' (C.n+3)).st=.old 2 q->∃q',(D (C.n+3)).st=.old 2 q'):Tr C (t++u) D' sent' rcvd':=T.mute (λop cI=>(hu op cI).1) (λj=>(hS j).1) (λj _ hc=>.inl λc e=>by obtain⟨c',h⟩:=Xp j c e;exact hc c' h) I.zero (λj _ hc=>⟨λr q e=>by obtain⟨r',q',h⟩:=ho j r q e;exact hc r' q' h,hu.deaf t j⟩) hs (λq e=>by obtain⟨q',h⟩:=nA q e;exact(T.shut q' h).app λop cI _ _=>(hu op cI).1) (λj _=>hu.deaf t j)
def eR D i(d:Pd α):bj (upd D i d)=upd (bj D) i d.st:=by funext j;by_cases aR:j=i;subst aR;show(upd D j d j).st=_;rw[upd_same,upd_same];show(upd D i d j).st=_;rw[upd_ne D d aR,upd_ne _ _ aR];rfl
def Pd.to(d:Pd α)(s:St α)(g:Goroutine):Pd α:=⟨s,g,d.v,d.X⟩
def pC D i(s:St α) g:acu (upd D i ((D i).to s g)) D:=λj=>by by_cases aR:j=i;subst aR;rw[upd_same];exact⟨rfl,rfl⟩;rw[upd_ne D _ aR];exact⟨rfl,rfl⟩
def m4 D i j(s s':St α) g g':acu (upd (upd D i ((D i).to s g)) j ((D j).to s' g')) D:=λk=>by by_cases hkj:k=j;subst hkj;rw[upd_same];exact⟨rfl,rfl⟩;rw[upd_ne _ _ hkj];exact pC D i s g k
def qO:Quiet (#[]:Trace):=λop cI=>by simp at cI
def Uk{P E}(hB:Z8 P E){f fn}(hF:E.F f)(hf:P.funcs[f]? =some fn) a b w:stepG P b (jo P {target:=.fn (.func f) a,args:=#[]}) w=.go {frame:=Frame.enter P f a .deferred,callers:=[base P],status:=.running,dying:=none} w #[]:=by
 obtain⟨h1,h2⟩:=hB f fn hF hf;have e1:stepG P b (jo P {target:=.fn (.func f) a,args:=#[]}) w=callDeferred P (base P) [] none {target:=.fn (.func f) a,args:=#[]} w:=rfl;rw[e1];unfold callDeferred;have cD:(invoke (.fn (.func f) a) #[]).runT P w #[]=(.ok (.enter f a) w,#[]):=by show(callFunc f (#[]++a)).runT P w #[]=_;rw[Array.empty_append];unfold callFunc;show Sem.runT P (match P.funcs[f]? with|none=>stuck "call: no such function" |some fn=>_) w #[]=_;rw[hf];simp only[h1,h2,Bool.false_eq_true,if_false];rfl
 simp only[cD];rfl
def SX(L:yW C)(I:Inv C all gs w t D cj cr ag aA)(T:Tr C t D ag aA){i}(hi:i<C.n+4){c}(aS:(D i).st=.born c):∃gs' w' u D',runT C.P (crowd gs w sl) i=(.next (crowd gs' w' sl),u)/\Inv C all gs' w' (t++u) D' cj cr ag aA/\Tr C (t++u) D' ag aA/\bj D'=upd (bj D) i (.live c)/\Kept C w w' D D':=by
 have dO:=I.ok i hi;unfold Ok at dO;rw[aS]at dO;obtain⟨hx,hR,jY,Xt⟩:=dO;have aM:i<gs.size:=(Array.getElem?_eq_some_iff.1 hx).1;have XE:=I.df.role i hi;have lV:c.role=C.rl i:=by have:(D i).st.role=C.rl i:=XE;rw[aS]at this;exact this
 have hc:c=.bg/\cr=false∨∃rem,c=.feed rem/\cj=false/\cr=false/\aA=0:=by have:=I.df.cO i hi;rw[show bj D i=.born c from aS]at this;cases c<;>first|exact .inl ⟨rfl,this⟩|exact .inr ⟨_,rfl,this⟩|exact this.elim
 have dX:C.n<=i:=by
  have h1:c.role=1∨c.role=2:=by rcases hc with⟨rfl,_⟩|⟨_,rfl,_⟩<;>simp[ko.role]
  unfold kp.rl at lV;apply Classical.byContradiction;intro hn;by_cases h0:i=0;rw[if_pos h0]at lV;omega;rw[if_neg h0,if_pos (by omega)]at lV;omega
 have fP:=I.pos;obtain⟨hF,fn,hf⟩:=L.started i dX hi;have uB:=Uk (P:=C.P) L.bo hF hf (C.a i) (i==0) w;have cD:=runT_crowd_go (P:=C.P) (sl:=sl) hx uB;rw[I.woken I.Dm I.DZ ⟨_,_,_,I.Hz⟩]at cD;have hu:MemOp.ofEvents i (jo C.P (C.d i)).frame.fn (jo C.P (C.d i)).frame.place #[]=#[]:=rfl;rw[hu]at cD;have hS:=pC D i (.live c) (D i).g;refine⟨_,w,#[],_,cD,I.quiet hS qO (λj hj=>?_) (by simpa using I.size) (λ_ _ h=>h) ?_ I.Dm I.DZ I.Hz ?_,T.quiet I hS qO (λj c' e=>?_) (λj r q e=>?_) (λj q hj e=>?_) (λq e=>?_),eR _ _ _,jX (λj=>(hS j).1) rfl rfl rfl rfl⟩;by_cases aR:j=i;subst aR;refine .inr ?_;rw[upd_same,Array.getElem?_setIfInBounds_self_of_lt aM];exact⟨_,rfl,jY,Xt⟩;exact .inl ⟨upd_ne D _ aR,Array.getElem?_setIfInBounds_ne (Ne.symm aR)⟩;rw[upd_ne D _ (by omega),Array.size_setIfInBounds];exact I.main;rw[eR];have e1:bj D i=.born c:=aS;refine I.df.one hi _ (by rw[e1];rfl) (λp=>by rw[e1];rfl) (by rw[e1];rfl) ?_ (λc e=>by cases e);rcases hc with⟨rfl,h⟩|⟨rem,rfl,h⟩<;>exact h;by_cases aR:j=i;subst aR;rw[aS]at e;cases e;exact⟨c',by rw[upd_ne D _ aR];exact e⟩;by_cases aR:j=i;subst aR;rw[aS]at e;cases e;exact⟨r,q,by rw[upd_ne D _ aR];exact e⟩;by_cases aR:j=i;subst aR;rw[upd_same]at e;cases e;rw[upd_ne D _ aR]at e;rw[Array.append_empty];exact T.said j q hj e;by_cases aR:C.n+3=i;rw[aR,upd_same]at e;cases e;rw[upd_ne D _ aR]at e;exact⟨q,e⟩
def kh{P E X R g g'}(h:GR P E X R g g'):GR P E X R g {g' with status:=.running,offers:=none}:=⟨⟨h.run.1,rfl⟩,h.dy,h.frame,h.callers⟩
def ns(L:yW C)(I:Inv C all gs w t D cj cr ag aA)(T:Tr C t D ag aA){i}(hi:i<C.n+4){c0 c}(aS:(D i).st=.live c0)(hA:C.N.A c (D i).g (D i).v)(aiY:c.Vu=true)(xS:c.role=c0.role)(G8:∀p,c.tok p=c0.tok p) (uD:∀cc∈C.N.cases c,NoWays w (gs.setIfInBounds i ph) cc) (cX:fj cj cr aA (.bc c)) (h1:c=.bg->∀j a rem,j<C.n+4->(D j).st≠.bc (.cT a rem)) (h2:∀a rem,c=.cT a rem->∀j,j<C.n+4->(D j).st≠.bc .bg) (h3:∀a,c=.b8 a->∀j g,j<C.n+4->(D j).st≠.bc (.aZ g)) (h4:∀g,c=.aZ g->∀j a,j<C.n+4->(D j).st≠.bc (.b8 a)) (h5:∀k,c=.br k->ag=aA) (xU:i=0->∃bD,c0=.aZ bD/\c=.aZ bD):∃gs' w' u D',runT C.P (crowd gs w sl) i=(.next (crowd gs' w' sl),u)/\Inv C all gs' w' (t++u) D' cj cr ag aA/\Tr C (t++u) D' ag aA/\bj D'=upd (bj D) i (.bc c)/\Kept C w w' D D':=by have dO:=I.ok i hi;unfold Ok at dO;rw[aS]at dO;obtain⟨g',hx,jY,_⟩:=dO;have aM:i<gs.size:=(Array.getElem?_eq_some_iff.1 hx).1;have lW:=L.act c _ _ _ _ _ aiY hA jY (i==0) w;have cD:=crowd_waits (P:=C.P) (sl:=sl) hx lW uD;have hu:MemOp.ofEvents i g'.frame.fn g'.frame.place #[]=#[]:=rfl;rw[hu]at cD;have hS:=pC D i (.bc c) (D i).g;refine⟨_,w,#[],_,cD,I.quiet hS qO (λj hj=>?_) (by simpa using I.size) (λ_ _ h=>h) ?_ I.Dm I.DZ I.Hz ?_,T.quiet I hS qO (λj c' e=>?_) (λj r q e=>?_) (λj q hj e=>?_) (λq e=>?_),eR _ _ _,jX (λj=>(hS j).1) rfl rfl rfl rfl⟩;by_cases aR:j=i;subst aR;refine .inr ?_;rw[upd_same,Array.getElem?_setIfInBounds_self_of_lt aM];exact⟨_,rfl,kh jY,hA⟩;exact .inl ⟨upd_ne D _ aR,Array.getElem?_setIfInBounds_ne (Ne.symm aR)⟩;rw[Array.size_setIfInBounds];by_cases h0:i=0;subst h0;obtain⟨bD,rfl,rfl⟩:=xU rfl;rw[upd_same];rcases I.main with⟨_,_,h,_⟩|⟨_,h⟩;rw[aS]at h;cases h;exact .inr ⟨⟨bD,.inr rfl⟩,h⟩;rw[upd_ne D _ (Ne.symm h0)];exact I.main;rw[eR];have e1:bj D i=.live c0:=aS;exact I.df.bc hi c (by rw[e1];exact xS) (λp=>by rw[e1];exact G8 p) (by rw[e1];rfl) cX h1 h2 h3 h4 h5;by_cases aR:j=i;subst aR;rw[aS]at e;cases e;exact⟨c',by rw[upd_ne D _ aR];exact e⟩;by_cases aR:j=i;subst aR;rw[aS]at e;cases e;exact⟨r,q,by rw[upd_ne D _ aR];exact e⟩;by_cases aR:j=i;subst aR;rw[upd_same]at e;cases e;rw[upd_ne D _ aR]at e;rw[Array.append_empty];exact T.said j q hj e;by_cases aR:C.n+3=i;rw[aR,upd_same]at e;cases e;rw[upd_ne D _ aR]at e;exact⟨q,e⟩
def lr i j fn fn' pos pos' c s r cap:Quiet #[{g:=i,fn:=fn,pos:=pos,act:=.send c s},{g:=j,fn:=fn',pos:=pos',act:=.recv c r cap},{g:=i,fn:=fn,pos:=pos,act:=.sendDone c s},{g:=j,fn:=fn',pos:=pos',act:=.recvDone c r}]:=by intro op cI;simp at cI;rcases cI with rfl|rfl|rfl|rfl<;>exact⟨rfl,λm=>by simp⟩
def meet(I:Inv C all gs w t D cj cr ag aA)(T:Tr C t D ag aA){i j}(hi:i<C.n+4)(hj:j<C.n+4)(j9:i≠j){xi xj} ci cj'{gi gj} (L6:gs'[i]? =some xi) (xV:gs'[j]? =some xj) (hgo:∀k,k≠i->k≠j->gs'[k]? =gs[k]?) (lU:gs'.size=gs.size) (NV:GR C.P C.E (D i).X (C.R i) gi xi/\Term C.P (C.N.Stop ci) gi (D i).v) (hoj:GR C.P C.E (D j).X (C.R j) gj xj/\Term C.P (C.N.Stop cj') gj (D j).v) (hu:Quiet u) (hw:∀k,k<C.n+4->jq C w (D k)->jq C w' (D k)) (hJ:∃s r,w'.heap[C.N.J]? =some (.chan 0 #[] cj s r false)) (hR:∃s r,w'.heap[C.N.R]? =some (.chan 0 #[] cr s r false)) (hD:w'.heap[C.N.D]? =some (.chan 3 (Array.replicate (ag-aA) C.N.dv) false ag aA false)) (uE:(∀r q,(D i).st≠.old r q)/\(∀r q,(D j).st≠.old r q)/\(∀c,(D i).st≠.bS c)/\∀c,(D j).st≠.bS c) (xU:(0=i->∃bD,ci=.aZ bD)/\(0=j->∃bD,cj'=.aZ bD)/\(0=i∨0=j->gs.size=C.n+4)) (df:zB C all (upd (upd (bj D) i (.live ci)) j (.live cj')) cj cr ag aA):Inv C all gs' w' (t++u) (upd (upd D i ((D i).to (.live ci) gi)) j ((D j).to (.live cj') gj)) cj cr ag aA/\Tr C (t++u) (upd (upd D i ((D i).to (.live ci) gi)) j ((D j).to (.live cj') gj)) ag aA:=by
 have hS:=m4 D i j (.live ci) (.live cj') gi gj;have mI:∀k,upd (upd D i ((D i).to (.live ci) gi)) j ((D j).to (.live cj') gj) k=if k=j then(D j).to (.live cj') gj else if k=i then(D i).to (.live ci) gi else D k:=λk=>rfl
 have bZ:∀k,k≠i->k≠j->upd (upd D i ((D i).to (.live ci) gi)) j ((D j).to (.live cj') gj) k=D k:=λk h1 h2=>by rw[mI,if_neg h2,if_neg h1]
 have hvi:upd (upd D i ((D i).to (.live ci) gi)) j ((D j).to (.live cj') gj) i=(D i).to (.live ci) gi:=by rw[mI,if_neg j9,if_pos rfl]
 have Xo:upd (upd D i ((D i).to (.live ci) gi)) j ((D j).to (.live cj') gj) j=(D j).to (.live cj') gj:=by rw[mI,if_pos rfl]
 have lI:bj (upd (upd D i ((D i).to (.live ci) gi)) j ((D j).to (.live cj') gj))=upd (upd (bj D) i (.live ci)) j (.live cj'):=by rw[eR,eR];rfl
 have hold:∀k r q,(upd (upd D i ((D i).to (.live ci) gi)) j ((D j).to (.live cj') gj) k).st=.old r q->k≠i/\k≠j/\(D k).st=.old r q:=λk r q e=>by by_cases h1:k=i;subst h1;rw[hvi]at e;cases e;by_cases h2:k=j;subst h2;rw[Xo]at e;cases e;rw[bZ k h1 h2]at e;exact⟨h1,h2,e⟩
 refine⟨I.quiet hS hu (λk hk=>?_) (by rw[lU];exact I.size) hw ?_ hJ hR hD (by rw[lI];exact df),T.quiet I hS hu (λk c' e=>?_) (λk r q e=>?_) (λk q hk e=>?_) (λq e=>?_)⟩;by_cases h1:k=i;subst h1;refine .inr ?_;rw[hvi,L6];exact⟨_,rfl,NV.1,NV.2⟩;by_cases h2:k=j;subst h2;refine .inr ?_;rw[Xo,xV];exact⟨_,rfl,hoj.1,hoj.2⟩;exact .inl ⟨bZ k h1 h2,hgo k h1 h2⟩;by_cases h1:0=i;obtain⟨bD,Cf⟩:=xU.1 h1;refine .inr ⟨⟨bD,.inl ?_⟩,by rw[lU];exact xU.2.2 (.inl h1)⟩;rw[h1,hvi,Cf];rfl;by_cases h2:0=j;obtain⟨bD,Cf⟩:=xU.2.1 h2;refine .inr ⟨⟨bD,.inl ?_⟩,by rw[lU];exact xU.2.2 (.inr h2)⟩;rw[h2,Xo,Cf];rfl;rw[bZ 0 h1 h2,lU];exact I.main;by_cases h1:k=i;subst h1;exact absurd e (uE.2.2.1 c');by_cases h2:k=j;subst h2;exact absurd e (uE.2.2.2 c');exact⟨c',by rw[bZ k h1 h2];exact e⟩;by_cases h1:k=i;subst h1;exact absurd e (uE.1 r q);by_cases h2:k=j;subst h2;exact absurd e (uE.2.1 r q);exact⟨r,q,by rw[bZ k h1 h2];exact e⟩;obtain⟨_,_,h3⟩:=hold k 1 q e;exact(T.said k q hk h3).app (λop cI _=>(hu op cI).1) ν;obtain⟨_,_,h3⟩:=hold _ 2 q e;exact⟨q,h3⟩
end
end Ph
namespace Ph
open Go.Conc Rn
open Go.ConcN (sumTo upd sumTo_upd upd_ne upd_same le_sumTo)
open Tp (cN Term Ld)
variable{α:Type}{C:kp α}
def Lg(C:kp α)(s:Nat->St α):Nat:=sumTo (C.n+4) λi=>(s i).ev
def ups(C:kp α)(s:Nat->St α):Nat:=sumTo (C.n+4) λi=>(s i).up
def UF(C:kp α)(D' D:Nat->Pd α):Prop:=Lg C (bj D')<Lg C (bj D)∨(Lg C (bj D')=Lg C (bj D)/\(ups C (bj D')<ups C (bj D)∨(ups C (bj D')=ups C (bj D)/\OU (Dn C.P C.N) (C.n+4) D' D)))
def Goes(C:kp α)(all:List α)(gs:Array Goroutine)(w:World)(sl:Option (Nat×Nat))(t:Trace)(D:Nat->Pd α)(i:Nat):Prop:=∃gs' w' u D' cj' cr' sent' rcvd',runT C.P (crowd gs w sl) i=(.next (crowd gs' w' sl),u)/\Inv C all gs' w' (t++u) D' cj' cr' sent' rcvd'/\Tr C (t++u) D' sent' rcvd'/\UF C D' D/\Kept C w w' D D'
def oE{s i}(hi:i<C.n+4) x:Lg C (upd s i x)+(s i).ev=Lg C s+x.ev:=sumTo_upd s x (λy=>y.ev) hi
def aaf{s i}(hi:i<C.n+4) x:ups C (upd s i x)+(s i).up=ups C s+x.up:=sumTo_upd s x (λy=>y.up) hi
def zt{s i j}(hi:i<C.n+4)(hj:j<C.n+4)(j9:i≠j) x y:Lg C (upd (upd s i x) j y)+(s i).ev+(s j).ev=Lg C s+x.ev+y.ev:=by have a:=oE (C:=C) (s:=upd s i x) hj y;have b:=oE (C:=C) (s:=s) hi x;rw[upd_ne s x (Ne.symm j9)]at a;omega
section
variable{all:List α}{gs gs':Array Goroutine}{w w':World}{t u:Trace}{D D':Nat->Pd α}{cj cr cj' cr':Bool}{ag aA sent' rcvd':Nat}{sl:Option (Nat×Nat)}
def qK{c c' v v' z z'}(h:(#[scase c v z]:Array CommCase)=#[scase c' v' z']):c=c'/\v=v':=by
 have:scase c v z=scase c' v' z':=by simpa using h
 unfold scase at this;injection this with h1 h2 h3;injection h1 with h1;injection h1 with h1;injection h2 with h2;exact⟨h1,h2⟩
def kX{c c' z z'}(h:(#[rcase c z]:Array CommCase)=#[rcase c' z']):c=c':=by
 have:rcase c z=rcase c' z':=by simpa using h
 unfold rcase at this;injection this with h1 h2 h3;injection h1 with h1;injection h1 with h1
def dq{c c' v z z'}(h:(#[rcase c z]:Array CommCase)=#[scase c' v z']):False:=by
 have:rcase c z=scase c' v z':=by simpa using h
 unfold rcase scase at this;injection this with h1 h2 h3;cases h2
def Inv.parked(I:Inv C all gs w t D cj cr ag aA){j gj cs sh}(hj:gs[j]? =some (parked gj cs sh)):j<C.n+4/\∃c,(D j).st=.bc c/\cs=C.N.cases c/\sh=C.N.shape c/\GR C.P C.E (D j).X (C.R j) (D j).g {gj with status:=.running,offers:=none}/\C.N.A c (D j).g (D j).v:=by obtain⟨aM,aS⟩:=I.status hj;refine⟨aM,?_⟩;rcases aS with aS|⟨c,hc⟩;rcases aS with e|e<;>cases e;have:=I.ok j aM;unfold Ok at this;rw[hc]at this;obtain⟨g',h1,h2,h3⟩:=this;rw[hj]at h1;have h4:=Option.some.inj h1;unfold Go.Conc.parked at h4;injection h4 with e1 e2 e3 e4 e5;injection e5 with e5;injection e5 with e6 e7;refine⟨c,hc,e6,e7,⟨⟨h2.run.1,rfl⟩,⟨h2.dy.1,?_⟩,?_,?_⟩,h3⟩;show gj.dying=none;rw[e4];exact h2.dy.2;show zC _ _ _ _ gj.frame;rw[e1];exact h2.frame;show∃cs fy,_/\gj.callers=_/\_;rw[e2];exact h2.callers
def iO{P E X R g gj}(h:GR P E X R g {gj with status:=.running,offers:=none}){v v'}(hv:V E X v v'):GR P E X R (Go.Conc.served g v) (Go.Conc.served gj v'):=⟨⟨rfl,rfl⟩,h.dy,h.frame.finish hv,h.callers⟩
def nY(hp:0<C.n){i j}(hi:i<C.n+4)(hj:j<C.n+4)(h:C.rl i=C.rl j)(h2:C.rl i=2∨C.rl i=3):i=j:=by unfold kp.rl at h h2;split at h<;>split at h<;>(repeat' split at h)<;>(repeat' split at h2)<;>omega
def V.pair{E X v}(h:Rn.Clean v) b:V E X (.tuple #[v,.bool b]) (.tuple #[v,.bool b]):=V.eI ((VA.one (h.self X)).push (.bool b))
def J0(L:yW C)(I:Inv C all gs w t D cj cr ag aA)(T:Tr C t D ag aA){i j}(hi:i<C.n+4)(hj:j<C.n+4){a rem xi xj} (NS:(∃r,(D i).st=.live (.feed r)/\r.Perm (a::rem))∨(D i).st=.bc (.cT a rem)) (xP:(D j).st=.live .bg∨(D j).st=.bc .bg) (hAi:C.N.A (.cT a rem) (D i).g (D i).v) (TH:C.N.A .bg (D j).g (D j).v) (L6:gs'[i]? =some (Go.Conc.served xi undef)) (xV:gs'[j]? =some (Go.Conc.served xj (.tuple #[C.N.jv a,.bool true]))) (hgo:∀k,k≠i->k≠j->gs'[k]? =gs[k]?) (lU:gs'.size=gs.size) (hri:GR C.P C.E (D i).X (C.R i) (D i).g {xi with status:=.running,offers:=none}) (hrj:GR C.P C.E (D j).X (C.R j) (D j).g {xj with status:=.running,offers:=none}) (hu:Quiet u) {s r d} (hc:w.heap[C.N.J]? =some (.chan 0 #[] cj s r false)):∃D',Inv C all gs' (World.setChan (w.at d) C.N.J 0 #[] cj (s+1) (r+1) false) (t++u) D' cj cr ag aA/\Tr C (t++u) D' ag aA/\UF C D' D/\∀k,(D' k).X=(D k).X:=by
 have XF:(bj D i).role=2:=by show(D i).st.role=2;rcases NS with⟨r,h,_⟩|h<;>rw[h]<;>rfl
 have NT:(bj D j).role=1:=by show(D j).st.role=1;rcases xP with h|h<;>rw[h]<;>rfl
 have j9:i≠j:=λe=>by subst e;omega
 have aS:cj=false/\cr=false/\aA=0:=by have:=I.df.cO i hi;rcases NS with⟨r,h,_⟩|h;rw[show bj D i=_ from h]at this;exact this;rw[show bj D i=_ from h]at this;exact this
 have Qi:∀p,(bj D i).tok p=(a::rem).countP p:=λp=>by rcases NS with⟨r,h,hp⟩|h;rw[show bj D i=_ from h];exact hp.countP_eq p;rw[show bj D i=_ from h];rfl
 have aqt:(bj D i).ev=7+2*(rem.length+1):=by rcases NS with⟨r,h,hp⟩|h;rw[show bj D i=_ from h];show 7+2*r.length=_;rw[hp.length_eq];rfl;rw[show bj D i=_ from h];rfl
 have Qh:∀p,(bj D j).tok p=0:=λp=>by rcases xP with h|h<;>rw[show bj D j=_ from h]<;>rfl
 have aqs:(bj D j).ev=2:=by rcases xP with h|h<;>rw[show bj D j=_ from h]<;>rfl
 have afC:(bj D i).said=0:=by rcases NS with⟨r,h,hp⟩|h<;>rw[show bj D i=_ from h]<;>rfl
 have afB:(bj D j).said=0:=by rcases xP with h|h<;>rw[show bj D j=_ from h]<;>rfl
 have h0:=I.pos;have hm:=meet (gs':=gs') (w':=World.setChan (w.at d) C.N.J 0 #[] cj (s+1) (r+1) false) (u:=u) I T hi hj j9 (.feed rem) (.b8 a) L6 xV hgo lU
  ⟨iO hri (V.eI (VA.empty _)),L.Wv a rem _ _ hAi⟩ ⟨iO hrj (V.pair (L.Md.1 a) true),L.Wy a _ _ TH (L.tx a rem _ _ hAi)⟩ hu
  (λk hk h=>by
   have:=(h.drawn C d).chan C (c:=C.N.J) (by exact hc) (.chan 0 #[] cj (s+1) (r+1) false) d
   exact this)
  ⟨s+1,r+1,by
   have aM:C.N.J<w.heap.size:=(Array.getElem?_eq_some_iff.1 hc).1;show(w.heap.setIfInBounds C.N.J _)[C.N.J]? =_;rw[Array.getElem?_setIfInBounds_self_of_lt aM]⟩
  (by
   obtain⟨s2,r2,h2⟩:=I.DZ;exact⟨s2,r2,by show(w.heap.setIfInBounds C.N.J _)[C.N.R]? =_;rw[Array.getElem?_setIfInBounds_ne I.ne.1];exact h2⟩)
  (by show(w.heap.setIfInBounds C.N.J _)[C.N.D]? =_;rw[Array.getElem?_setIfInBounds_ne I.ne.2.1];exact I.Hz)
  ⟨λr q e=>(by rcases NS with⟨_,h,_⟩|h<;>rw[h]at e<;>cases e),λr q e=>(by rcases xP with h|h<;>rw[h]at e<;>cases e),λc e=>(by rcases NS with⟨_,h,_⟩|h<;>rw[h]at e<;>cases e),λc e=>(by rcases xP with h|h<;>rw[h]at e<;>cases e)⟩
  ⟨λe=>(by subst e;have:=I.df.role 0 hi;rw[XF]at this;simp[kp.rl]at this),λe=>(by subst e;have:=I.df.role 0 hj;rw[NT]at this;simp[kp.rl]at this),λe=>by
   rcases e with e|e<;>subst e
   ·have:=I.df.role 0 hi;rw[XF]at this;simp[kp.rl]at this
   ·have:=I.df.role 0 hj;rw[NT]at this;simp[kp.rl]at this⟩
  (I.df.two hi hj j9 (.live (.feed rem)) (.live (.b8 a)) (by rw[XF];rfl) (by rw[NT];rfl) (λp=>by
    rw[Qi,Qh];show rem.countP p+[a].countP p=_;rw[List.countP_cons,List.countP_cons,List.countP_nil];omega) (by rw[afC,afB];rfl) I.df.le (λk hk _ _=>I.df.cO k hk) aS aS.2.1 (λc e=>(by cases e)) (λc e=>(by cases e)) (λk q hk _ _ h=>I.df.p3 k q hk h))
 refine⟨_,hm.1,hm.2,.inl ?_,λk=>(m4 D i j _ _ _ _ k).1⟩;rw[eR,eR];have:=zt (C:=C) (s:=bj D) hi hj j9 (.live (.feed rem)) (.live (.b8 a));have e1:(St.live (ko.feed rem):St α).ev=7+2*rem.length:=rfl;have e2:(St.live (ko.b8 a):St α).ev=3:=rfl;show Lg C (upd (upd (bj D) i (.live (.feed rem))) j (.live (.b8 a)))<_;omega
def Rp{f m i j}(hi:i<m)(hj:j<m)(j9:i≠j):f i+f j<=sumTo m f:=by have h1:=vo (f:=upd f i 0) (g:=f) (m:=m) (i:=i) hi (λk hk=>(upd_ne f 0 hk).symm);have h2:=le_sumTo (f:=upd f i 0) hj;rw[upd_same]at h1;rw[upd_ne f 0 (Ne.symm j9)]at h2;omega
def JZ(L:yW C)(I:Inv C all gs w t D cj cr ag aA)(T:Tr C t D ag aA){i j}(hi:i<C.n+4)(hj:j<C.n+4){a bD xi xj} (NS:(D i).st=.live (.b8 a)∨(D i).st=.bc (.b8 a)) (xP:(D j).st=.live (.aZ bD)∨(D j).st=.bc (.aZ bD)) (hAi:C.N.A (.b8 a) (D i).g (D i).v) (TH:C.N.A (.aZ bD) (D j).g (D j).v) (L6:gs'[i]? =some (Go.Conc.served xi undef)) (xV:gs'[j]? =some (Go.Conc.served xj (.tuple #[C.N.fv a,.bool true]))) (hgo:∀k,k≠i->k≠j->gs'[k]? =gs[k]?) (lU:gs'.size=gs.size) (hri:GR C.P C.E (D i).X (C.R i) (D i).g {xi with status:=.running,offers:=none}) (hrj:GR C.P C.E (D j).X (C.R j) (D j).g {xj with status:=.running,offers:=none}) (hu:Quiet u) {s r d} (hc:w.heap[C.N.R]? =some (.chan 0 #[] cr s r false)):∃D',Inv C all gs' (World.setChan (w.at d) C.N.R 0 #[] cr (s+1) (r+1) false) (t++u) D' cj cr ag aA/\Tr C (t++u) D' ag aA/\UF C D' D/\∀k,(D' k).X=(D k).X:=by
 have XF:(bj D i).role=1:=by show(D i).st.role=1;rcases NS with h|h<;>rw[h]<;>rfl
 have NT:(bj D j).role=3:=by show(D j).st.role=3;rcases xP with h|h<;>rw[h]<;>rfl
 have j9:i≠j:=λe=>by subst e;omega
 have h0:=I.pos;have X6:j=0:=by have h1:=I.df.role j hj;have h2:=I.df.role 0 (by omega);refine nY h0 hj (by omega) ?_ (.inr (by rw[<-h1,NT]));rw[<-h1,NT];simp[kp.rl]
 have lV:cr=false:=by have:=I.df.cO i hi;rcases NS with h|h;rw[show bj D i=_ from h]at this;exact this;rw[show bj D i=_ from h]at this;exact this
 have Qi:∀p,(bj D i).tok p=[a].countP p:=λp=>by rcases NS with h|h<;>rw[show bj D i=_ from h]<;>rfl
 have aqt:(bj D i).ev=3:=by rcases NS with h|h<;>rw[show bj D i=_ from h]<;>rfl
 have Qh:∀p,(bj D j).tok p=bD.countP p:=λp=>by rcases xP with h|h<;>rw[show bj D j=_ from h]<;>rfl
 have aqs:(bj D j).ev=0:=by rcases xP with h|h<;>rw[show bj D j=_ from h]<;>rfl
 have afC:(bj D i).said=0:=by rcases NS with h|h<;>rw[show bj D i=_ from h]<;>rfl
 have afB:(bj D j).said=0:=by rcases xP with h|h<;>rw[show bj D j=_ from h]<;>rfl
 have xW:gs.size=C.n+4:=by rcases I.main with⟨k,_,h,_⟩|⟨_,h⟩;subst X6;rcases xP with h'|h'<;>rw[h']at h<;>cases h;exact h
 have apy:(a::bD).length<=C.top:=by have h1:=I.df.tok (λ_=>true);have h2:=Rp (f:=λi=>(bj D i).tok (λ_=>true)) hi hj j9;simp only[h1,Qi,Qh,List.countP_true]at h2;have:=I.df.fits;simp only[List.length_cons,List.length_nil]at h2|-;omega
 have hm:=meet (gs':=gs') (w':=World.setChan (w.at d) C.N.R 0 #[] cr (s+1) (r+1) false) (u:=u) I T hi hj j9 .bg (.aZ (a::bD)) L6 xV hgo lU
  ⟨iO hri (V.eI (VA.empty _)),L.Wu a _ _ hAi⟩ ⟨iO hrj (V.pair (L.Md.2.1 a) true),L.Wx a bD _ _ apy TH⟩ hu
  (λk hk h=>by
   have:=(h.drawn C d).chan C (c:=C.N.R) (by exact hc) (.chan 0 #[] cr (s+1) (r+1) false) d
   exact this)
  (by
   obtain⟨s2,r2,h2⟩:=I.Dm;exact⟨s2,r2,by show(w.heap.setIfInBounds C.N.R _)[C.N.J]? =_;rw[Array.getElem?_setIfInBounds_ne (Ne.symm I.ne.1)];exact h2⟩)
  ⟨s+1,r+1,by
   have aM:C.N.R<w.heap.size:=(Array.getElem?_eq_some_iff.1 hc).1;show(w.heap.setIfInBounds C.N.R _)[C.N.R]? =_;rw[Array.getElem?_setIfInBounds_self_of_lt aM]⟩
  (by show(w.heap.setIfInBounds C.N.R _)[C.N.D]? =_;rw[Array.getElem?_setIfInBounds_ne I.ne.2.2];exact I.Hz)
  ⟨λr q e=>(by rcases NS with h|h<;>rw[h]at e<;>cases e),λr q e=>(by rcases xP with h|h<;>rw[h]at e<;>cases e),λc e=>(by rcases NS with h|h<;>rw[h]at e<;>cases e),λc e=>(by rcases xP with h|h<;>rw[h]at e<;>cases e)⟩
  ⟨λe=>(by subst e;exact absurd X6.symm j9),λ_=>⟨_,rfl⟩,λ_=>xW⟩
  (I.df.two hi hj j9 (.live .bg) (.live (.aZ (a::bD))) (by rw[XF];rfl) (by rw[NT];rfl) (λp=>by
    rw[Qi,Qh];show 0+(a::bD).countP p=_;rw[List.countP_cons,List.countP_cons,List.countP_nil];omega) (by rw[afC,afB];rfl) I.df.le (λk hk _ _=>I.df.cO k hk) lV trivial (λc e=>(by cases e)) (λc e=>(by cases e)) (λk q hk _ _ h=>I.df.p3 k q hk h))
 refine⟨_,hm.1,hm.2,.inl ?_,λk=>(m4 D i j _ _ _ _ k).1⟩;rw[eR,eR];have:=zt (C:=C) (s:=bj D) hi hj j9 (.live .bg) (.live (.aZ (a::bD)));have e1:(St.live ko.bg:St α).ev=2:=rfl;have e2:(St.live (ko.aZ (a::bD)):St α).ev=0:=rfl;show Lg C (upd (upd (bj D) i (.live .bg)) j (.live (.aZ (a::bD))))<_;omega
def nu{i}(hi:i<C.n+4){c0 c}(aS:(D i).st=.live c0)(gr:c.ev=c0.ev)(h:bj D'=upd (bj D) i (.bc c)):UF C D' D:=by
 refine .inr ⟨?_,.inl ?_⟩;rw[h];have:=oE (C:=C) (s:=bj D) hi (.bc c);have e1:(bj D i).ev=c0.ev:=by rw[show bj D i=_ from aS];rfl
 have e2:(St.bc c).ev=c.ev:=rfl;omega;rw[h];have:=aaf (C:=C) (s:=bj D) hi (.bc c);have e1:(bj D i).up=1:=by rw[show bj D i=_ from aS];rfl
 have e2:(St.bc c).up=0:=rfl;omega
def Yx(gs:Array Goroutine){i j}(j9:j≠i)(hi:i<gs.size)(hj:j<gs.size) x y:((gs.setIfInBounds j y).setIfInBounds i x)[i]? =some x/\((gs.setIfInBounds j y).setIfInBounds i x)[j]? =some y/\(∀k,k≠i->k≠j->((gs.setIfInBounds j y).setIfInBounds i x)[k]? =gs[k]?)/\((gs.setIfInBounds j y).setIfInBounds i x).size=gs.size:=by refine⟨by rw[Array.getElem?_setIfInBounds_self_of_lt (by simpa using hi)],?_,λk h1 h2=>?_,by simp⟩;rw[Array.getElem?_setIfInBounds_ne (Ne.symm j9),Array.getElem?_setIfInBounds_self_of_lt hj];rw[Array.getElem?_setIfInBounds_ne (Ne.symm h1),Array.getElem?_setIfInBounds_ne (Ne.symm h2)]
def dF i fn pos:MemOp.ofEvents i fn pos #[]=#[]:=rfl
def qC(L:yW C)(I:Inv C all gs w t D cj cr ag aA){i}(hi:i<C.n+4){c0}(aS:(D i).st=.live c0):∃g',gs[i]? =some g'/\i<gs.size/\GR C.P C.E (D i).X (C.R i) (D i).g g':=by have dO:=I.ok i hi;unfold Ok at dO;rw[aS]at dO;obtain⟨g',hx,jY,_⟩:=dO;exact⟨g',hx,(Array.getElem?_eq_some_iff.1 hx).1,jY⟩
def Ns(L:yW C)(I:Inv C all gs w t D cj cr ag aA)(T:Tr C t D ag aA){i}(hi:i<C.n+4)(aS:(D i).st=.live .bg)(hA:C.N.A .bg (D i).g (D i).v)(hnt:cj=true->Goes C all gs w sl t D i):Goes C all gs w sl t D i:=by
 obtain⟨g',hx,aM,jY⟩:=qC L I hi aS;have lW:=L.act .bg _ _ _ _ _ rfl hA jY (i==0) w;obtain⟨s,r,hc⟩:=I.Dm;cases Oc:cj with
 |true=>exact hnt Oc|false=>
 subst Oc;by_cases hp:partners (gs.setIfInBounds i ph) C.N.J true=[];have uD:∀j a rem,j<C.n+4->(D j).st≠.bc (.cT a rem):=λj a rem hj e=>by
  have dO:=I.ok j hj;unfold Ok at dO;rw[e]at dO;obtain⟨g2,hg2,_⟩:=dO;have aR:j≠i:=λe2=>by subst e2;rw[aS]at e;cases e
  have:(j,0)∈partners (gs.setIfInBounds i ph) C.N.J true:=mem_partners.2 ⟨_,(by rw[Array.getElem?_setIfInBounds_ne (Ne.symm aR)];exact hg2),by rw[mG];simp[Net.chan]⟩;rw[hp]at this;cases this
 have lV:cr=false:=by have:=I.df.cO i hi;rw[show bj D i=_ from aS]at this;exact this
 obtain⟨gs',w',u,D',h1,h2,h3,h4⟩:=ns (sl:=sl) L I T hi aS hA rfl rfl (λ_=>rfl) (λcc nD=>by
 have:cc=rcase C.N.J C.N.zJ:=by simpa[Net.cases]using nD
 subst this;exact ways_recv_none hc hp) ⟨rfl,lV⟩ (λ_=>uD) (λa rem e=>by cases e) (λa e=>by cases e) (λa e=>by cases e) (λa e=>by cases e) (λe=>by subst e;have:=I.df.role 0 hi;rw[show bj D 0=_ from aS]at this;simp[kp.rl,St.role,ko.role]at this)
 exact⟨gs',w',u,D',_,_,_,_,h1,h2,h3,nu hi aS rfl h4.1,h4.2⟩;have gJ:∀j k,(j,k)∈partners (gs.setIfInBounds i ph) C.N.J true->k=0/\j≠i/\∃gj vj zj Pt,gs[j]? =some (parked gj #[scase C.N.J vj zj] Pt):=by intro j k hm;obtain⟨h1,h2,h3,c,g2,h4,h5,h6,_⟩:=I.partner hm;refine⟨h1,h2,?_⟩;cases c<;>simp only[Net.chan,Option.some.injEq,Prod.mk.injEq,Bool.false_eq_true,and_false,reduceCtorEq,and_true]at h5;exact absurd h5.symm I.ne.1;exact absurd h5.symm I.ne.2.1;exact⟨_,_,_,_,h6⟩
 obtain⟨j,gj,vj,zj,Pt,d,aR,xV,cD⟩:=crowd_recv_meets_some (P:=C.P) (sl:=sl) hx lW hc hp gJ;obtain⟨kS,c,qk,ep,nA,Ce,TH⟩:=I.parked xV;have mJ:=I.df.cO j kS;rw[show bj D j=_ from qk]at mJ;cases c with
 |cT a rem=>obtain⟨_,hv⟩:=qK ep;subst hv;subst nA;simp only[Net.shape,finishComm_send,finishComm_recv,dF,Array.empty_append,recvd,if_true]at cD;have hjs:j<gs.size:=(Array.getElem?_eq_some_iff.1 xV).1;obtain⟨a1,a2,a3,a4⟩:=Yx gs aR aM hjs (Go.Conc.served g' (.tuple #[C.N.jv a,.bool true])) (Go.Conc.served gj undef);obtain⟨D',b1,b2,b3,b4⟩:=J0 (gs':=(gs.setIfInBounds j (Go.Conc.served gj undef)).setIfInBounds i (Go.Conc.served g' (.tuple #[C.N.jv a,.bool true]))) L I T kS hi (.inr qk) (.inl aS) TH hA a2 a1 (λk h1 h2=>a3 k h2 h1) a4 Ce (kh jY) (lr j i gj.frame.fn g'.frame.fn gj.frame.place g'.frame.place C.N.J s r 0) (d:=d) hc;exact⟨_,_,_,D',_,_,_,_,cD,b1,b2,b3,gI b4 (.inl rfl) rfl rfl rfl rfl⟩
 |bg=>exact(dq ep.symm).elim|b8 a=>exact absurd (qK ep).1 I.ne.1
 |br k=>exact(dq ep.symm).elim|aZ g=>exact(dq ep.symm).elim
 |_=>exact mJ.elim
end
end Ph
namespace Ph
open Go.Conc Rn
open Go.ConcN (sumTo upd sumTo_upd upd_ne upd_same le_sumTo)
open Tp (cN Term Ld)
variable{α:Type}{C:kp α}
section
variable{all:List α}{gs gs':Array Goroutine}{w w':World}{t u:Trace}{D D':Nat->Pd α}{cj cr cj' cr':Bool}{ag aA sent' rcvd':Nat}{sl:Option (Nat×Nat)}
def Inv.waits(I:Inv C all gs w t D cj cr ag aA){i ch b c0}(aS:(D i).st=.live c0)(hp:partners (gs.setIfInBounds i ph) ch b=[]){j}(hj:j<C.n+4){c}(hc:C.N.chan c=some (ch,b)):(D j).st≠.bc c:=λe=>by
 have dO:=I.ok j hj;unfold Ok at dO;rw[e]at dO;obtain⟨g2,hg2,_⟩:=dO;have aR:j≠i:=λe2=>by subst e2;rw[aS]at e;cases e
 have:(j,0)∈partners (gs.setIfInBounds i ph) ch b:=mem_partners.2 ⟨_,(by rw[Array.getElem?_setIfInBounds_ne (Ne.symm aR)];exact hg2),by rw[mG,if_pos hc];simp⟩;rw[hp]at this;cases this
def Inv.mn(I:Inv C all gs w t D cj cr ag aA){i}(hi:i<C.n+4){c0}(aS:(D i).st=.live c0)(hr:c0.role≠3):i≠0:=λe=>by subst e;have:=I.df.role 0 hi;rw[show bj D 0=_ from aS]at this;simp[kp.rl]at this;exact hr this
def Np(L:yW C)(I:Inv C all gs w t D cj cr ag aA)(T:Tr C t D ag aA){i}(hi:i<C.n+4){r0}(aS:(D i).st=.live (.feed r0)){a rem}(KE:r0.Perm (a::rem))(hA:C.N.A (.cT a rem) (D i).g (D i).v):Goes C all gs w sl t D i:=by
 obtain⟨g',hx,aM,jY⟩:=qC L I hi aS;have lW:=L.act (.cT a rem) _ _ _ _ _ rfl hA jY (i==0) w;obtain⟨s,r,hc⟩:=I.Dm;have cX:cj=false/\cr=false/\aA=0:=by have:=I.df.cO i hi;rw[show bj D i=_ from aS]at this;exact this
 obtain⟨rfl,lV⟩:=cX;by_cases hp:partners (gs.setIfInBounds i ph) C.N.J false=[];obtain⟨gs',w',u,D',h1,h2,h3,h4⟩:=ns (sl:=sl) L I T hi aS hA rfl rfl (λp=>(KE.countP_eq p).symm) (λcc nD=>by
 have:cc=scase C.N.J (C.N.jv a) (.tuple #[]):=by simpa[Net.cases]using nD
 subst this;exact ways_send_none hc (by simp) hp) ⟨rfl,lV⟩ (λe=>by cases e) (λa' DD e j hj=>I.waits aS hp hj rfl) (λa e=>by cases e) (λa e=>by cases e) (λa e=>by cases e) (λe=>absurd e (I.mn hi aS (by simp[ko.role])))
 exact⟨gs',w',u,D',_,_,_,_,h1,h2,h3,nu hi aS (by show 7+2*(rem.length+1)=7+2*r0.length;rw[KE.length_eq];rfl) h4.1,h4.2⟩;have gJ:∀j k,(j,k)∈partners (gs.setIfInBounds i ph) C.N.J false->k=0/\j≠i/\∃gj zj Pt,gs[j]? =some (parked gj #[rcase C.N.J zj] Pt):=by intro j k hm;obtain⟨h1,h2,h3,c,g2,h4,h5,h6,_⟩:=I.partner hm;refine⟨h1,h2,?_⟩;cases c<;>simp only[Net.chan,Option.some.injEq,Prod.mk.injEq,and_false,reduceCtorEq,and_true]at h5;exact⟨_,_,_,h6⟩;exact absurd h5.symm I.ne.2.1;exact absurd h5.symm I.ne.1
 obtain⟨j,gj,zj,Pt,d,aR,xV,cD⟩:=crowd_send_meets_some (P:=C.P) (sl:=sl) hx lW hc hp gJ;obtain⟨kS,c,qk,ep,nA,Ce,TH⟩:=I.parked xV;have mJ:=I.df.cO j kS;rw[show bj D j=_ from qk]at mJ;cases c with
 |bg=>subst nA;simp only[Net.shape,finishComm_send,finishComm_recv,dF,Array.empty_append,recvd,if_true]at cD;have hjs:j<gs.size:=(Array.getElem?_eq_some_iff.1 xV).1;obtain⟨a1,a2,a3,a4⟩:=Yx gs aR aM hjs (Go.Conc.served g' undef) (Go.Conc.served gj (.tuple #[C.N.jv a,.bool true]));obtain⟨D',b1,b2,b3,b4⟩:=J0 (gs':=(gs.setIfInBounds j (Go.Conc.served gj (.tuple #[C.N.jv a,.bool true]))).setIfInBounds i (Go.Conc.served g' undef)) L I T hi kS (.inl ⟨r0,aS,KE⟩) (.inr qk) hA TH a1 a2 a3 a4 (kh jY) Ce (lr i j g'.frame.fn gj.frame.fn g'.frame.place gj.frame.place C.N.J s r 0) (d:=d) hc;exact⟨_,_,_,D',_,_,_,_,cD,b1,b2,b3,gI b4 (.inl rfl) rfl rfl rfl rfl⟩
 |cT a rem=>exact(dq ep).elim|b8 a=>exact(dq ep).elim
 |br k=>exact absurd (kX ep) I.ne.2.1|aZ g=>exact absurd (kX ep) I.ne.1
 |_=>exact mJ.elim
def No(L:yW C)(I:Inv C all gs w t D cj cr ag aA)(T:Tr C t D ag aA){i}(hi:i<C.n+4){a}(aS:(D i).st=.live (.b8 a))(hA:C.N.A (.b8 a) (D i).g (D i).v):Goes C all gs w sl t D i:=by
 obtain⟨g',hx,aM,jY⟩:=qC L I hi aS;have lW:=L.act (.b8 a) _ _ _ _ _ rfl hA jY (i==0) w;obtain⟨s,r,hc⟩:=I.DZ;have lV:cr=false:=by have:=I.df.cO i hi;rw[show bj D i=_ from aS]at this;exact this
 subst lV;by_cases hp:partners (gs.setIfInBounds i ph) C.N.R false=[];obtain⟨gs',w',u,D',h1,h2,h3,h4⟩:=ns (sl:=sl) L I T hi aS hA rfl rfl (λp=>rfl) (λcc nD=>by
 have:cc=scase C.N.R (C.N.fv a) (.tuple #[]):=by simpa[Net.cases]using nD
 subst this;exact ways_send_none hc (by simp) hp) rfl (λe=>by cases e) (λa' DD e=>by cases e) (λa' e j g hj=>I.waits aS hp hj rfl) (λa e=>by cases e) (λa e=>by cases e) (λe=>absurd e (I.mn hi aS (by simp[ko.role])))
 exact⟨gs',w',u,D',_,_,_,_,h1,h2,h3,nu hi aS rfl h4.1,h4.2⟩;have gJ:∀j k,(j,k)∈partners (gs.setIfInBounds i ph) C.N.R false->k=0/\j≠i/\∃gj zj Pt,gs[j]? =some (parked gj #[rcase C.N.R zj] Pt):=by intro j k hm;obtain⟨h1,h2,h3,c,g2,h4,h5,h6,_⟩:=I.partner hm;refine⟨h1,h2,?_⟩;cases c<;>simp only[Net.chan,Option.some.injEq,Prod.mk.injEq,and_false,reduceCtorEq,and_true]at h5;exact absurd h5 I.ne.1;exact absurd h5.symm I.ne.2.2;exact⟨_,_,_,h6⟩
 obtain⟨j,gj,zj,Pt,d,aR,xV,cD⟩:=crowd_send_meets_some (P:=C.P) (sl:=sl) hx lW hc hp gJ;obtain⟨kS,c,qk,ep,nA,Ce,TH⟩:=I.parked xV;have mJ:=I.df.cO j kS;rw[show bj D j=_ from qk]at mJ;cases c with
 |aZ bD=>subst nA;simp only[Net.shape,finishComm_send,finishComm_recv,dF,Array.empty_append,recvd,if_true]at cD;have hjs:j<gs.size:=(Array.getElem?_eq_some_iff.1 xV).1;obtain⟨a1,a2,a3,a4⟩:=Yx gs aR aM hjs (Go.Conc.served g' undef) (Go.Conc.served gj (.tuple #[C.N.fv a,.bool true]));obtain⟨D',b1,b2,b3,b4⟩:=JZ (gs':=(gs.setIfInBounds j (Go.Conc.served gj (.tuple #[C.N.fv a,.bool true]))).setIfInBounds i (Go.Conc.served g' undef)) L I T hi kS (.inl aS) (.inr qk) hA TH a1 a2 a3 a4 (kh jY) Ce (lr i j g'.frame.fn gj.frame.fn g'.frame.place gj.frame.place C.N.R s r 0) (d:=d) hc;exact⟨_,_,_,D',_,_,_,_,cD,b1,b2,b3,gI b4 (.inr (.inl rfl)) rfl rfl rfl rfl⟩
 |cT a rem=>exact(dq ep).elim|b8 a=>exact(dq ep).elim
 |br k=>exact absurd (kX ep) I.ne.2.2|bg=>exact absurd (kX ep).symm I.ne.1
 |_=>exact mJ.elim
def Nr(L:yW C)(I:Inv C all gs w t D cj cr ag aA)(T:Tr C t D ag aA){i}(hi:i<C.n+4){bD}(aS:(D i).st=.live (.aZ bD))(hA:C.N.A (.aZ bD) (D i).g (D i).v)(lV:cr=false):Goes C all gs w sl t D i:=by
 obtain⟨g',hx,aM,jY⟩:=qC L I hi aS;have lW:=L.act (.aZ bD) _ _ _ _ _ rfl hA jY (i==0) w;obtain⟨s,r,hc⟩:=I.DZ;subst lV;by_cases hp:partners (gs.setIfInBounds i ph) C.N.R true=[];obtain⟨gs',w',u,D',h1,h2,h3,h4⟩:=ns (sl:=sl) L I T hi aS hA rfl rfl (λp=>rfl) (λcc nD=>by
 have:cc=rcase C.N.R C.N.zR:=by simpa[Net.cases]using nD
 subst this;exact ways_recv_none hc hp) rfl (λe=>by cases e) (λa' DD e=>by cases e) (λa' e=>by cases e) (λg e j a hj=>I.waits aS hp hj rfl) (λa e=>by cases e) (λe=>⟨bD,rfl,rfl⟩)
 exact⟨gs',w',u,D',_,_,_,_,h1,h2,h3,nu hi aS rfl h4.1,h4.2⟩;have gJ:∀j k,(j,k)∈partners (gs.setIfInBounds i ph) C.N.R true->k=0/\j≠i/\∃gj vj zj Pt,gs[j]? =some (parked gj #[scase C.N.R vj zj] Pt):=by intro j k hm;obtain⟨h1,h2,h3,c,g2,h4,h5,h6,_⟩:=I.partner hm;refine⟨h1,h2,?_⟩;cases c<;>simp only[Net.chan,Option.some.injEq,Prod.mk.injEq,Bool.false_eq_true,and_false,reduceCtorEq,and_true]at h5;exact⟨_,_,_,_,h6⟩;exact absurd h5.symm I.ne.2.2;exact absurd h5 I.ne.1
 obtain⟨j,gj,vj,zj,Pt,d,aR,xV,cD⟩:=crowd_recv_meets_some (P:=C.P) (sl:=sl) hx lW hc hp gJ;obtain⟨kS,c,qk,ep,nA,Ce,TH⟩:=I.parked xV;have mJ:=I.df.cO j kS;rw[show bj D j=_ from qk]at mJ;cases c with
 |b8 a=>obtain⟨_,hv⟩:=qK ep;subst hv;subst nA;simp only[Net.shape,finishComm_send,finishComm_recv,dF,Array.empty_append,recvd,if_true]at cD;have hjs:j<gs.size:=(Array.getElem?_eq_some_iff.1 xV).1;obtain⟨a1,a2,a3,a4⟩:=Yx gs aR aM hjs (Go.Conc.served g' (.tuple #[C.N.fv a,.bool true])) (Go.Conc.served gj undef);obtain⟨D',b1,b2,b3,b4⟩:=JZ (gs':=(gs.setIfInBounds j (Go.Conc.served gj undef)).setIfInBounds i (Go.Conc.served g' (.tuple #[C.N.fv a,.bool true]))) L I T kS hi (.inr qk) (.inl aS) TH hA a2 a1 (λk h1 h2=>a3 k h2 h1) a4 Ce (kh jY) (lr j i gj.frame.fn g'.frame.fn gj.frame.place g'.frame.place C.N.R s r 0) (d:=d) hc;exact⟨_,_,_,D',_,_,_,_,cD,b1,b2,b3,gI b4 (.inr (.inl rfl)) rfl rfl rfl rfl⟩
 |cT a rem=>exact absurd (qK ep).1.symm I.ne.1|bg=>exact(dq ep.symm).elim
 |br k=>exact(dq ep.symm).elim|aZ g=>exact(dq ep.symm).elim
 |_=>exact mJ.elim
end
end Ph
namespace Ph
open Go.Conc Rn
open Go.ConcN (sumTo upd sumTo_upd upd_ne upd_same le_sumTo)
open Tp (cN Term Ld)
variable{α:Type}{C:kp α}
section
variable{all:List α}{gs gs':Array Goroutine}{w w':World}{t u:Trace}{D D':Nat->Pd α}{cj cr cj' cr':Bool}{ag aA sent' rcvd':Nat}{sl:Option (Nat×Nat)}
def jr.recv{j}(h:jr C t j ag aA){u z}(hg:z.g=C.n+3)(hz:z.act=.recvDone C.N.D aA)(hd:Deaf t (C.n+3)=0)(hu:Quiet u)(hle:aA<=ag):jr C (t++(u++#[z])) j ag (aA+1):=by
 have hq:∀op∈u++#[z],op.g=j->op.act.touch? =none:=by
  intro op cI _;rcases Array.mem_append.1 cI with h1|h1;exact(hu op h1).1;have:op=z:=by simpa using h1
  subst this;rw[hz];rfl
 obtain⟨s,k,y,h1,h2,h3,h4,h5,h6,h7⟩:=h;have aM:=lt_size_of_getElem? h1;obtain⟨s',k',y',g1,g2,g3,g4,g5,g6,g7⟩:=jr.app (C:=C) (t:=t) (u:=u++#[z]) (i:=j) (sent':=ag) ⟨s,k,y,h1,h2,h3,h4,h5,h6,h7⟩ hq ν;have Ca:(t++(u++#[z]))[s]? =some y:=by rw[getElem?_append_old aM];exact h1
 refine⟨s,k,y,Ca,h2,h3,h4,(heard_old aM).2 h5,λp y2 a hp hy ha=>?_,λhk=>?_⟩;rcases getElem?_append_cases hp with⟨_,KF⟩|⟨_,UK⟩;exact h6 p y2 a KF hy ha;rw[hq y2 UK hy]at ha;cases ha;by_cases hkr:k<aA;exact(h7 hkr).app _;have UP:k=aA:=by omega
 subst UP;have dX:(t++(u++#[z]))[t.size+u.size]? =some z:=by rw[<-Array.append_assoc,Array.getElem?_append_right (by simp)];simp
 have hh:(t++(u++#[z])).heard (t.size+u.size):=by
  refine⟨C.n+3,by rw[Trace.g?,dX];simp[hg],?_⟩;rw[<-Array.append_assoc];have:t.size+u.size=(t++u).size:=by simp
  rw[this,deaf_old ν];exact(hu.deaf t (C.n+3)).trans hd
 refine⟨t.size+u.size,z,dX,hg,.inr (.single (.inr ⟨.handOver (c:=C.N.D) (k:=k) (by rw[act?_of Ca,h3]) (by rw[act?_of dX,hz]),(heard_old aM).2 h5,hh⟩))⟩
def acY(I:Inv C all gs w t D cj cr ag aA)(T:Tr C t D ag aA){i}(hi:i<C.n+4)(h0:i≠0){c0}(aS:(D i).st=.live c0){xi} ci{gi} (L6:gs'[i]? =some xi) (hgo:∀k,k≠i->gs'[k]? =gs[k]?) (lU:gs'.size=gs.size) (NV:GR C.P C.E (D i).X (C.R i) gi xi/\Term C.P (C.N.Stop ci) gi (D i).v) (hu:Quiet u) (hw:∀k,k<C.n+4->jq C w (D k)->jq C w' (D k)) (hJ:∃s r,w'.heap[C.N.J]? =some (.chan 0 #[] cj' s r false)) (hR:∃s r,w'.heap[C.N.R]? =some (.chan 0 #[] cr' s r false)) (hD:w'.heap[C.N.D]? =some (.chan 3 (Array.replicate (sent'-rcvd') C.N.dv) false sent' rcvd' false)) (hs:∀k q,k<C.n+4->(D k).st=.old 1 q->jr C (t++u) k sent' rcvd') (df:zB C all (upd (bj D) i (.live ci)) cj' cr' sent' rcvd') (gr:ci.ev<c0.ev):∃D',Inv C all gs' w' (t++u) D' cj' cr' sent' rcvd'/\Tr C (t++u) D' sent' rcvd'/\UF C D' D/\∀k,(D' k).X=(D k).X:=by
 have hS:=pC D i (.live ci) gi;have lI:=eR D i ((D i).to (.live ci) gi);refine⟨_,I.quiet hS hu (λk hk=>?_) (by rw[lU];exact I.size) hw ?_ hJ hR hD (by rw[lI];exact df),T.quiet I hS hu (λk c' e=>?_) (λk r q e=>?_) (λk q hk e=>?_) (λq e=>?_),.inl ?_,λk=>(hS k).1⟩;by_cases h1:k=i;subst h1;refine .inr ?_;rw[upd_same,L6];exact⟨_,rfl,NV.1,NV.2⟩;exact .inl ⟨upd_ne D _ h1,hgo k h1⟩;rw[upd_ne D _ (Ne.symm h0),lU];exact I.main;by_cases h1:k=i;subst h1;rw[aS]at e;cases e;exact⟨c',by rw[upd_ne D _ h1];exact e⟩;by_cases h1:k=i;subst h1;rw[aS]at e;cases e;exact⟨r,q,by rw[upd_ne D _ h1];exact e⟩;by_cases h1:k=i;subst h1;rw[upd_same]at e;cases e;rw[upd_ne D _ h1]at e;exact hs k q hk e;by_cases h1:C.n+3=i;rw[h1,upd_same]at e;cases e;rw[upd_ne D _ h1]at e;exact⟨q,e⟩;rw[lI];have:=oE (C:=C) (s:=bj D) hi (.live ci);have e1:(bj D i).ev=c0.ev:=by rw[show bj D i=_ from aS];rfl
 have e2:(St.live ci).ev=ci.ev:=rfl;show Lg C (upd (bj D) i (.live ci))<_;omega
def SW(L:yW C)(I:Inv C all gs w t D cj cr ag aA)(T:Tr C t D ag aA){i}(hi:i<C.n+4)(aS:(D i).st=.live .bg)(hA:C.N.A .bg (D i).g (D i).v)(Oc:cj=true):Goes C all gs w sl t D i:=by
 obtain⟨g',hx,aM,jY⟩:=qC L I hi aS;have lW:=L.act .bg _ _ _ _ _ rfl hA jY (i==0) w;obtain⟨s,r,hc⟩:=I.Dm;have lV:cr=false:=by have:=I.df.cO i hi;rw[show bj D i=_ from aS]at this;exact this
 subst Oc;subst lV;have hp:partners (gs.setIfInBounds i ph) C.N.J true=[]:=I.vV λj c hj hc e=>by have cX:=I.df.cO j hj;rw[show bj D j=_ from hc]at cX;cases c<;>simp only[Net.chan,Option.some.injEq,Prod.mk.injEq,Bool.false_eq_true,and_false,reduceCtorEq,and_true]at e;exact I.ne.1 e.symm;exact cX.elim;exact absurd cX.1 (by simp)
 have cD:=crowd_recv_closed (P:=C.P) (sl:=sl) hx lW hc hp;simp only[Net.shape,finishComm_recv,dF,Array.empty_append,recvd,if_true]at cD;have e1:bj D i=.live .bg:=aS;obtain⟨D',b1,b2,b3,b4⟩:=acY (gs':=gs.setIfInBounds i (Go.Conc.served g' (.tuple #[C.N.zJ,.bool false]))) (w':=w) (u:=#[{g:=i,fn:=g'.frame.fn,pos:=g'.frame.place,act:=.recvClosed C.N.J}]) (cj':=true) (cr':=false) (sent':=ag) (rcvd':=aA) I T hi (I.mn hi aS (by simp[ko.role])) aS .fi
  (by rw[Array.getElem?_setIfInBounds_self_of_lt aM]) (λk hk=>Array.getElem?_setIfInBounds_ne (Ne.symm hk)) (by simp)
  ⟨iO (kh jY) (V.pair L.Md.2.2.2.1 false),L.ac6 _ _ hA⟩
  (λop cI=>by simp at cI;subst cI;exact⟨rfl,λm=>by simp⟩) (λ_ _ h=>h) I.Dm I.DZ I.Hz
  (λk q hk e=>(T.said k q hk e).app (λop cI _=>by simp at cI;subst cI;rfl) ν)
  (I.df.one hi _ (by rw[e1];rfl) (λp=>by rw[e1];rfl) (by rw[e1];rfl) ⟨rfl,rfl⟩ (λc e=>by cases e)) (by simp[ko.ev])
 exact⟨_,_,_,D',_,_,_,_,cD,b1,b2,b3,jX b4 rfl rfl rfl rfl⟩
def Nt(L:yW C)(I:Inv C all gs w t D cj cr ag aA)(T:Tr C t D ag aA){i}(hi:i<C.n+4){k}(aS:(D i).st=.live (.br k))(hA:C.N.A (.br k) (D i).g (D i).v):Goes C all gs w sl t D i:=by
 obtain⟨g',hx,aM,jY⟩:=qC L I hi aS;have lW:=L.act (.br k) _ _ _ _ _ rfl hA jY (i==0) w;have hc:=I.Hz;have cX:cj=true/\cr=false/\aA=k/\k<3:=by have:=I.df.cO i hi;rw[show bj D i=_ from aS]at this;exact this
 obtain⟨rfl,rfl,rfl,DO⟩:=cX;have e1:bj D i=.live (.br aA):=aS;have US:i=C.n+3:=by
  have h1:=I.df.role i hi;have h2:C.rl (C.n+3)=2:=by unfold kp.rl;rw[if_neg (by omega),if_neg (by omega),if_neg (by omega)]
  refine nY I.pos hi (by omega) ?_ (.inl ?_);rw[h2,<-h1,e1];rfl;rw[<-h1,e1];rfl
 have hp:partners (gs.setIfInBounds i ph) C.N.D true=[]:=I.vV λj c hj hc e=>by have cX:=I.df.cO j hj;rw[show bj D j=_ from hc]at cX;cases c<;>simp only[Net.chan,Option.some.injEq,Prod.mk.injEq,Bool.false_eq_true,and_false,reduceCtorEq,and_true]at e;exact I.ne.2.2 e;exact cX.elim;exact I.ne.2.1 e
 by_cases hs:ag=aA;subst hs;obtain⟨gs',w',u,D',h1,h2,h3,h4⟩:=ns (sl:=sl) L I T hi aS hA rfl rfl (λp=>rfl) (λcc nD=>by
 have:cc=rcase C.N.D C.N.zD:=by simpa[Net.cases]using nD
 subst this;refine ways_recv_none (cap:=3) (s:=ag) (r:=ag) (tm:=false) ?_ hp;rw[hc];simp) ⟨rfl,rfl,rfl,DO⟩ (λe=>by cases e) (λa' DD e=>by cases e) (λa' e=>by cases e) (λg e=>by cases e) (λk e=>rfl) (λe=>absurd e (I.mn hi aS (by simp[ko.role])))
 exact⟨gs',w',u,D',_,_,_,_,h1,h2,h3,nu hi aS rfl h4.1,h4.2⟩;have hle:=I.df.le;have lU:0< (Array.replicate (ag-aA) C.N.dv).size:=by simp;omega
 have cD:=crowd_recv_buf (P:=C.P) (sl:=sl) hx lW hc lU hp;have mM:(Array.replicate (ag-aA) C.N.dv).getD 0 undef=C.N.dv:=by rw[Array.getD_eq_getD_getElem?,Array.getElem?_replicate,if_pos (by omega)];rfl
 have aqr:(Array.replicate (ag-aA) C.N.dv).extract 1 (Array.replicate (ag-aA) C.N.dv).size=Array.replicate (ag-(aA+1)) C.N.dv:=by rw[Array.extract_replicate];congr 1;simp;omega
 simp only[Net.shape,finishComm_recv,dF,Array.empty_append,mM,aqr]at cD;have qb:recvd false C.N.dv true=C.N.dv:=rfl;rw[qb]at cD;have qe:C.N.D<w.heap.size:=(Array.getElem?_eq_some_iff.1 hc).1;have XQ:∃ci:ko α,Term C.P (C.N.Stop ci) (Go.Conc.served (D i).g C.N.dv) (D i).v/\ci.role=2/\(∀p,ci.tok p=0)/\Zs true false (aA+1) ci/\fj true false (aA+1) (.live ci)/\ci.ev<5-aA:=by by_cases h2:aA=2;subst h2;exact⟨.dh,L.GM _ _ hA,rfl,λ_=>rfl,⟨rfl,rfl,rfl⟩,⟨rfl,rfl,rfl⟩,by simp[ko.ev]⟩;refine⟨.br (aA+1),L.Nl aA _ _ (by omega) hA,rfl,λ_=>rfl,⟨rfl,rfl,rfl,by omega⟩,⟨rfl,rfl,rfl,by omega⟩,?_⟩;show 5-(aA+1)<5-aA;omega
 obtain⟨ci,c1,c2,c3,c4,c5,c6⟩:=XQ;have hu:Quiet #[{g:=i,fn:=g'.frame.fn,pos:=g'.frame.place,act:=.recv C.N.D aA 3},{g:=i,fn:=g'.frame.fn,pos:=g'.frame.place,act:=.recvDone C.N.D aA}]:=by intro op cI;simp at cI;rcases cI with rfl|rfl<;>exact⟨rfl,λm=>by simp⟩
 have rS:C.gZ i:=I.gZ hi (by rw[aS];exact j4 (α:=α) (.br aA));have qd:∀j,j<C.n+4->j≠i->fj true false (aA+1) (bj D j)/\(∀q,bj D j=.bc (.br q)->False):=by
  intro j hj aR;have h1:=I.df.cO j hj;have h2:=I.df.role j hj;have mR:C.rl j≠2:=λe=>aR (nY I.pos hj hi (by rw[e,<-I.df.role i hi,e1];rfl) (.inl e));cases xP:bj D j with
  |old r q=>
   rw[xP]at h1 h2;refine⟨?_,λq e=>by cases e⟩;match r,h1,h2 with
   |0,_,_=>exact trivial
   |1,h1,_=>exact h1
   |2,_,h2=>exact absurd h2.symm mR
   |r+3,_,_=>exact trivial
  |bS c=>rw[xP]at h1 h2;refine⟨?_,λq e=>by cases e⟩;cases c<;>first|exact h1|exact absurd h2.symm mR
  |born c=>rw[xP]at h1 h2;refine⟨?_,λq e=>by cases e⟩;cases c<;>first|exact h1|exact absurd h2.symm mR
  |live c=>rw[xP]at h1 h2;refine⟨?_,λq e=>by cases e⟩;cases c<;>first|exact h1|exact absurd h2.symm mR
  |bc c=>rw[xP]at h1 h2;refine⟨?_,λq e=>by cases e;exact absurd h2.symm mR⟩;cases c<;>first|exact h1|exact absurd h2.symm mR
 obtain⟨D',b1,b2,b3,b4⟩:=acY (gs':=gs.setIfInBounds i (Go.Conc.served g' C.N.dv)) (w':=World.setChan w C.N.D 3 (Array.replicate (ag-(aA+1)) C.N.dv) false ag (aA+1) false) (u:=#[{g:=i,fn:=g'.frame.fn,pos:=g'.frame.place,act:=.recv C.N.D aA 3},{g:=i,fn:=g'.frame.fn,pos:=g'.frame.place,act:=.recvDone C.N.D aA}]) (cj':=true) (cr':=false) (sent':=ag) (rcvd':=aA+1) I T hi (I.mn hi aS (by simp[ko.role])) aS ci
  (by rw[Array.getElem?_setIfInBounds_self_of_lt aM]) (λk hk=>Array.getElem?_setIfInBounds_ne (Ne.symm hk)) (by simp)
  ⟨iO (kh jY) (L.Md.2.2.1.self _),c1⟩ hu
  (λk hk h=>by
   have:=h.chan C (c:=C.N.D) hc (.chan 3 (Array.replicate (ag-(aA+1)) C.N.dv) false ag (aA+1) false) w.drawn;exact this)
  (by obtain⟨s2,r2,h2⟩:=I.Dm;exact⟨s2,r2,by show(w.heap.setIfInBounds C.N.D _)[C.N.J]? =_;rw[Array.getElem?_setIfInBounds_ne (Ne.symm I.ne.2.1)];exact h2⟩)
  (by obtain⟨s2,r2,h2⟩:=I.DZ;exact⟨s2,r2,by show(w.heap.setIfInBounds C.N.D _)[C.N.R]? =_;rw[Array.getElem?_setIfInBounds_ne (Ne.symm I.ne.2.2)];exact h2⟩)
  (by show(w.heap.setIfInBounds C.N.D _)[C.N.D]? =_;rw[Array.getElem?_setIfInBounds_self_of_lt qe])
  (λj q hj e=>by
   have hd:Deaf t i=0:=T.deaf i rS λr q e=>by rw[aS]at e;cases e
   have:=(T.said j q hj e).recv (z:={g:=i,fn:=g'.frame.fn,pos:=g'.frame.place,act:=.recvDone C.N.D aA}) (u:=#[{g:=i,fn:=g'.frame.fn,pos:=g'.frame.place,act:=.recv C.N.D aA 3}]) US rfl (by rw[<-US];exact hd) (λop cI=>by simp at cI;subst cI;exact⟨rfl,λm=>by simp⟩) (by omega)
   simpa using this)
  (I.df.zL (λj hj=>by
    by_cases aR:j=i
    ·subst aR;rw[upd_same,e1];exact c2
    ·rw[upd_ne _ _ aR]) (λp=>by
    have:=sumTo_upd (bj D) (.live ci) (λy=>y.tok p) hi
    have e2:(bj D i).tok p=0:=by rw[e1];rfl
    have e3:(St.live ci).tok p=0:=c3 p;omega) (by omega) (by
    have:=sumTo_upd (bj D) (.live ci) (λy=>y.said) hi
    have e2:(bj D i).said=0:=by rw[e1];rfl
    have e3:(St.live ci).said=0:=rfl;have e4:=I.df.said;omega) (λj hj=>by
    by_cases aR:j=i
    ·subst aR;rw[upd_same];exact c5
    ·rw[upd_ne _ _ aR];exact(qd j hj aR).1) (λj c hj e=>by
    by_cases aR:j=i
    ·subst aR;rw[upd_same]at e;cases e
    ·rw[upd_ne _ _ aR]at e;exact e) (λj q hj e=>by
    by_cases aR:j=i
    ·subst aR;rw[upd_same]at e;cases e
    ·rw[upd_ne _ _ aR]at e;exact((qd j hj aR).2 q e).elim)) c6
 exact⟨_,_,_,D',_,_,_,_,cD,b1,b2,b3,gI b4 (.inr (.inr rfl)) rfl rfl rfl rfl⟩
end
end Ph
namespace Ph
open Go.Conc Rn
open Go.ConcN (sumTo upd sumTo_upd upd_ne upd_same le_sumTo)
open Tp (cN Term Ld)
variable{α:Type}{C:kp α}
section
variable{all:List α}{gs gs':Array Goroutine}{w w':World}{t u:Trace}{D D':Nat->Pd α}{cj cr cj' cr':Bool}{ag aA sent' rcvd':Nat}{sl:Option (Nat×Nat)}
def me(hp:0<C.n):sumTo (C.n+4) (λi=>if C.rl i=1 then 1 else 0)=3:=by
 have h0:∀m,m<=C.n->sumTo m (λi=>if C.rl i=1 then 1 else 0)=0:=by
  intro m;induction m with
  |zero=>intro _;rfl|succ m ih=>
  intro hm;show sumTo m _+(if C.rl m=1 then 1 else 0)=0;rw[ih (by omega)];have:C.rl m≠1:=by unfold kp.rl;split;omega;rw[if_pos (by omega)];omega
  rw[if_neg this]
 have h1:∀j,j<3->C.rl (C.n+j)=1:=λj hj=>by unfold kp.rl;rw[if_neg (by omega),if_neg (by omega),if_pos (by omega)]
 have h3:C.rl (C.n+3)≠1:=by unfold kp.rl;rw[if_neg (by omega),if_neg (by omega),if_neg (by omega)];omega
 show sumTo C.n _+(if C.rl C.n=1 then 1 else 0)+(if C.rl (C.n+1)=1 then 1 else 0)+(if C.rl (C.n+2)=1 then 1 else 0)+(if C.rl (C.n+3)=1 then 1 else 0)=3;rw[h0 C.n ν,if_pos (show C.rl C.n=1 from h1 0 (by omega)),if_pos (h1 1 (by omega)),if_pos (h1 2 (by omega)),if_neg h3]
def Gf(s:St α):s.said<=if s.role=1 then 1 else 0:=by
 cases s with
 |old r q=>
  match r with
  |0=>exact Nat.zero_le _
  |1=>exact ν
  |r+2=>exact Nat.zero_le _
 |_=>exact Nat.zero_le _
def zB.aaz{s}(h:zB C all s cj cr ag aA)(hp:0<C.n){i}(hi:i<C.n+4)(hr:(s i).role=1)(hs:(s i).said=0):ag<3:=by
 apply Classical.byContradiction;intro hn;have h1:=me (C:=C) hp;have h2:=zX (f:=λi=>(s i).said) (g:=λi=>if C.rl i=1 then 1 else 0) (C.n+4) (λi hi=>by have:=Gf (s i);rwa[h.role i hi]at this) (by rw[h1,<-h.said];omega) i hi;replace h2:(s i).said=if C.rl i=1 then 1 else 0:=h2
 rw[<-h.role i hi,hr,hs]at h2;simp at h2
def Jr(T:Tr C t D ag aA){i}(rS:C.gZ i)(uD:∀r q,(D i).st≠.old r q){z u}(hz:z.g=i)(ha:z.act=.send C.N.D ag)(hu:Quiet (#[z]++u))(hle:aA<=ag):jr C (t++(#[z]++u)) i (ag+1) aA:=by
 have dX:(t++(#[z]++u))[t.size]? =some z:=by rw[Array.getElem?_append_right ν,Nat.sub_self,Array.getElem?_append_left (by simp)];rfl
 refine⟨t.size,ag,z,dX,hz,ha,by omega,⟨i,by rw[Trace.g?,dX];simp[hz],?_⟩,λp y a hp hy hya=>?_,λhk=>by omega⟩;rw[deaf_old ν];exact T.deaf i rS uD;rcases getElem?_append_cases hp with⟨h1,_⟩|⟨_,UK⟩;exact h1;rw[(hu y UK).1]at hya;cases hya
def RL(I:Inv C all gs w t D cj cr ag aA){i}(hi:i<C.n+4)(hr:(bj D i).role=1):C.R i=C.R i/\C.n<=i:=by refine⟨rfl,?_⟩;have:=I.df.role i hi;rw[hr]at this;unfold kp.rl at this;apply Classical.byContradiction;intro hn;by_cases h0:i=0;rw[if_pos h0]at this;omega;rw[if_neg h0,if_pos (by omega)]at this;omega
def zB.next{s}(h:zB C all s true false ag aA)(hp:0<C.n){i}(hi:i<C.n+4)(hri:(s i).role=2) k:∀j,j<C.n+4->j≠i->fj true false k (s j)/\(∀q,s j=.bc (.br q)->False):=by
 intro j hj aR;have h1:=h.cO j hj;have h2:=h.role j hj;have mR:C.rl j≠2:=λe=>aR (nY hp hj hi (by rw[e,<-h.role i hi,hri]) (.inl e));cases xP:s j with
 |old r q=>
  rw[xP]at h1 h2;refine⟨?_,λq e=>by cases e⟩;match r,h1,h2 with
  |0,_,_=>exact trivial
  |1,h1,_=>exact h1
  |2,_,h2=>exact absurd h2.symm mR
  |r+3,_,_=>exact trivial
 |bS c=>rw[xP]at h1 h2;refine⟨?_,λq e=>by cases e⟩;cases c<;>first|exact h1|exact absurd h2.symm mR
 |born c=>rw[xP]at h1 h2;refine⟨?_,λq e=>by cases e⟩;cases c<;>first|exact h1|exact absurd h2.symm mR
 |live c=>rw[xP]at h1 h2;refine⟨?_,λq e=>by cases e⟩;cases c<;>first|exact h1|exact absurd h2.symm mR
 |bc c=>rw[xP]at h1 h2;refine⟨?_,λq e=>by cases e;exact absurd h2.symm mR⟩;cases c<;>first|exact h1|exact absurd h2.symm mR
def Nj(L:yW C){k g v}(hk:k<3)(hA:C.N.A (.br k) g v):∃ci:ko α,Term C.P (C.N.Stop ci) (Go.Conc.served g C.N.dv) v/\ci.role=2/\(∀p,ci.tok p=0)/\fj true false (k+1) (.live ci)/\ci.ev<5-k:=by by_cases h2:k=2;subst h2;exact⟨.dh,L.GM _ _ hA,rfl,λ_=>rfl,⟨rfl,rfl,rfl⟩,by simp[ko.ev]⟩;refine⟨.br (k+1),L.Nl k _ _ (by omega) hA,rfl,λ_=>rfl,⟨rfl,rfl,rfl,by omega⟩,?_⟩;show 5-(k+1)<5-k;omega
def Nq(L:yW C)(fT:∀i,C.n<=i->i<C.n+4->C.R i=[base C.P])(I:Inv C all gs w t D cj cr ag aA)(T:Tr C t D ag aA){i}(hi:i<C.n+4)(aS:(D i).st=.live .fi)(hA:C.N.A .fi (D i).g (D i).v):Goes C all gs w sl t D i:=by
 obtain⟨g',hx,aM,jY⟩:=qC L I hi aS;have lW:=L.act .fi _ _ _ _ _ rfl hA jY (i==0) w;have hc:=I.Hz;have e1:bj D i=.live .fi:=aS;have cX:cj=true/\cr=false:=by have:=I.df.cO i hi;rw[e1]at this;exact this
 obtain⟨rfl,rfl⟩:=cX;have pd:=(RL I hi (by rw[e1];rfl)).2;have fP:i≠0:=I.mn hi aS (by simp[ko.role]);have rS:C.gZ i:=.inr ⟨pd,hi⟩;have uD:∀r q,(D i).st≠.old r q:=λr q e=>by rw[aS]at e;cases e
 have hd0:Deaf t i=0:=T.deaf i rS uD;have hle:=I.df.le;have hs3:ag<3:=I.df.aaz I.pos hi (by rw[e1];rfl) (by rw[e1];rfl);rw[fT i pd hi]at jY;obtain⟨q,hq⟩:=L.Ww _ _ _ _ hA jY;have qe:C.N.D<w.heap.size:=(Array.getElem?_eq_some_iff.1 hc).1;by_cases hp:partners (gs.setIfInBounds i ph) C.N.D false=[];have Cc:(Array.replicate (ag-aA) C.N.dv).size<3:=by simp;omega
 have cD:=crowd_send_room (P:=C.P) (sl:=sl) hx lW hc Cc hp;have ajk:(Array.replicate (ag-aA) C.N.dv).push C.N.dv=Array.replicate (ag+1-aA) C.N.dv:=by rw[show ag+1-aA=(ag-aA)+1 by omega,Array.replicate_succ]
 simp only[Net.shape,finishComm_send,dF,Array.empty_append,ajk]at cD;have hu:Quiet (#[{g:=i,fn:=g'.frame.fn,pos:=g'.frame.place,act:=.send C.N.D ag}]++#[{g:=i,fn:=g'.frame.fn,pos:=g'.frame.place,act:=.sendDone C.N.D ag}]):=by intro op cI;simp at cI;rcases cI with rfl|rfl<;>exact⟨rfl,λm=>by simp⟩
 have hS:=pC D i (.old 1 q) (D i).g;have lI:=eR D i ((D i).to (.old 1 q) (D i).g);have abv:∀j k,j<C.n+4->bj D j≠.bc (.br k):=λj k hj=>I.waits aS hp hj rfl;refine⟨_,_,_,upd D i ((D i).to (.old 1 q) (D i).g),true,false,ag+1,aA,cD,I.quiet hS hu (λj hj=>?_) (by simpa using I.size) (λj hj h=>?_) ?_ ?_ ?_ ?_ ?_,T.quiet I hS hu (λj c' e=>?_) (λj r q' e=>?_) (λj q' hj e=>?_) (λq' e=>?_),.inl ?_,gI (λk=>(hS k).1) (.inr (.inr rfl)) rfl rfl rfl rfl⟩;by_cases aR:j=i;subst aR;refine .inr ?_;rw[upd_same,Array.getElem?_setIfInBounds_self_of_lt aM];exact⟨⟨_,rfl,by rw[hd0];exact hq⟩,λe=>by cases e⟩;exact .inl ⟨upd_ne D _ aR,Array.getElem?_setIfInBounds_ne (Ne.symm aR)⟩;exact h.chan C (c:=C.N.D) hc (.chan 3 (Array.replicate (ag+1-aA) C.N.dv) false (ag+1) aA false) w.drawn;rw[upd_ne D _ (Ne.symm fP),Array.size_setIfInBounds];exact I.main;obtain⟨s2,r2,h2⟩:=I.Dm;exact⟨s2,r2,by show(w.heap.setIfInBounds C.N.D _)[C.N.J]? =_;rw[Array.getElem?_setIfInBounds_ne (Ne.symm I.ne.2.1)];exact h2⟩;obtain⟨s2,r2,h2⟩:=I.DZ;exact⟨s2,r2,by show(w.heap.setIfInBounds C.N.D _)[C.N.R]? =_;rw[Array.getElem?_setIfInBounds_ne (Ne.symm I.ne.2.2)];exact h2⟩;show(w.heap.setIfInBounds C.N.D _)[C.N.D]? =_;rw[Array.getElem?_setIfInBounds_self_of_lt qe];rw[lI];refine I.df.zL (λj hj=>?_) (λp=>?_) (by omega) ?_ (λj hj=>?_) (λj c hj e=>?_) (λj k hj e=>?_);by_cases aR:j=i;subst aR;rw[upd_same,e1];rfl;rw[upd_ne _ _ aR];have:=sumTo_upd (bj D) (.old 1 q) (λy=>y.tok p) hi;have e2:(bj D i).tok p=0:=by rw[e1];rfl
 have e3:(St.old 1 q:St α).tok p=0:=rfl;show sumTo (C.n+4) (λi_1=>St.tok p (upd (bj D) i (.old 1 q) i_1))=_;omega;have:=sumTo_upd (bj D) (.old 1 q) (λy=>y.said) hi;have e2:(bj D i).said=0:=by rw[e1];rfl
 have e3:(St.old 1 q:St α).said=1:=rfl;have e4:=I.df.said;show _=sumTo (C.n+4) (λi_1=>St.said (upd (bj D) i (.old 1 q) i_1));omega;by_cases aR:j=i;subst aR;rw[upd_same];exact rfl;rw[upd_ne _ _ aR];exact I.df.cO j hj;by_cases aR:j=i;subst aR;rw[upd_same]at e;cases e;rw[upd_ne _ _ aR]at e;exact e;by_cases aR:j=i;subst aR;rw[upd_same]at e;cases e;rw[upd_ne _ _ aR]at e;exact absurd e (abv j k hj);by_cases aR:j=i;subst aR;rw[aS]at e;cases e;exact⟨c',by rw[upd_ne D _ aR];exact e⟩;by_cases aR:j=i;subst aR;rw[aS]at e;cases e;exact⟨r,q',by rw[upd_ne D _ aR];exact e⟩;by_cases aR:j=i;subst aR;exact Jr T rS uD rfl rfl hu hle;rw[upd_ne D _ aR]at e;exact(T.said j q' hj e).app (λop cI _=>(hu op cI).1) (by omega);by_cases aR:C.n+3=i;rw[aR,upd_same]at e;cases e;rw[upd_ne D _ aR]at e;exact⟨q',e⟩;rw[lI];have:=oE (C:=C) (s:=bj D) hi (.old 1 q);have e2:(bj D i).ev=1:=by rw[e1];rfl
 have e3:(St.old 1 q:St α).ev=0:=rfl;show Lg C (upd (bj D) i (.old 1 q))<_;omega;have gJ:∀j k,(j,k)∈partners (gs.setIfInBounds i ph) C.N.D false->k=0/\j≠i/\∃gj zj Pt,gs[j]? =some (parked gj #[rcase C.N.D zj] Pt):=by intro j k hm;obtain⟨h1,h2,h3,c,g2,h4,h5,h6,_⟩:=I.partner hm;refine⟨h1,h2,?_⟩;cases c<;>simp only[Net.chan,Option.some.injEq,Prod.mk.injEq,and_false,reduceCtorEq,and_true]at h5;exact absurd h5 I.ne.2.1;exact⟨_,_,_,h6⟩;exact absurd h5 I.ne.2.2
 obtain⟨j,gj,zj,Pt,d,aR,xV,cD⟩:=crowd_send_meets_some (P:=C.P) (sl:=sl) hx lW hc hp gJ;obtain⟨kS,c,qk,ep,nA,Ce,TH⟩:=I.parked xV;have mJ:=I.df.cO j kS;rw[show bj D j=_ from qk]at mJ;cases c with
 |br k=>
 obtain⟨_,_,hrk,DO⟩:_/\_/\aA=k/\k<3:=mJ;subst hrk;have e2:bj D j=.bc (.br aA):=qk;have hsr:ag=aA:=I.df.p3 j aA kS e2;subst hsr;have hj3:j=C.n+3:=by
  have h1:=I.df.role j kS;have h2:C.rl (C.n+3)=2:=by unfold kp.rl;rw[if_neg (by omega),if_neg (by omega),if_neg (by omega)]
  refine nY I.pos kS (by omega) ?_ (.inl ?_);rw[h2,<-h1,e2];rfl;rw[<-h1,e2];rfl
 subst nA;have qb:recvd false C.N.dv true=C.N.dv:=rfl;simp only[Net.shape,finishComm_send,finishComm_recv,dF,Array.empty_append,qb]at cD;have hsv:Go.Conc.served {g' with status:=.running,offers:=none} undef=Go.Conc.served g' undef:=rfl;rw[hsv]at cD;have hjs:j<gs.size:=(Array.getElem?_eq_some_iff.1 xV).1;have X6:j≠0:=by have:=I.pos;omega
 have ajK:C.gZ j:=.inr ⟨by omega,kS⟩;have ap0:∀r q,(D j).st≠.old r q:=λr q e=>by rw[qk]at e;cases e
 have hdj:Deaf t (C.n+3)=0:=by rw[<-hj3];exact T.deaf j ajK ap0
 obtain⟨ci,c1,c2,c3,c5,c6⟩:=Nj L DO TH;obtain⟨a1,a2,a3,a4⟩:=Yx gs aR aM hjs (Go.Conc.served g' undef) (Go.Conc.served gj C.N.dv);have hS:=m4 D i j (.old 1 q) (.live ci) (D i).g (Go.Conc.served (D j).g C.N.dv);have mI:∀k,upd (upd D i ((D i).to (.old 1 q) (D i).g)) j ((D j).to (.live ci) (Go.Conc.served (D j).g C.N.dv)) k=if k=j then(D j).to (.live ci) (Go.Conc.served (D j).g C.N.dv)else if k=i then(D i).to (.old 1 q) (D i).g else D k:=λk=>rfl
 generalize hD':upd (upd D i ((D i).to (.old 1 q) (D i).g)) j ((D j).to (.live ci) (Go.Conc.served (D j).g C.N.dv))=D' at hS mI;have lI:bj D'=upd (upd (bj D) i (.old 1 q)) j (.live ci):=by rw[<-hD',eR,eR];rfl
 have Xo:D' j=(D j).to (.live ci) (Go.Conc.served (D j).g C.N.dv):=by rw[mI,if_pos rfl]
 have hvi:D' i=(D i).to (.old 1 q) (D i).g:=by rw[mI,if_neg (Ne.symm aR),if_pos rfl]
 have Xn:∀k,k≠i->k≠j->D' k=D k:=λk h1 h2=>by rw[mI,if_neg h2,if_neg h1]
 have as6:∀k,bj D' k=if k=j then .live ci else if k=i then .old 1 q else bj D k:=λk=>by rw[lI];rfl
 let z:MemOp:={g:=i,fn:=g'.frame.fn,pos:=g'.frame.place,act:=.send C.N.D ag};let z1:MemOp:={g:=j,fn:=gj.frame.fn,pos:=gj.frame.place,act:=.recv C.N.D ag 3};let z2:MemOp:={g:=i,fn:=g'.frame.fn,pos:=g'.frame.place,act:=.sendDone C.N.D ag};let z3:MemOp:={g:=j,fn:=gj.frame.fn,pos:=gj.frame.place,act:=.recvDone C.N.D ag};have Tm:Quiet #[z]:=λop cI=>by
  have:op=z:=by simpa using cI
  subst this;exact⟨rfl,λm=>by simp[z]⟩
 have IQ:Quiet #[z1,z2]:=λop cI=>by
  have:op=z1∨op=z2:=by simpa using cI
  rcases this with rfl|rfl<;>exact⟨rfl,λm=>by simp[z1,z2]⟩
 have hu:Quiet #[z,z1,z2,z3]:=lr i j g'.frame.fn gj.frame.fn g'.frame.place gj.frame.place C.N.D ag ag 3;have afx:t++#[z,z1,z2,z3]=t++#[z]++(#[z1,z2]++#[z3]):=by simp
 have aqw:Deaf (t++#[z]) (C.n+3)=0:=(Tm.deaf t (C.n+3)).trans hdj;refine⟨_,_,_,D',true,false,ag+1,ag+1,cD,I.quiet hS hu (λk hk=>?_) (by rw[a4];exact I.size) (λk hk h=>?_) ?_ ?_ ?_ ?_ ?_,T.quiet I hS hu (λk c' e=>?_) (λk r q' e=>?_) (λk q' hk e=>?_) (λq' e=>?_),.inl ?_,gI (λk=>(hS k).1) (.inr (.inr rfl)) rfl rfl rfl rfl⟩;by_cases h1:k=i;subst h1;refine .inr ?_;rw[hvi,a1];exact⟨⟨_,rfl,by rw[hd0];exact hq⟩,λe=>by cases e⟩;by_cases h2:k=j;subst h2;refine .inr ?_;rw[Xo,a2];exact⟨_,rfl,iO Ce (L.Md.2.2.1.self _),c1⟩;exact .inl ⟨Xn k h1 h2,a3 k h1 h2⟩;have:=(h.drawn C d).chan C (c:=C.N.D) (by exact hc) (.chan 3 (Array.replicate (ag-ag) C.N.dv) false (ag+1) (ag+1) false) d;exact this;rw[Xn 0 (Ne.symm fP) (Ne.symm X6),a4];exact I.main;obtain⟨s2,r2,h2⟩:=I.Dm;exact⟨s2,r2,by show(w.heap.setIfInBounds C.N.D _)[C.N.J]? =_;rw[Array.getElem?_setIfInBounds_ne (Ne.symm I.ne.2.1)];exact h2⟩;obtain⟨s2,r2,h2⟩:=I.DZ;exact⟨s2,r2,by show(w.heap.setIfInBounds C.N.D _)[C.N.R]? =_;rw[Array.getElem?_setIfInBounds_ne (Ne.symm I.ne.2.2)];exact h2⟩;show(w.heap.setIfInBounds C.N.D _)[C.N.D]? =_;rw[Array.getElem?_setIfInBounds_self_of_lt qe,Nat.sub_self,Nat.sub_self];rw[lI];refine I.df.two hi kS (Ne.symm aR) (.old 1 q) (.live ci) (by rw[e1];rfl) (by rw[e2];exact c2) (λp=>?_) ?_ ν (λk hk h1 h2=>(I.df.next I.pos kS (by rw[e2];rfl) (ag+1) k hk h2).1) rfl c5 (λc e=>by cases e) (λc e=>by cases e) (λk q' hk h1 h2 e=>((I.df.next I.pos kS (by rw[e2];rfl) (ag+1) k hk h2).2 q' e).elim);rw[e1,e2];show 0+ci.tok p=0+0;rw[c3];rw[e1,e2];show 1+0+ag=0+0+(ag+1);omega;by_cases h1:k=i;subst h1;rw[aS]at e;cases e;by_cases h2:k=j;subst h2;rw[qk]at e;cases e;exact⟨c',by rw[Xn k h1 h2];exact e⟩;by_cases h1:k=i;subst h1;rw[aS]at e;cases e;by_cases h2:k=j;subst h2;rw[qk]at e;cases e;exact⟨r,q',by rw[Xn k h1 h2];exact e⟩;show jr C (t++#[z,z1,z2,z3]) k (ag+1) (ag+1);rw[afx];have h1:jr C (t++#[z]) k (ag+1) ag:=by
  by_cases h1:k=i;subst h1;have:=Jr (u:=#[]) T rS uD (z:=z) rfl rfl (by rw[Array.append_empty];exact Tm) hle;rwa[Array.append_empty]at this;have h2:k≠j:=λe3=>by subst e3;rw[Xo]at e;cases e
  rw[Xn k h1 h2]at e;exact(T.said k q' hk e).app (λop cI _=>(Tm op cI).1) (by omega)
 exact h1.recv (z:=z3) (u:=#[z1,z2]) hj3 rfl aqw IQ (by omega);by_cases h2:C.n+3=j;rw[h2,Xo]at e;cases e;exact absurd hj3.symm h2;rw[lI];have:=zt (C:=C) (s:=bj D) hi kS (Ne.symm aR) (.old 1 q) (.live ci);have f1:(bj D i).ev=1:=by rw[e1];rfl
 have f2:(St.old 1 q:St α).ev=0:=rfl;have f3:(bj D j).ev=5-ag:=by rw[e2];rfl
 have f4:(St.live ci).ev=ci.ev:=rfl;omega
 |cT a rem=>exact(dq ep).elim|b8 a=>exact(dq ep).elim
 |bg=>exact absurd (kX ep).symm I.ne.2.1|aZ g=>exact absurd (kX ep).symm I.ne.2.2
 |_=>exact mJ.elim
end
end Ph
namespace Ph
open Go.Conc Rn
open Go.ConcN (sumTo upd sumTo_upd upd_ne upd_same le_sumTo)
open Tp (cN Term Ld)
variable{α:Type}{C:kp α}
section
variable{all:List α}{gs gs':Array Goroutine}{w w':World}{t u:Trace}{D D':Nat->Pd α}{cj cr cj' cr':Bool}{ag aA sent' rcvd':Nat}{sl:Option (Nat×Nat)}
def fC(k:ko α->Bool):St α->St α
 |.bc c=>if k c then .live c else .bc c|s=>s
def eW k(c:ko α):fC k (.bc c)=if k c=true then .live c else .bc c:=rfl
def Rc k(s:St α):(fC k s).role=s.role:=by cases s with|bc c=>rw[eW];split<;>rfl|_=>rfl
def I4 k(s:St α) p:(fC k s).tok p=s.tok p:=by cases s with|bc c=>rw[eW];split<;>rfl|_=>rfl
def Eo k(s:St α):(fC k s).said=s.said:=by cases s with|bc c=>rw[eW];split<;>rfl|_=>rfl
def Pb k(s:St α):(fC k s).ev=s.ev:=by cases s with|bc c=>rw[eW];split<;>rfl|_=>rfl
def pR{u}(h:∀op∈u,∀m,op.act≠.mark m) t g:Deaf (t++u) g=Deaf t g:=by
 obtain⟨l⟩:=u;rw[Deaf_append];generalize Deaf t g=d;induction l with
 |nil=>rfl|cons y l ih=>
 have e:deafStep g d y=d:=by have:=h y (by simp);unfold deafStep;split;rename_i hh;exact absurd hh (this _);rename_i hh;exact absurd hh (this _);rfl
 rw[List.foldl_cons,e];exact ih (λop cI=>h op (by simp at cI|-;exact .inr cI))
def fc(i fn:Nat)(pos:String)(ch:Nat):Trace:=#[{g:=i,fn:=fn,pos:=pos,act:=.access ⟨.obj ch,false,true⟩},{g:=i,fn:=fn,pos:=pos,act:=.close ch}]
def pO i fn pos ch:MemOp.ofEvents i fn pos #[⟨.obj ch,false,true⟩,⟨.obj ch,true,true⟩]=fc i fn pos ch:=by unfold MemOp.ofEvents fc;simp[MemAct.ofEvent]
def ee{i fn pos ch op}(h:op∈fc i fn pos ch):op.g=i/\(∀m,op.act≠.mark m)/\(op.act.touch? =none∨op.act.touch? =some ⟨.obj ch,false,.atomic⟩):=by unfold fc at h;simp at h;rcases h with rfl|rfl;exact⟨rfl,λm=>by simp,.inr rfl⟩;exact⟨rfl,λm=>by simp,.inl rfl⟩
def Tr.close(T:Tr C t D ag aA){i fn ch:Nat}{pos:String}(hg:C.gZ i)(Qw:ch=C.N.J∨ch=C.N.R)(uD:∀g,C.gZ g->ch∉ (D g).X)(hnu:∀c,(D i).st≠.bS c) (hX:∀g,(D' g).X=(D g).X) (Xp:∀j c,(D j).st=.bS c->∃c',(D' j).st=.bS c') (ho:∀j r q,(D j).st=.old r q->∃r' q',(D' j).st=.old r' q') (hs:∀j q,(D' j).st=.old 1 q->j≠i/\(D j).st=.old 1 q) (nA:∀q,(D' (C.n+3)).st=.old 2 q->tj C (t++fc i fn pos ch)):Tr C (t++fc i fn pos ch) D' ag aA where
 clean:=λsaid=>noRace_append (T.clean said) (λop cI=>(ee cI).1) λp a ha op cI b hb hc=>by rcases(ee cI).2.2 with h|h;rw[h]at hb;cases hb;rw[h]at hb;cases hb;have hw:a.write=true:=hc.2.2.1.resolve_right (by simp);rcases T.touch p a ha hc.2.1 with hk|⟨o,h1,h2,h3|h3⟩;exact hk i hg hnu;rw[hc.1]at h3;exact absurd h3.1 (uD o.g h2);rw[hw]at h3;cases h3.1
 touch:=λp a ha hm=>by obtain⟨x,hx,ve⟩:=touch_of ha;rcases getElem?_append_cases hx with⟨hp,xN⟩|⟨_,UL⟩;rcases T.touch p a (by rw[touchAt_of xN];exact ve) hm with hk|⟨op,h1,h2,h3⟩;exact .inl λj hj hc=>(hk j hj λc e=>by obtain⟨c',h⟩:=Xp j c e;exact hc c' h).app _;refine .inr ⟨op,by rw[getElem?_append_old hp];exact h1,h2,?_⟩;unfold UE at h3|-;rw[hX];exact h3;obtain⟨e1,_,e3⟩:=ee UL;refine .inr ⟨x,hx,by rw[e1];exact hg,.inr ?_⟩;rcases e3 with h|h;rw[h]at ve;cases ve;rw[h]at ve;cases ve;exact⟨rfl,by rcases Qw with e|e<;>rw[e]<;>simp⟩
 deaf:=λj hj hc=>by rw[pR (λop cI=>(ee cI).2.1)];exact T.deaf j hj λr q e=>by obtain⟨r',q',h⟩:=ho j r q e;exact hc r' q' h
 said:=λj q hj e=>by obtain⟨h1,h2⟩:=hs j q e;exact(T.said j q hj h2).app (λop cI xV=>absurd ((ee cI).1.symm.trans xV) (Ne.symm h1)) ν
 shut:=nA;above:=λj hj=>(pR (λop cI=>(ee cI).2.1) t j).trans (T.above j hj)
def fj.fC{k}{s:St α}(h1:∀c,s=.bc c->k c=true->fj cj cr aA (.live c))(h2:(∀c,s=.bc c->k c=false)->fj cj cr aA s):fj cj cr aA (fC k s):=by
 cases s with
 |bc c=>rw[eW];cases hk:k c with|true=>rw[if_pos rfl];exact h1 c rfl hk|false=>rw[if_neg (by simp)];exact h2 λc' e=>by cases e;exact hk
 |_=>exact h2 λc e=>by cases e
def Lp(L:yW C)(I:Inv C all gs w t D cj cr ag aA){i}(hi:i<C.n+4)(h0:i≠0){c:ko α}{ch:Nat}{g'}(hx:gs[i]? =some g')(XV:mayWake C.P g'=true) k d'(hd:d'.X=(D i).X/\d'.v=(D i).v) v (hD':D'=λj=>if j=i then d' else(D j).to (fC k (D j).st) (D j).g) (dO:Ok C t i (some (dQ g' v)) d') {w1} (hw:∀j,j<C.n+4->jq C w (D j)->jq C w1 (D j)) (aiO:∀j c g2,j<C.n+4->j≠i->(D j).st=.bc c->k c=true->(parked g2 (C.N.cases c) (C.N.shape c)).again w1={parked g2 (C.N.cases c) (C.N.shape c)with status:=.running}/\C.N.Stop c=C.N.A c) (afz:∀j c g2,j<C.n+4->j≠i->(D j).st=.bc c->k c=false->(parked g2 (C.N.cases c) (C.N.shape c)).again w1=parked g2 (C.N.cases c) (C.N.shape c)) (DO:∀c,k c=true->∀n,c≠.spawn n) (hJ:∃s r,w1.heap[C.N.J]? =some (.chan 0 #[] cj' s r false)) (hR:∃s r,w1.heap[C.N.R]? =some (.chan 0 #[] cr' s r false)) (hDD:w1.heap[C.N.D]? =some (.chan 3 (Array.replicate (ag-aA) C.N.dv) false ag aA false)) {u} (hu:∀op∈u,∀m,op.act≠.mark m) (df:zB C all (bj D') cj' cr' ag aA):Inv C all ((gs.map (woken C.P g' (dQ g' v) w1)).setIfInBounds i (dQ g' v)) w1 (t++u) D' cj' cr' ag aA:=by
 have aM:i<gs.size:=(Array.getElem?_eq_some_iff.1 hx).1;have hXv:∀j,(D' j).X=(D j).X/\(D' j).v=(D j).v:=λj=>by rw[hD'];dsimp only;by_cases aR:j=i;subst aR;rw[if_pos rfl];exact hd;rw[if_neg aR];exact⟨rfl,rfl⟩
 have bZ:∀j,j≠i->D' j=(D j).to (fC k (D j).st) (D j).g:=λj hj=>by rw[hD'];exact if_neg hj
 have KJ:=pR hu t;refine⟨I.pos,λj hj=>?_,by simpa using I.size,λj hj=>?_,λj l hj hl L5 b DT jI=>I.Ov j l hj hl L5 b (by rw[<-(hXv j).1];exact DT) (by rw[<-(hXv l).1];exact jI),?_,hJ,hR,hDD,I.ne,df⟩;refine Ok.trace C ?_ (KJ j);by_cases aR:j=i;subst aR;rw[Array.getElem?_setIfInBounds_self_of_lt (by simpa using aM),hD'];dsimp only;rw[if_pos rfl];exact dO;rw[Array.getElem?_setIfInBounds_ne (Ne.symm aR),Array.getElem?_map,bZ j aR];have rR:=I.ok j hj;have hwk:∀x,woken C.P g' (dQ g' v) w1 x=x.again w1:=λx=>by unfold woken;rw[XV];rfl
 unfold Ok at rR;unfold Ok Pd.to;dsimp only;cases hs:(D j).st with
 |old r q=>rw[hs]at rR;obtain⟨⟨y,h1,h2⟩,h3⟩:=rR;rw[h1,Option.map_some,hwk,again_running _ h2.status];exact⟨⟨y,rfl,h2⟩,h3⟩
 |bS c=>rw[hs]at rR;rw[rR.1];exact⟨rfl,rR.2⟩|born c=>rw[hs]at rR;rw[rR.1,Option.map_some,hwk,again_running _ (.inl rfl)];exact⟨rfl,rR.2⟩
 |live c=>rw[hs]at rR;obtain⟨g2,h1,h2,h3⟩:=rR;rw[h1,Option.map_some,hwk,again_running _ (.inl h2.run.2)];exact⟨g2,rfl,h2,h3⟩
 |bc c=>
  rw[hs]at rR;obtain⟨g2,h1,h2,h3⟩:=rR;rw[h1,Option.map_some,hwk];cases hkc:k c with
  |true=>obtain⟨h4,h5⟩:=aiO j c g2 hj aR hs hkc;rw[h4];show Ok C t j _ ⟨fC k (.bc c),_,_,_⟩;rw[eW,if_pos hkc];exact⟨_,rfl,⟨⟨h2.run.1,rfl⟩,h2.dy,h2.frame,h2.callers⟩,.stop (by rw[h5];exact h3)⟩
  |false=>rw[afz j c g2 hj aR hs hkc];show Ok C t j _ ⟨fC k (.bc c),_,_,_⟩;rw[eW,if_neg (by rw[hkc];simp)];exact⟨g2,rfl,h2,h3⟩
 have:=hw j hj (I.vq j hj);unfold jq at this|-;rw[(hXv j).1,(hXv j).2];exact this;rw[bZ 0 (Ne.symm h0)];rw[Array.size_setIfInBounds,Array.size_map];show(∃n,n<=3/\fC k (D 0).st=_/\_)∨((∃bD,fC k (D 0).st=_∨fC k (D 0).st=_)/\_);rcases I.main with⟨n,h1,h2,h3⟩|⟨⟨bD,h|h⟩,h3⟩;exact .inl ⟨n,h1,by rw[h2];rfl,h3⟩;exact .inr ⟨⟨bD,.inl (by rw[h];rfl)⟩,h3⟩;refine .inr ⟨⟨bD,?_⟩,h3⟩;rw[h,eW];split;exact .inl rfl;exact .inr rfl
end
end Ph
namespace Ph
open Go.Conc Rn
open Go.ConcN (sumTo upd sumTo_upd upd_ne upd_same le_sumTo)
open Tp (cN Term Ld)
variable{α:Type}{C:kp α}
section
variable{all:List α}{gs gs':Array Goroutine}{w w':World}{t u:Trace}{D D':Nat->Pd α}{cj cr cj' cr':Bool}{ag aA sent' rcvd':Nat}{sl:Option (Nat×Nat)}
def kJ:ko α->Bool
 |.bg=>true|_=>false
def kR:ko α->Bool
 |.aZ _=>true|_=>false
def Jj k i(d':Pd α) D:bj (λj=>if j=i then d' else(D j).to (fC k (D j).st) (D j).g)=upd (λj=>fC k (bj D j)) i d'.st:=by funext j;by_cases aR:j=i;subst aR;show(if j=j then _ else _:Pd α).st=_;rw[if_pos rfl,upd_same];show(if j=i then _ else _:Pd α).st=_;rw[if_neg aR,upd_ne _ _ aR];rfl
def rf(I:Inv C all gs w t D cj cr ag aA){i}(hi:i<C.n+4)(hr:(bj D i).role=2):i=C.n+3:=by
 have h1:=I.df.role i hi;have h2:C.rl (C.n+3)=2:=by unfold kp.rl;rw[if_neg (by omega),if_neg (by omega),if_neg (by omega)]
 refine nY I.pos hi (by omega) ?_ (.inl ?_);rw[h2,<-h1,hr];rw[<-h1,hr]
def FC(I:Inv C all gs w t D cj cr ag aA){i}(hi:i<C.n+4) k x(hxr:x.role=(bj D i).role)(hxt:∀p,x.tok p=(bj D i).tok p)(hxs:x.said=(bj D i).said)(hxp:∀c,x≠.bc c)(apD:fj cj' cr' aA x) (aS:∀j,j<C.n+4->j≠i->fj cj' cr' aA (fC k (bj D j))) (mR:(bj D i).role=2):zB C all (upd (λj=>fC k (bj D j)) i x) cj' cr' ag aA:=by
 have nB:∀j c,j<C.n+4->upd (λj=>fC k (bj D j)) i x j=.bc c->j≠i/\bj D j=.bc c:=λj c hj e=>by
  by_cases aR:j=i;subst aR;rw[upd_same]at e;exact absurd e (hxp c);rw[upd_ne _ _ aR]at e;refine⟨aR,?_⟩;cases hs:bj D j with
  |bc c'=>rw[hs,eW]at e;split at e;cases e;exact e
  |_=>rw[hs]at e;cases e
 refine I.df.zL (λj hj=>?_) (λp=>?_) I.df.le ?_ (λj hj=>?_) (λj c hj e=>(nB j c hj e).2) (λj q hj e=>?_);by_cases aR:j=i;subst aR;rw[upd_same];exact hxr;rw[upd_ne _ _ aR];exact Rc k _;have h1:=sumTo_upd (λj=>fC k (bj D j)) x (λy=>y.tok p) hi;have h2:sumTo (C.n+4) (λa=>(fC k (bj D a)).tok p)=sumTo (C.n+4) (λa=>(bj D a).tok p):=sumTo_congr _ λj _=>I4 k _ p;have h3:=hxt p;have h4:=I4 k (bj D i) p;omega;have h1:=sumTo_upd (λj=>fC k (bj D j)) x (λy=>y.said) hi;have h2:sumTo (C.n+4) (λa=>(fC k (bj D a)).said)=sumTo (C.n+4) (λa=>(bj D a).said):=sumTo_congr _ λj _=>Eo k _;have h4:=Eo k (bj D i);have h5:=I.df.said;omega;by_cases aR:j=i;subst aR;rw[upd_same];exact apD;rw[upd_ne _ _ aR];exact aS j hj aR;obtain⟨h1,h2⟩:=nB j _ hj e;have:=I.df.role j hj;rw[h2]at this;exact absurd (nY I.pos hj hi (by rw[<-this,<-I.df.role i hi,mR];rfl) (.inl this.symm)) h1
def CH(I:Inv C all gs w t D cj cr ag aA){i}(hi:i<C.n+4) k x(gr:x.ev< (bj D i).ev)(hD':bj D'=upd (λj=>fC k (bj D j)) i x):UF C D' D:=by refine .inl ?_;rw[hD'];have h1:Lg C (upd (λj=>fC k (bj D j)) i x)+(fC k (bj D i)).ev=Lg C (λj=>fC k (bj D j))+x.ev:=oE hi x;have h2:Lg C (λj=>fC k (bj D j))=Lg C (bj D):=sumTo_congr _ λj _=>Pb k _;have h3:=Pb k (bj D i);omega
def Kk(L:yW C)(I:Inv C all gs w t D cj cr ag aA)(T:Tr C t D ag aA){i}(hi:i<C.n+4)(aS:(D i).st=.live (.feed []))(hA:C.N.A .fe (D i).g (D i).v):Goes C all gs w sl t D i:=by
 obtain⟨g',hx,aM,jY⟩:=qC L I hi aS;obtain⟨s,r,hc⟩:=I.Dm;have e1:bj D i=.live (.feed []):=aS;have cX:cj=false/\cr=false/\aA=0:=by have:=I.df.cO i hi;rw[e1]at this;exact this
 obtain⟨rfl,rfl,rfl⟩:=cX;obtain⟨XV,lW⟩:=L.CW .fe C.N.J _ _ _ _ _ (.inl ⟨rfl,rfl⟩) hA jY;have uB:=lW (i==0) w s r hc;have fP:i≠0:=I.mn hi aS (by simp[ko.role]);have US:=rf I hi (by rw[e1];rfl);have rS:C.gZ i:=I.gZ hi (by rw[aS];exact j4 (α:=α) (.feed []));have cD:=runT_crowd_go (P:=C.P) (sl:=sl) hx uB;rw[pO]at cD;have qe:C.N.J<w.heap.size:=(Array.getElem?_eq_some_iff.1 hc).1;have hJ1:(w.heap.setIfInBounds C.N.J (.chan 0 #[] true s r false))[C.N.J]? =some (.chan 0 #[] true s r false):=Array.getElem?_setIfInBounds_self_of_lt qe;have hR1:∃s2 r2,(w.heap.setIfInBounds C.N.J (.chan 0 #[] true s r false))[C.N.R]? =some (.chan 0 #[] false s2 r2 false):=by obtain⟨s2,r2,h2⟩:=I.DZ;exact⟨s2,r2,by rw[Array.getElem?_setIfInBounds_ne I.ne.1];exact h2⟩
 have hD1:(w.heap.setIfInBounds C.N.J (.chan 0 #[] true s r false))[C.N.D]? =_:=(Array.getElem?_setIfInBounds_ne I.ne.2.1).trans I.Hz;obtain⟨s2,r2,KR⟩:=hR1;have qd:∀j,j<C.n+4->j≠i->(D j).st.role≠2:=λj hj aR e=>aR ((rf I hj e).trans US.symm);have lI:=Jj kJ i ((D i).to (.live (.br 0)) (dQ (D i).g (.tuple #[]))) D;have afG:=FC (cj':=true) (cr':=false) I hi kJ (.live (.br 0)) (by rw[e1];rfl) (λp=>by rw[e1];rfl) (by rw[e1];rfl) (λc e=>by cases e) ⟨rfl,rfl,rfl,by omega⟩ (λj hj aR=>by
 have h1:=I.df.cO j hj;have h2:=qd j hj aR;refine fj.fC (λc e hk=>?_) (λhk=>?_);cases c<;>first|exact(Bool.noConfusion hk)|exact rfl
 change (bj D j).role≠2 at h2;cases hs:bj D j with
 |old r q=>
  rw[hs]at h1 h2;match r,h1,h2 with
  |0,_,_=>exact trivial
  |1,_,_=>exact rfl
  |2,_,h2=>exact absurd rfl h2
  |r+3,_,_=>exact trivial
 |bS c=>rw[hs]at h1 h2;cases c<;>first|exact h1|exact absurd rfl h2
 |born c=>rw[hs]at h1 h2;cases c<;>first|exact h1|exact absurd rfl h2
 |live c=>rw[hs]at h1 h2;cases c<;>first|exact h1|exact absurd rfl h2|exact⟨rfl,rfl⟩
 |bc c=>
 rw[hs]at h1 h2;cases c<;>first|exact absurd rfl h2|exact h1|skip
 exact absurd (hk _ hs) (by simp[kJ])) (by rw[e1];rfl)
 have uD:∀g,C.gZ g->C.N.J∉ (D g).X:=λg hg hm=>(I.vq g (I.Hj hg)).vW C hm hc;refine⟨_,_,_,λj=>if j=i then(D i).to (.live (.br 0)) (dQ (D i).g (.tuple #[]))else(D j).to (fC kJ (D j).st) (D j).g,true,false,ag,0,cD,?_,?_,CH I hi kJ (.live (.br 0)) (by rw[e1];show(5-0:Nat)<7+2*0;omega) lI,gI (λl=>(by split<;>first|(rename_i e;subst e;rfl)|rfl)) (.inl rfl) rfl rfl rfl rfl⟩;refine Lp (c:=.fe) (ch:=C.N.J) L I hi fP hx XV kJ ((D i).to (.live (.br 0)) (dQ (D i).g (.tuple #[]))) ⟨rfl,rfl⟩ (.tuple #[]) rfl ⟨_,rfl,Fv jY (V.eI (VA.empty _)) rfl rfl,L.PX _ _ hA⟩ (λj hj h=>?_) (λj c g2 hj aR e hk=>?_) (λj c g2 hj aR e hk=>?_) (λc hk n e=>by subst e;cases hk) ⟨s,r,hJ1⟩ ⟨s2,r2,KR⟩ hD1 (λop cI=>(ee cI).2.1) (by rw[lI];exact afG);exact h.chan C hc (.chan 0 #[] true s r false) w.drawn;cases c<;>first|exact(Bool.noConfusion hk)|skip
 exact⟨again_recv_closed hJ1,rfl⟩;have h1:=I.df.cO j hj;rw[show bj D j=_ from e]at h1;have h2:=qd j hj aR;rw[e]at h2;cases c with
 |bg=>cases hk
 |b8 a=>exact again_send_open KR|aZ bD=>exact again_recv_open KR
 |cT a rem=>exact absurd rfl h2|br k=>exact absurd rfl h2
 |_=>exact h1.elim
 refine T.close rS (.inl rfl) uD (λc e=>by rw[aS]at e;cases e) (λg=>?_) (λj c e=>?_) (λj r q e=>?_) (λj q e=>?_) (λq e=>?_);split;rename_i hg;subst hg;rfl;rfl;refine⟨c,?_⟩;rw[if_neg (λaR=>by subst aR;rw[aS]at e;cases e)];show fC kJ (D j).st=_;rw[e];rfl;refine⟨r,q,?_⟩;rw[if_neg (λaR=>by subst aR;rw[aS]at e;cases e)];show fC kJ (D j).st=_;rw[e];rfl;split at e;cases e;rename_i aR;refine⟨aR,?_⟩;change fC kJ (D j).st=_ at e;cases hs:(D j).st with
 |bc c=>rw[hs,eW]at e;split at e<;>cases e
 |_=>rw[hs]at e;exact e
 rw[if_pos US.symm]at e;cases e
end
end Ph
