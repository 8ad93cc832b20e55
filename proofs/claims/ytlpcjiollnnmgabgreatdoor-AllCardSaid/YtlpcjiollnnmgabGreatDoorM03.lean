import Derived.Test.YtlpcjiollnnmgabGreatDoorM02
import Derived.Conc.EventLaws
set_option maxRecDepth 100000
set_option maxHeartbeats 8000000
set_option linter.all false
namespace Go.Proofs.YtlpcjiollnnmgabGreatDoor
def t041{p:Prop}(h:p:=by
 have h1 : (#[] : Array Operand).map fr.eval = #[] := by simp
 show (do pure (.spawn (<- Deferred.ofValue (fr.eval x) ((#[] : Array Operand).map fr.eval))) : Sem Next) = _;rw [h1]):p:=h
namespace Rn
open Go.Conc
open Tp (jN Term Ld)
section
variable{P:Program}{E:Env}{X:List Nat}
def YW{g}(h:Ea g) b w:(∃o w' es,stepG P b g w=.ended o w' es)∨∃g1 w1 es,stepG P b g w=.go g1 w1 es/\Bad g1:=by
 obtain⟨fr,cs,st,dy,off⟩:=g;obtain⟨h1,h2,⟨h3,h4⟩,h5⟩:=h;obtain rfl:dy=none:=h2;replace h3:fr.defers=[]:=h3;rcases h5 with⟨ch,h5⟩|⟨h5,why,k,h6⟩;replace h5:fr.mode=.panicking ch:=h5;have e1:stepG P b ⟨fr,cs,st,none,off⟩ w=unwind P b fr cs none w:=by unfold stepG;simp only[h5]
 rw[e1];unfold unwind;simp only[h3,h5];split;exact .inl ⟨_,_,_,rfl⟩;cases cs with|cons c cs=>refine .inr ⟨_,_,_,rfl,.inl ⟨rfl,rfl,⟨?_,λx hx=>h4 x (aF _ hx)⟩,.inl (raise_mode c ch)⟩⟩;rw[tZ];exact h4 c aH|nil=>dsimp only;split;exact .inr ⟨_,_,_,rfl,.inr (.inl ζ)⟩;split;exact .inr ⟨_,_,_,rfl,.inr (.inr ζ)⟩;exact .inl ⟨_,_,_,rfl⟩;exact .inl ⟨_,_,_,rfl⟩
 replace h5:fr.mode=.run:=h5;replace h6:fr.todo=.code (.refuse why)::k:=h6;have e1:stepG P b ⟨fr,cs,st,none,off⟩ w=stepG.exec P b true fr cs none w:=by unfold stepG;simp only[h5]
 rw[e1];unfold stepG.exec;simp only[h6];exact .inl ⟨_,_,_,rfl⟩
def zf{g g1 gx w w1 wx es ops}(h:stepG P true g w=.go gx wx es)(hr:runT P (solo g w) 0=(.next (solo g1 w1),ops)):gx=g1/\wx=w1:=by rw[runT_solo_go h]at hr;injection hr with h1 h2;injection h1 with h1;exact Tp.pt h1
def yt{g g1 w w1 wx o es ops}(h:stepG P true g w=.ended o wx es)(hr:runT P (solo g w) 0=(.next (solo g1 w1),ops)):False:=by rw[show solo g w=crowd #[g] w none from rfl,runT_many_ended (i:=0) aFU h]at hr;cases hr
def seg0{g g1:Goroutine}{w w1:World}{ops:Array MemOp}{k:Nat}(h:jN P g w g1 w1 ops k):runT P (solo g w) 0=(.next (solo g1 w1),ops):=by have:=h.same w.tape w.drawn (λ_ _=>rfl) #[g] none (Tp.ad0 g) rfl;rw[show w1.re w.tape (w.drawn+k)=w1 by rw[<-h.tape,<-h.drawn];rfl]at this;exact this
def SC{Stop}(hS:∀g w,Stop g w->¬Ea g){g w}(h:Term P Stop g w):¬Ea g:=by induction h with|stop h=>exact hS _ _ h|@next g w nx h1 h2 h3 ih=>intro hl;obtain⟨ops,k,hm⟩:=h1 w.tape w.drawn;have hr:=(seg0 hm);rcases YW (P:=P) hl true (w.re w.tape w.drawn)with⟨o,w',es,he⟩|⟨g1,w1,es,he,hb⟩;exact yt he hr;obtain⟨rfl,rfl⟩:=zf he hr;rcases hb with hb|hb|hb;exact ih _ _ hb;exact hb (h2 _ _).1.run;exact hb (h2 _ _).2
def Down(P:Program)(Stop:Goroutine->World->Prop)(y x:Goroutine×World):Prop:=¬Stop x.1 x.2/\∃τ n ops k,jN P x.1 (x.2.re τ n) y.1 y.2 ops k
def ab1{g g1 g2 w w1 w2 at4 YL k1 k2}(h1:jN P g w g1 w1 at4 k1)(h2:jN P g w g2 w2 YL k2):g1=g2/\w1=w2:=by have a:=(seg0 h1);have b:=(seg0 h2);rw[a]at b;injection b with b _;injection b with b;exact Tp.pt b
def aaT{Stop g w}(h:Term P Stop g w):Acc (Down P Stop) (g,w):=by induction h with|stop h=>exact⟨_,λy hy=>absurd h hy.1⟩|@next g w nx h1 h2 h3 ih=>refine⟨_,λy hy=>?_⟩;obtain⟨_,τ,n,ops,k,hm⟩:=hy;obtain⟨YL,k2,hm2⟩:=h1 τ n;obtain⟨e1,e2⟩:=ab1 hm hm2;obtain⟨y1,y2⟩:=y;dsimp only at e1 e2;subst e1;subst e2;exact ih τ n
def aeD(E:Env)(g:Goroutine):Prop:=g.frame.mode=.run/\∃ops i l k o,g.frame.todo=.inRegion ops (i::l)::k/\ops[i]? =some o/\aeq E o
def acm{Sh}(hC:∀r b,E.C r=some b->r<E.G){v w}(hw:WR E Sh X v w){c c'}(hc:V E X c c') z s:illMade v {chan:=c,send:=s,zero:=z}=true∨c=.chan none:=by unfold illMade;cases hc with|xV=>exact .inr rfl|chan r b h=>refine .inl ?_;dsimp only;rw[hw.lH r (hC r b h)];rfl|_=>exact .inl rfl
def He{Sh}(hC:∀r b,E.C r=some b->r<E.G){v w}(hw:WR E Sh X v w){g g2 c c'}(hc:V E X c c'){z s shape es}(h:stepG P true g v=.comm g2 #[{chan:=c,send:=s,zero:=z}] true shape v es){g1 v1 ops}(hr:runT P (solo g v) 0=(.next (solo g1 v1),ops)):g1.status≠.running:=by
 rcases acm hC hw hc z s with hi|rfl;rw[show solo g v=crowd #[g] v none from rfl,runT_crowd_comm (i:=0) aFU h]at hr;unfold communicate at hr;dsimp only at hr;have avX:(#[{chan:=c,send:=s,zero:=z}]:Array CommCase).any (illMade v)=true:=aGd;split at hr;cases hr;rename_i hx;exact absurd avX hx;have zW:∀cc∈(#[{chan:=.chan none,send:=s,zero:=z}]:Array CommCase),NoWays v ((#[g]:Array Goroutine).setIfInBounds 0 ph) cc:=by
  intro cc xC;have:cc={chan:=.chan none,send:=s,zero:=z}:=by simpa using xC
  subst this;exact⟨rfl,by unfold ways;rfl⟩
 have:=crowd_waits (P:=P) (sl:=none) (i:=0) (gs:=#[g]) aFU h zW;rw[show solo g v=crowd #[g] v none from rfl,this]at hr;injection hr with hr _;injection hr with hr;have:(#[g]:Array Goroutine).setIfInBounds 0 (parked g2 #[{chan:=.chan none,send:=s,zero:=z}] shape)=#[g1]:=congrArg Machine.gs hr;have h3:parked g2 #[{chan:=.chan none,send:=s,zero:=z}] shape=g1:=by simpa using this
 rw[<-h3];simp[parked]
def agv{r}(h:Tp.Wo r):(∃o w' es,r=.ended o w' es)∨∃g1 w1 es,r=.go g1 w1 es/\Bad g1:=by
 cases r with
 |go g v es=>refine .inr ⟨_,_,_,rfl,?_⟩;rcases h with h|⟨h1,d,h2,_⟩;exact .inr (.inl (by rcases h with h|h|h<;>rw[h]<;>simp));exact .inr (.inr (by rw[h2];simp))
 |ended o v es=>exact .inl ⟨_,_,_,rfl⟩|_=>exact h.elim
def Uh{fr cs s v v' h es}(hr:s.runT P v #[]=(.halt h v',es))(u4:kP h)(hd:fr.defers=[]/\∀c∈cs,c.defers=[]):(∃o w' es,stepG.apply P true fr cs none s v=.ended o w' es)∨∃g1 w1 es,stepG.apply P true fr cs none s v=.go g1 w1 es/\Bad g1:=by
 unfold stepG.apply;simp only[if_true];rw[hr];have hl:∀l,Ea {frame:=fr.raise l,callers:=cs,status:=.running,dying:=none}:=λl=>⟨rfl,rfl,⟨by rw[tZ];exact hd.1,hd.2⟩,.inl (raise_mode fr l)⟩;cases h with
 |panic x=>exact .inr ⟨_,_,_,rfl,.inl (hl _)⟩|goexit=>exact .inr ⟨_,_,_,rfl,.inl (hl _)⟩
 |blocked=>exact .inr ⟨_,_,_,rfl,.inr (.inl ζ)⟩|waiting=>exact .inr ⟨_,_,_,rfl,.inr (.inl ζ)⟩
 |exit c=>exact .inl ⟨_,_,_,rfl⟩|fatal m=>exact agv (Tp.kq (Tp.wT _ _ _ _ _ _))
 |throw m=>exact .inr ⟨_,_,_,rfl,.inr (.inr ζ)⟩|unsupported u=>cases u<;>first|exact .inl ⟨_,_,_,rfl⟩|exact u4.elim
 |stuck m=>exact .inl ⟨_,_,_,rfl⟩
def YS t:(∃z,norm P (zeroValue t)=.pure z)∨∃h,kP h/\norm P (zeroValue t)=.halt h:=by unfold zeroValue typeInfo;cases hi:P.info? t with|none=>right;rw[qU (a:=.stuck "no such type") aId];exact⟨.stuck "no such type",trivial,rfl⟩|some i=>rw[jw (a:=i) aId];cases i.zero with|none=>right;refine⟨_,?_,rfl⟩;exact trivial|some z=>exact .inl ⟨z,rfl⟩
def UI{fr cs st off ops i l k o}(hm:fr.mode=.run)(hr:fr.roundOf=none)(ht:fr.todo=.inRegion ops (i::l)::k)(hi:ops[i]? =some o)(hg:o.guard=none) b w:stepG P b ⟨fr,cs,st,none,off⟩ w=stepG.apply P true fr cs none (execOp fr.eval o) w:=by
 have e1:stepG P b ⟨fr,cs,st,none,off⟩ w=stepG.exec P b true fr cs none w:=by unfold stepG;simp only[hm]
 rw[e1];unfold stepG.exec;have acA:∀y,Region.wanted o y=true:=λy=>by unfold Region.wanted;rw[hg]
 have Ze:fr.oper? =some o:=by unfold Frame.oper?;rw[ht];exact hi
 simp only[ht,hi,Option.map_some,cV,acA,if_true];unfold stepG.oper;simp only[Ze,hr]
def Yc fn:seen P fn #[]=#[]:=rfl
def QL {Sh} (hC : ∀ r b, E.C r = some b -> r < E.G) {R g g'} (h : GR P E X R g g') (ht : aeD E g) {v w} (hw : WR E Sh X v w) {g1 v1 ops} (hr : runT P (solo g v) 0 = (.next (solo g1 v1), ops)) : Bad g1 := by
  obtain ⟨hm, atZ, i, l, k, o, e1, e2, e3⟩ := ht
  obtain ⟨fr, cs, st, dy, off⟩ := g
  obtain ⟨_, ⟨rfl, _⟩, h3, ⟨ds, ds', rfl, _, h4⟩⟩ := h
  replace hm : fr.mode = .run := hm
  replace e1 : fr.todo = .inRegion atZ (i :: l) :: k := e1
  have hg : o.guard = none := by
    have := h3.ok
    rw [show (Goroutine.mk fr (ds ++ [wall]) st none off).frame.todo = fr.todo from rfl, e1] at this
    exact (this.head o (Array.mem_of_getElem? e2)).1
  have ig := λb u => UI (P := P) (cs := ds ++ [wall]) (st := st) (off := off) hm h3.round.1 e1 e2 hg b u
  have tu : fr.defers = [] /\ ∀ c ∈ ds ++ [wall], c.defers = [] := ⟨h3.defers.1, h4.clean⟩
  have aiM : ∀ (h : Halt) (es : Array Event), kP h -> (execOp fr.eval o).runT P v #[] = (.halt h v, es) -> Bad g1 := by
    intro h uY u4 jm
    rcases Uh (P := P) jm u4 tu with ⟨o', w', es, he⟩ | ⟨g2, w2, es, he, hb⟩
    · exact (yt ((ig true v).trans he) hr).elim
    · obtain ⟨rfl, rfl⟩ := zf ((ig true v).trans he) hr
      exact hb
  have JR : ∀ (h : Halt), kP h -> norm P (execOp fr.eval o) = .halt h -> Bad g1 := λh u4 hh => aiM h #[] u4 (by rw [jP, hh]; rfl)
  have Aw := ig true v
  have mm := h3.eval
  obtain ⟨dst, op, type, pos, after, guard⟩ := o
  unfold stepG.apply at Aw
  simp only [if_true] at Aw
  cases op with
  | send ch x =>
    have : (execOp fr.eval ⟨dst, .send ch x, type, pos, after, guard⟩).runT P v #[] = (.ok (.comm #[{ chan := fr.eval ch, send := some (fr.eval x), zero := .tuple #[] }] true .send) v, #[]) := rfl
    rw [this] at Aw
    exact .inr (.inl (He hC hw (mm ch e3.1) Aw hr))
  | recv t ch ok =>
    have hex : execOp fr.eval ⟨dst, .recv t ch ok, type, pos, after, guard⟩ = (do
      let .chan _ elem <- underlying t | stuck "receive: channel type expected"
      pure (.comm #[{ chan := fr.eval ch, send := none, zero := <- zeroValue elem }] true (.recv ok))) := rfl
    cases hu : P.underlying t with
    | none =>
      have : ∃ h, kP h /\ norm P (underlying t) = .halt h := by
        unfold underlying
        rw [jw (a := P) rfl, hu]
        refine ⟨_, ?_, rfl⟩; exact trivial
      obtain ⟨h, u4, hh⟩ := this
      exact JR h u4 (by rw [hex, qU hh])
    | some d =>
      have hn := ml hu
      cases d with
      | chan dir elem =>
        rcases YS (P := P) elem with ⟨z, hz⟩ | ⟨h, u4, hz⟩
        · have : (execOp fr.eval ⟨dst, .recv t ch ok, type, pos, after, guard⟩).runT P v #[] = (.ok (.comm #[{ chan := fr.eval ch, send := none, zero := z }] true (.recv ok)) v, #[]) := by
            rw [jP, hex, jw hn]
            dsimp only
            rw [jw hz]
            rfl
          rw [this] at Aw
          exact .inr (.inl (He hC hw (mm ch e3) Aw hr))
        · refine JR h u4 ?_
          rw [hex, jw hn]
          dsimp only
          rw [qU hz]
      | _ => exact JR (.stuck "receive: channel type expected") trivial (by rw [hex, jw hn]; rfl)
  | call c =>
    obtain ⟨h1, x, h2, hx⟩ := e3
    obtain ⟨callee, args, argTypes⟩ := c
    dsimp only at h1 h2
    subst h1; subst h2
    have hex : execOp fr.eval ⟨dst, .call ⟨.builtin .close, #[x], argTypes⟩, type, pos, after, guard⟩ = (do pure (.value (<- Builtin.close_ argTypes type #[fr.eval x]))) := by
      have : (#[x] : Array Operand).map fr.eval = #[fr.eval x] := by simp
      show (do pure (.value (<- Builtin.close_ argTypes type ((#[x] : Array Operand).map fr.eval))) : Sem Next) = _
      rw [this]
    have hv := mm x hx
    revert hv
    generalize fr.eval x = y at hex
    generalize (Goroutine.frame g').eval x = y'
    intro hv
    cases hv with
    | xV => exact JR (.panic (.iface P.rt.plainError (strVal "close of nil channel"))) trivial (by rw [hex]; rfl)
    | chan r b hb =>
      refine aiM (.stuck "getObj: a row of cells") #[] ?_ ?_
      · exact trivial
      · rw [hex]
        have hj := hw.lH r (hC r b hb)
        show Sem.runT P (Sem.getObj r _) v #[] = _
        rw [Sem.runT]
        simp only [hj]
    | _ => exact JR (.stuck "close: one channel expected") trivial (by rw [hex]; rfl)
  | go c =>
    obtain ⟨⟨x, h1, hx⟩, h2⟩ := e3
    obtain ⟨callee, args, argTypes⟩ := c
    dsimp only at h1 h2
    subst h1; subst h2
    have hex : execOp fr.eval ⟨dst, .go ⟨.value x, #[], argTypes⟩, type, pos, after, guard⟩ = (do pure (.spawn (<- Deferred.ofValue (fr.eval x) #[]))) := by
      exact t041
    have hsp : ∀ d, (execOp fr.eval ⟨dst, .go ⟨.value x, #[], argTypes⟩, type, pos, after, guard⟩).runT P v #[] = (.ok (.spawn d) v, #[]) -> Bad g1 := λd hd => by
      rw [hd] at Aw
      simp only [ite_self, Yc] at Aw
      have acI : ∀ {gx child : Goroutine}, stepG P true ⟨fr, ds ++ [wall], st, none, off⟩ v = .spawn gx child v #[] -> False := λ{gx child} Gx => by
        have h3 := runT_crowd_spawn (P := P) (sl := none) (i := 0) (gs := #[⟨fr, ds ++ [wall], st, none, off⟩]) rfl (show stepG P (0 == 0) _ v = .spawn _ _ _ _ from Gx)
        have h4 : runT P (solo ⟨fr, ds ++ [wall], st, none, off⟩ v) 0 = _ := h3
        rw [hr] at h4
        have h5 := (Prod.mk.inj h4).1
        injection h5 with h5
        have h6 := congrArg (λm : Machine => m.gs.size) h5
        simp [solo, crowd] at h6
      split at Aw <;> split at Aw
      · obtain ⟨rfl, rfl⟩ := zf Aw hr
        exact .inr (.inr ζ)
      · exact (acI Aw).elim
      · obtain ⟨rfl, rfl⟩ := zf Aw hr
        exact .inr (.inr ζ)
      · exact (acI Aw).elim
    cases hy : fr.eval x with
    | func f a c => exact hsp _ (by rw [hex, hy]; rfl)
    | nilFunc => exact hsp _ (by rw [hex, hy]; rfl)
    | _ => exact JR (.stuck "call: function value expected") trivial (by rw [hex, hy]; rfl)
  | _ => exact e3.elim
def abe{Sh}(hF:∀f fn b,E.F f->P.funcs[f]? =some fn->fn.body=some b->mO P E b)(hB:Bod P E)(hG:P.globals.size<=E.G)(hC:∀r b,E.C r=some b->r<E.G){Stop}(hS:∀g w,Stop g w->¬Ea g){R g g' v}(h:GR P E X R g g')(ht:Term P Stop g v)(hn:¬Stop g v){w}(hw:WR E Sh X (v.re w.tape w.drawn) w) b':∃g1 v1 Y g1' w1 nM,Down P Stop (g1,v1) (g,v)/\Term P Stop g1 v1/\stepG P b' g' w=.go g1' w1 nM/\GR P E (X++Y) R g1 g1'/\Out E Sh X w Y v1 w1/\∀e∈nM,EvX (X++Y) Sh e:=by
 cases ht with
 |stop hx=>exact absurd hx hn|next nx h1 h2 h3=>
 obtain⟨ops,k,hm⟩:=h1 w.tape w.drawn;have hr:=(seg0 hm);have hnb:¬Bad (nx w.tape w.drawn).1:=by rintro(hb|hb|hb);exact SC hS (h3 _ _) hb;exact hb (h2 _ _).1.run;exact hb (h2 _ _).2
 by_cases q8:aeD E g;exact absurd (QL hC h q8 hw hr) hnb;have hx:=aba hF hB hG h (λVP ops i l k o e1 e2 e3=>q8 ⟨VP,ops,i,l,k,o,e1,e2,e3⟩) hw true b';cases hs:stepG P true g (v.re w.tape w.drawn)with
 |go gx vx es=>obtain⟨rfl,rfl⟩:=zf hs hr;rw[hs]at hx;rcases hx with hx|⟨Y,g1',w1,nM,e1,e2,e3,e4⟩;exact absurd hx hnb;exact⟨_,_,Y,g1',w1,nM,⟨hn,_,_,ops,k,hm⟩,h3 _ _,e1,e2,e3,e4⟩
 |ended o vx es=>exact(yt hs hr).elim|_=>rw[hs]at hx;exact hx.elim
end
end Rn
namespace Rn
open Go.Conc
section
variable{P:Program}
structure Ec(fr:Frame)(o:Oper):Prop where
 mode:fr.mode=.run
 round:fr.roundOf=none
 guard:o.guard=none
 todo:∃ops i l k,fr.todo=.inRegion ops (i::l)::k/\ops[i]? =some o
def ER fn:seen P fn #[]=#[]:=rfl
def Ec.step{fr o}(h:Ec fr o) cs st off b w:stepG P b ⟨fr,cs,st,none,off⟩ w=stepG.apply P true fr cs none (execOp fr.eval o) w:=by obtain⟨ops,i,l,k,h1,h2⟩:=h.todo;exact UI h.mode h.round h1 h2 h.guard b w
theorem Ec.send{fr o}(h:Ec fr o){ch x}(ho:o.op=.send ch x) cs st off b w:stepG P b ⟨fr,cs,st,none,off⟩ w=.comm ⟨fr,cs,.running,none,none⟩ #[{chan:=fr.eval ch,send:=some (fr.eval x),zero:=.tuple #[]}] true .send w #[]:=by
 rw[h.step];unfold stepG.apply;simp only[if_true];have:(execOp fr.eval o).runT P w #[]=(.ok (.comm #[{chan:=fr.eval ch,send:=some (fr.eval x),zero:=.tuple #[]}] true .send) w,#[]):=by obtain⟨dst,op,type,pos,after,guard⟩:=o;dsimp only at ho;subst ho;rfl
 rw[this];simp only[ite_self,ER];rfl
theorem Ec.recv{fr o}(h:Ec fr o){t ch ok}(ho:o.op=.recv t ch ok){d e i z}(ht:P.underlying t=some (.chan d e))(hi:P.info? e=some i)(hz:i.zero=some z) cs st off b w :
  stepG P b ⟨fr,cs,st,none,off⟩ w=.comm ⟨fr,cs,.running,none,none⟩ #[{chan:=fr.eval ch,send:=none,zero:=z}] true (.recv ok) w #[]:=by
 rw[h.step];unfold stepG.apply;simp only[if_true];have:(execOp fr.eval o).runT P w #[]=(.ok (.comm #[{chan:=fr.eval ch,send:=none,zero:=z}] true (.recv ok)) w,#[]):=by
  obtain⟨dst,op,type,pos,after,guard⟩:=o;dsimp only at ho;subst ho;rw[jP];have hex:execOp fr.eval ⟨dst,.recv t ch ok,type,pos,after,guard⟩=(do
   let .chan _ elem <-underlying t|stuck "receive: channel type expected"
   pure (.comm #[{chan:=fr.eval ch,send:=none,zero:=<-zeroValue elem}] true (.recv ok))):=rfl
  rw[hex,jw (ml ht)];dsimp only;have hzv:norm P (zeroValue e)=.pure z:=by
   unfold zeroValue typeInfo;rw[jw (a:=i) aId,hz]
   rfl
  rw[jw hzv];rfl
 rw[this];simp only[ite_self,ER];rfl
def QY fn c:seen P fn #[⟨.obj c,false,true⟩,⟨.obj c,true,true⟩]=#[⟨.obj c,false,true⟩,⟨.obj c,true,true⟩]:=by unfold seen;simp
theorem Ec.close {fr o} (h : Ec fr o) {x ats} (ho : o.op = .call ⟨.builtin .close, #[x], ats⟩) {c room s r buf tm} (hx : fr.eval x = .chan (some c)) (hk : fr.kind ≠ .early) cs st off b {w} (hc : w.heap[c]? = some (.chan room buf false s r tm)) :
    stepG P b ⟨fr, cs, st, none, off⟩ w = .go ⟨fr.finish (.tuple #[]), cs, .running, none, none⟩ { w with heap := w.heap.setIfInBounds c (.chan room buf true s r tm) } #[⟨.obj c, false, true⟩, ⟨.obj c, true, true⟩] := by
  rw [h.step]
  unfold stepG.apply
  simp only [if_true]
  have : (execOp fr.eval o).runT P w #[] = (.ok (.value (.tuple #[])) { w with heap := w.heap.setIfInBounds c (.chan room buf true s r tm) }, #[⟨.obj c, false, true⟩, ⟨.obj c, true, true⟩]) := by
    obtain ⟨dst, op, type, pos, after, guard⟩ := o
    dsimp only at ho
    subst ho
    have hex : execOp fr.eval ⟨dst, .call ⟨.builtin .close, #[x], ats⟩, type, pos, after, guard⟩ = (do pure (.value (<- Builtin.close_ ats type #[fr.eval x]))) := by
      have : (#[x] : Array Operand).map fr.eval = #[fr.eval x] := by simp
      show (do pure (.value (<- Builtin.close_ ats type ((#[x] : Array Operand).map fr.eval))) : Sem Next) = _
      rw [this]
    rw [hex, hx]
    have h1 := run_close_open (P := P) ats type hc
    have h2 := events_close_open (P := P) (es := #[]) ats type hc
    rw [close_some] at h1 h2 |-
    show Sem.runT P (Sem.getObj c _) w #[] = _
    rw [Sem.runT]
    simp only [hc]
    show Sem.runT P (Sem.setObj c _ _) w _ = _
    rw [Sem.runT]
    simp only [hc]
    rfl
  rw [this]
  have BN : (fr.kind == CallKind.early) = false := by cases hq : fr.kind <;> first | rfl | exact absurd hq hk
  simp only [BN, Bool.false_eq_true, if_false, QY]
  rfl
def oB(P:Program)(d:Deferred):Goroutine:={frame:={(default:Frame)with fn:=P.funcs.size,defers:=[d],mode:=.panicking [goexitEntry]},callers:=[],status:=.running,dying:=none}
theorem Ec.go {fr o} (h : Ec fr o) {x ats} (ho : o.op = .go ⟨.value x, #[], ats⟩) {f a c} (hx : fr.eval x = .func (.func f) a c) cs st off b w :
    stepG P b ⟨fr, cs, st, none, off⟩ w = .spawn ⟨fr.finish undef, cs, .running, none, none⟩ (oB P { target := .fn (.func f) c, args := a }) w #[] := by
  rw [h.step]
  unfold stepG.apply
  simp only [if_true]
  have : (execOp fr.eval o).runT P w #[] = (.ok (.spawn { target := .fn (.func f) c, args := a }) w, #[]) := by
    obtain ⟨dst, op, type, pos, after, guard⟩ := o
    dsimp only at ho
    subst ho
    have hex : execOp fr.eval ⟨dst, .go ⟨.value x, #[], ats⟩, type, pos, after, guard⟩ = (do pure (.spawn (<- Deferred.ofValue (fr.eval x) #[]))) := by
      exact t041
    rw [hex, hx]
    show (Result.ok (Next.spawn { target := .fn (.func f) c, args := a ++ #[] }) w, (#[] : Array Event)) = _
    rw [cz]
  rw [this]
  simp only [ite_self, ER]
  rw [if_neg ζ]
  rfl
end
end Rn
namespace Ph
open Go.Conc Rn
open Go.ConcN (sumTo upd sumTo_upd upd_ne upd_same)
open Tp (jN Term Ld)
def Uj{β:Type}(R:β->β->Prop)(m:Nat)(F' F:Nat->β):Prop:=∃i,i<m/\R (F' i) (F i)/\∀j,j≠i->F' j=F j
theorem Nn{β} R:∀m (F:Nat->β),(∀i,i<m->Acc R (F i))->Acc (Uj R m) F
 |0,F,_=>⟨_,λF' ⟨i,hi,_⟩=>absurd hi (eg i)⟩|m+1,F,h=>by
  have key:∀x,Acc R x->∀F:Nat->β,F m=x->(∀i,i<m->Acc R (F i))->Acc (Uj R (m+1)) F:=by
   intro x hx;induction hx with
   |intro x _ ih1=>
   intro F hF hA;have h2:=Nn R m F hA;induction h2 with
   |intro F _ ih2=>
   refine⟨_,λF' hF'=>?_⟩;obtain⟨i,hi,hR,ho⟩:=hF';by_cases him:i=m;subst him;exact ih1 (F' i) (by rw[<-hF];exact hR) F' rfl (λj hj=>by rw[ho j ω];exact hA j hj);have gV:i<m:=by omega
   refine ih2 F' ⟨i,gV,hR,ho⟩ (by rw[ho m (aG him),hF]) (λj hj=>?_);by_cases ij:j=i;subst ij;exact(hA j hj).inv hR;rw[ho j ij];exact hA j hj
  exact key (F m) (h m (bC m)) F rfl (λi hi=>h i (Nat.lt_succ_of_lt hi))
inductive pI(α:Type)
 |iC|jh (a:α)|lS
 |feed (rem:List α)|jJ (a:α) (rem:List α)|lM|iK (k:Nat)|jV
 |spawn (k:Nat)|iq (iP:List α)
inductive St(α:Type)
 |old (r q:Nat)|jd (c:pI α)|born (c:pI α)|live (c:pI α)|iA (c:pI α)
structure Pd(α:Type) where
 st:St α
 g:Goroutine
 v:World
 X:List Nat
structure Net(α:Type) where
 J:Nat
 R:Nat
 D:Nat
 jv:α->Value
 fv:α->Value
 dv:Value
 zJ:Value
 zR:Value
 zD:Value
 A:pI α->Goroutine->World->Prop
 TX:α->Prop
variable{α:Type}
def Net.Stop(N:Net α):pI α->Goroutine->World->Prop
 |.feed rem=>λg v=>(∃a Iu,rem.Perm (a::Iu)/\N.A (.jJ a Iu) g v)∨(rem=[]/\N.A .lM g v)|c=>N.A c
def Net.cases(N:Net α):pI α->Array CommCase
 |.iC=>#[rcase N.J N.zJ]|.jh a=>#[scase N.R (N.fv a) (.tuple #[])]|.lS=>#[scase N.D N.dv (.tuple #[])]|.jJ a _=>#[scase N.J (N.jv a) (.tuple #[])]|.iK _=>#[rcase N.D N.zD]|.iq _=>#[rcase N.R N.zR]|_=>#[]
def Net.shape(_:Net α):pI α->CommShape
 |.iC|.iq _=>.recv true|.iK _=>.recv false|_=>.send
def Dn(P:Program)(N:Net α)(d' d:Pd α):Prop:=(∃c,d.st=.live c/\d'.st=.live c/\Down P (N.Stop c) (d'.g,d'.v) (d.g,d.v))∨∃r q,d.st=.old r (q+1)/\d'.st=.old r q
def ahJ{P N c x}(h:Acc (Down P (N.Stop c)) x):∀d:Pd α,d.st=.live c->(d.g,d.v)=x->Acc (Dn P N) d:=by induction h with|intro x _ ih=>intro d hd he;refine⟨_,λd' hd'=>?_⟩;rcases hd' with⟨c',h1,h2,h3⟩|⟨r,q,h1,_⟩;rw[hd]at h1;cases h1;exact ih _ (by rw[<-he];exact h3) d' h2 rfl;rw[hd]at h1;cases h1
theorem adG{P N} r:∀q (d:Pd α),d.st=.old r q->Acc (Dn P N) d
 |0,d,hd=>⟨_,λd' hd'=>by rcases hd' with⟨c',h1,_⟩|⟨r',q,h1,_⟩<;>rw[hd]at h1<;>cases h1⟩
 |q+1,d,hd=>⟨_,λd' hd'=>by rcases hd' with⟨c',h1,_⟩|⟨r',q',h1,h2⟩;rw[hd]at h1;cases h1;rw[hd]at h1;cases h1;exact adG r q d' h2⟩
def al4{P N}(d:Pd α)(h:∀c,d.st=.live c->Term P (N.Stop c) d.g d.v):Acc (Dn P N) d:=by cases hs:d.st with|live c=>exact ahJ (aaT (h c hs)) d hs rfl|old r q=>exact adG r q d hs|_=>exact⟨_,λd' hd'=>by rcases hd' with⟨c',h1,_⟩|⟨r,q,h1,_⟩<;>rw[hs]at h1<;>cases h1⟩
def base(P:Program):Frame:={(default:Frame)with fn:=P.funcs.size,defers:=[],mode:=.panicking [goexitEntry]}
structure pJ(α:Type) where
 P:Program
 E:Env
 Sh:Nat->Prop
 N:Net α
 n:Nat
 R:Nat->List Frame
 f:Nat->FuncId
 a:Nat->Array Value
 ok0:List Nat->Prop
 top:Nat
variable(C:pJ α)
def pJ.d(i:Nat):Deferred:={target:=.fn (.func (C.f i)) (C.a i),args:=#[]}
def pJ.first(i:Nat):Goroutine:={frame:=Frame.enter C.P (C.f i) (C.a i) .deferred,callers:=[base C.P],status:=.running,dying:=none}
def Ok(t:Trace)(i:Nat)(x:Option Goroutine)(d:Pd α):Prop:=match d.st with
 |.old r q=>(∃y,x=some y/\QuitsD C.P q (Deaf t i) y)/\(r=2->C.N.A .jV d.g d.v)
 |.jd c=>x=none/\C.R i=[base C.P]/\GR C.P C.E d.X (C.R i) d.g (C.first i)/\Term C.P (C.N.Stop c) d.g d.v
 |.born c=>x=some (oB C.P (C.d i))/\C.R i=[base C.P]/\GR C.P C.E d.X (C.R i) d.g (C.first i)/\Term C.P (C.N.Stop c) d.g d.v
 |.live c=>∃g',x=some g'/\GR C.P C.E d.X (C.R i) d.g g'/\Term C.P (C.N.Stop c) d.g d.v
 |.iA c=>∃g',x=some (parked g' (C.N.cases c) (C.N.shape c))/\GR C.P C.E d.X (C.R i) d.g g'/\C.N.A c d.g d.v
def oC(w:World)(d:Pd α):Prop:=WR C.E C.Sh d.X (d.v.re w.tape w.drawn) w
def WR.rQ{E Sh X}{v w w1:World}(h:WR E Sh X (v.re w.tape w.drawn) w)(hs:w.heap.size<=w1.heap.size)(hx:∀b∈X,w1.heap[b]? =w.heap[b]?):WR E Sh X (v.re w1.tape w1.drawn) w1:=⟨h.size,λi b hb=>by obtain⟨o,o',h1,h2,h3⟩:=h.el i b hb;exact⟨o,o',h1,(hx b (List.mem_of_getElem? hb)).trans h2,h3⟩,h.lH,h.nodup,h.shared,λb hb=>ay (h.low b hb) hs,rfl,rfl⟩
def oC.lt{w d}(h:oC C w d){b}(hb:b∈d.X):b<w.heap.size:=by obtain⟨i,hi⟩:=cD hb;obtain⟨_,_,_,h2,_⟩:=WR.el h i b hi;exact(ae.1 h2).1
def oC.BE{w d}(h:oC C w d){b}(hb:b∈d.X){cap s r buf cl tm}:w.heap[b]?≠some (.chan cap buf cl s r tm):=by obtain⟨i,hi⟩:=cD hb;obtain⟨_,_,_,h2,h3⟩:=WR.el h i b hi;rw[h2];intro e;cases e;cases h3
def oC.other{w w1 v1 d X Y}(h:oC C w d)(ho:Out C.E C.Sh X w Y v1 w1)(hd:∀b,b∈d.X->b∈X->C.Sh b):oC C w1 d:=by refine WR.rQ h ho.size λb hb=>?_;by_cases hX:b∈X;exact ho.shared b (hd b hb hX);exact ho.others b (h.lt C hb) hX
def oC.chan{w d}(h:oC C w d){c cap s r buf cl tm}(hc:w.heap[c]? =some (.chan cap buf cl s r tm)) o k:oC C {w with heap:=w.heap.setIfInBounds c o,drawn:=k} d:=by
 refine WR.rQ h (by show w.heap.size<=(w.heap.setIfInBounds c o).size;simp) λb hb=>?_;have iZ:c≠b:=λe=>by subst e;exact h.BE C hb hc
 show(w.heap.setIfInBounds c o)[b]? =w.heap[b]?;rw[ah iZ]
def oC.drawn{w d}(h:oC C w d) k:oC C (w.at k) d:=WR.rQ h ν λ_ _=>rfl
def Ok.trace{t u i x d}(h:Ok C t i x d)(hu:Deaf (t++u) i=Deaf t i):Ok C (t++u) i x d:=by unfold Ok at h|-;rw[hu];exact h
structure Kept(w w':World)(D D':Nat->Pd α):Prop where
 size:w.heap.size<=w'.heap.size
 heap:∀b,b<w.heap.size->b≠C.N.J->b≠C.N.R->b≠C.N.D->((∀i,i<C.n+4->b∉ (D i).X)∨C.Sh b)->w'.heap[b]? =w.heap[b]?
 grow:∀i,∃Y,(D' i).X=(D i).X++Y/\∀b∈Y,w.heap.size<=b
 os:w'.os=w.os
 output:w'.output=w.output
 tape:w'.tape=w.tape
variable{C}
theorem Kept.trans{w w1 w2:World}{D D1 D2:Nat->Pd α}(h:Kept C w w1 D D1)(h':Kept C w1 w2 D1 D2):Kept C w w2 D D2 where
 size:=ak h.size h'.size;heap:=λb hb n1 n2 n3 hx=>by rw[h'.heap b (ay hb h.size) n1 n2 n3 ?_,h.heap b hb n1 n2 n3 hx];rcases hx with hx|hx;refine .inl λi hi hm=>?_;obtain⟨Y,e,hY⟩:=h.grow i;rw[e]at hm;rcases bx.1 hm with hm|hm;exact hx i hi hm;have:=hY b hm;omega;exact .inr hx
 grow:=λi=>by obtain⟨Y,e,hY⟩:=h.grow i;obtain⟨Z,e2,hZ⟩:=h'.grow i;refine⟨Y++Z,by rw[e2,e,aL],λb hb=>?_⟩;rcases bx.1 hb with hb|hb;exact hY b hb;exact ak h.size (hZ b hb)
 os:=h'.os.trans h.os;output:=h'.output.trans h.output;tape:=h'.tape.trans h.tape
def wU{w w' D D'}(hX:∀i,(D' i).X=(D i).X)(hh:w'.heap=w.heap)(h1:w'.os=w.os)(h2:w'.output=w.output)(h3:w'.tape=w.tape):Kept C w w' D D':=⟨by rw[hh];exact ν,λ_ _ _ _ _ _=>by rw[hh],λi=>⟨[],by rw[hX,aO],λ_ h=>by cases h⟩,h1,h2,h3⟩
def mY{w w' D D'}(hX:∀i,(D' i).X=(D i).X){ch}(VT:ch=C.N.J∨ch=C.N.R∨ch=C.N.D){o}(hh:w'.heap=w.heap.setIfInBounds ch o)(h1:w'.os=w.os)(h2:w'.output=w.output)(h3:w'.tape=w.tape):Kept C w w' D D':=⟨by rw[hh];simp,λb _ n1 n2 n3 _=>by rw[hh,ah];rintro rfl;rcases VT with e|e|e;exact n1 e;exact n2 e;exact n3 e,λi=>⟨[],by rw[hX,aO],λ_ h=>by cases h⟩,h1,h2,h3⟩
def pI.role:pI α->Nat
 |.iC|.jh _|.lS=>1|.feed _|.jJ _ _|.lM|.iK _|.jV=>2|.spawn _|.iq _=>3
def St.role:St α->Nat
 |.old r _=>r|.jd c|.born c|.live c|.iA c=>c.role
def pI.tok(p:α->Bool):pI α->Nat
 |.jh a=>[a].countP p|.feed rem=>rem.countP p|.jJ a rem=>(a::rem).countP p|.iq iP=>iP.countP p|_=>0
def St.tok(p:α->Bool):St α->Nat
 |.old _ _=>0|.jd c|.born c|.live c|.iA c=>c.tok p
def pI.ev:pI α->Nat
 |.iC=>2|.jh _=>3|.lS=>1|.feed rem=>7+2*rem.length|.jJ _ rem=>7+2*(rem.length+1)|.lM=>7|.iK k=>5-k|.jV=>1|.spawn k=>5-k|.iq _=>0
def St.ev:St α->Nat
 |.old _ _=>0|.jd c=>c.ev+2|.born c=>c.ev+1|.live c|.iA c=>c.ev
def St.up:St α->Nat
 |.live _=>1|_=>0
def St.said:St α->Nat
 |.old 1 _=>1|_=>0
theorem sumTo_congr{f g}:∀m,(∀i,i<m->f i=g i)->sumTo m f=sumTo m g
 |0,_=>rfl|m+1,h=>by show sumTo m f+f m=sumTo m g+g m;rw[sumTo_congr m (λi hi=>h i ω),h m ω]
theorem sumTo_le{f g}:∀m,(∀i,i<m->f i<=g i)->sumTo m f<=sumTo m g
 |0,_=>ν|m+1,h=>Nat.add_le_add (sumTo_le m (λi hi=>h i ω)) (h m ω)
theorem EJ{f g}:∀m,(∀i,i<m->f i<=g i)->sumTo m g<=sumTo m f->∀i,i<m->f i=g i
 |0,_,_,i,hi=>by omega|m+1,h,hs,i,hi=>by have h1:=sumTo_le m (λi hi=>h i ω);have h2:=h m ω;have hs':sumTo m g+g m<=sumTo m f+f m:=hs;by_cases hm:i=m;subst hm;omega;exact EJ m (λi hi=>h i ω) ω i ω
def aa0{f g} m(h:sumTo m f<sumTo m g):∃i,i<m/\f i<g i:=by
 apply aV;intro hn;have:sumTo m g<=sumTo m f:=sumTo_le m λi hi=>by apply aV;intro hc;exact hn ⟨i,hi,by omega⟩
 omega
def AN{f g m i}(hi:i<m)(h:∀j,j≠i->g j=f j):sumTo m g+f i=sumTo m f+g i:=by
 have:g=upd f i (g i):=by funext j;by_cases hj:j=i;subst hj;rw[upd_same];rw[upd_ne f (g i) hj,h j hj]
 rw[this,upd_same];have:=sumTo_upd f (g i) id hi;simpa using this
end Ph
namespace Ph
open Go.Conc Rn
open Go.ConcN (sumTo upd sumTo_upd upd_ne upd_same le_sumTo)
open Tp (jN Term Ld)
variable{α:Type}(C:pJ α)
def aer(cj cr:Bool)(gN:Nat):pI α->Prop
 |.spawn _|.iq _=>True|.iC|.jh _=>cr=false|.lS=>cj=true/\cr=false|.feed _|.jJ _ _=>cj=false/\cr=false/\gN=0|.lM=>False|.iK k=>cj=true/\cr=false/\gN=k/\k<3|.jV=>cj=true/\cr=false/\gN=3
def lV(cj cr:Bool)(gN:Nat):St α->Prop
 |.old 1 _=>cj=true|.old 2 _=>cj=true/\cr=true/\gN=3|.old _ _=>True|.jd c|.born c=>match c with
  |.iC=>cr=false
  |.feed _=>cj=false/\cr=false/\gN=0
  |_=>False
 |.live c=>match c with
  |.jJ _ _=>False
  |c=>aer cj cr gN c
 |.iA c=>match c with
  |.iC=>cj=false/\cr=false
  |.jh _=>cr=false
  |.jJ _ _=>cj=false/\cr=false/\gN=0
  |.iK k=>cj=true/\cr=false/\gN=k/\k<3
  |.iq _=>cr=false
  |_=>False
def pJ.rl(i:Nat):Nat:=if i=0 then 3 else if i<C.n then 0 else if i<C.n+3 then 1 else 2
def pJ.na(i:Nat):Prop:=i=0∨C.n<=i/\i<C.n+4
structure Ew(all:List α)(s:Nat->St α)(cj cr:Bool)(gB gN:Nat):Prop where
 role:∀i,i<C.n+4->(s i).role=C.rl i
 tok:∀p,sumTo (C.n+4) (λi=>(s i).tok p)=all.countP p
 le:gN<=gB
 said:gB=sumTo (C.n+4) (λi=>(s i).said)
 jG:∀i,i<C.n+4->lV cj cr gN (s i)
 p1:∀i j,i<C.n+4->j<C.n+4->s i=.iA .iC->∀a rem,s j≠.iA (.jJ a rem)
 p2:∀i j,i<C.n+4->j<C.n+4->∀a g,s i=.iA (.jh a)->s j≠.iA (.iq g)
 p3:∀i k,i<C.n+4->s i=.iA (.iK k)->gB=gN
 fits:all.length<=C.top
def iD(D:Nat->Pd α):Nat->St α:=λi=>(D i).st
structure Inv(all:List α)(gs:Array Goroutine)(w:World)(t:Trace)(D:Nat->Pd α)(cj cr:Bool)(gB gN:Nat):Prop where
 pos:0<C.n
 ok:∀i,i<C.n+4->Ok C t i gs[i]? (D i)
 size:gs.size<=C.n+4
 AU:∀i,i<C.n+4->oC C w (D i)
 TJ:∀i j,i<C.n+4->j<C.n+4->i≠j->∀b,b∈(D i).X->b∈(D j).X->C.Sh b
 main:(∃k,k<=3/\(D 0).st=.live (.spawn k)/\gs.size=C.n+k)∨((∃iP,(D 0).st=.live (.iq iP)∨(D 0).st=.iA (.iq iP))/\gs.size=C.n+4)
 Ig:∃s r,w.heap[C.N.J]? =some (.chan 0 #[] cj s r false)
 IW:∃s r,w.heap[C.N.R]? =some (.chan 0 #[] cr s r false)
 LH:w.heap[C.N.D]? =some (.chan 3 (Array.replicate (gB-gN) C.N.dv) false gB gN false)
 ne:C.N.J≠C.N.R/\C.N.J≠C.N.D/\C.N.R≠C.N.D
 jU:Ew C all (iD D) cj cr gB gN
def blk:Loc->Nat
 |.cell a=>a.block|.obj r=>r|_=>0
def Z7(D:Nat->Pd α)(g:Nat)(a:Touch):Prop:=(blk a.loc∈(D g).X/\(a.write=true->¬C.Sh (blk a.loc)))∨(a.write=false/\(a.loc=.obj C.N.J∨a.loc=.obj C.N.R))
def oD(t:Trace)(i gB gN:Nat):Prop:=∃s k z,t[s]? =some z/\z.g=i/\z.act=.send C.N.D k/\k<gB/\t.heard s/\(∀p y a,t[p]? =some y->y.g=i->y.act.touch? =some a->p<s)/\(k<gN->Knows t (C.n+3) s)
def yQ(t:Trace):Prop:=∃c z,t[c]? =some z/\z.g=C.n+3/\z.act=.close C.N.R/\t.heard c/\∀p y a,t[p]? =some y->C.na y.g->y.g≠0->y.act.touch? =some a->Before t p c
structure Tr(t:Trace)(D:Nat->Pd α)(gB gN:Nat):Prop where
 clean:∀said,¬Race said t
 touch:∀p a,touchAt t p=some a->a.loc.isMemory=true->(∀i,C.na i->(∀c,(D i).st≠.jd c)->Knows t i p)∨∃op,t[p]? =some op/\C.na op.g/\Z7 C D op.g a
 deaf:∀i,C.na i->(∀r q,(D i).st≠.old r q)->Deaf t i=0
 said:∀i q,i<C.n+4->(D i).st=.old 1 q->oD C t i gB gN
 shut:∀q,(D (C.n+3)).st=.old 2 q->yQ C t
 above:∀j,C.n+4<=j->Deaf t j=0
variable{C}
def Inv.status{all gs w t D cj cr gB gN}(h:Inv C all gs w t D cj cr gB gN){i x}(hx:gs[i]? =some x):i<C.n+4/\((x.status=.running∨x.status=.finished)∨∃c,(D i).st=.iA c):=by
 have hi:i<C.n+4:=ay (ae.1 hx).1 h.size;refine⟨hi,?_⟩;have:=h.ok i hi;unfold Ok at this;cases hs:(D i).st with
 |old r q=>rw[hs]at this;obtain⟨⟨y,h1,h2⟩,_⟩:=this;rw[hx]at h1;cases h1;exact .inl h2.status
 |jd c=>rw[hs]at this;rw[hx]at this;cases this.1
 |born c=>rw[hs]at this;have h1:=this.1;rw[hx]at h1;cases h1;exact .inl (.inl rfl)
 |live c=>rw[hs]at this;obtain⟨g',h1,h2,_⟩:=this;rw[hx]at h1;cases h1;exact .inl (.inl h2.run.2)
 |iA c=>exact .inr ⟨c,rfl⟩
def Net.chan(N:Net α):pI α->Option (Nat×Bool)
 |.iC=>some (N.J,false)|.jh _=>some (N.R,true)|.lS=>some (N.D,true)|.jJ _ _=>some (N.J,true)|.iK _=>some (N.D,false)|.iq _=>some (N.R,false)|_=>none
def si(N:Net α) c g ch b:offersAt (parked g (N.cases c) (N.shape c)) ch b=if N.chan c=some (ch,b)then [0]else []:=by
 cases c with
 |iC=>cases b<;>simp[Net.cases,Net.shape,Net.chan,offersAt_parked_recv,offersAt_parked_recv']
 |jh a=>cases b<;>simp[Net.cases,Net.shape,Net.chan,offersAt_parked_send,offersAt_parked_send']
 |jJ a r=>cases b<;>simp[Net.cases,Net.shape,Net.chan,offersAt_parked_send,offersAt_parked_send']
 |lS=>cases b<;>simp[Net.cases,Net.shape,Net.chan,offersAt_parked_send,offersAt_parked_send']
 |iK k=>cases b<;>simp[Net.cases,Net.shape,Net.chan,offersAt_parked_recv,offersAt_parked_recv']
 |iq k=>cases b<;>simp[Net.cases,Net.shape,Net.chan,offersAt_parked_recv,offersAt_parked_recv']
 |_=>simp[Net.cases,Net.chan,offersAt,parked]
section
variable{all:List α}{gs:Array Goroutine}{w:World}{t:Trace}{D:Nat->Pd α}{cj cr:Bool}{gB gN:Nat}
def Inv.partner(h:Inv C all gs w t D cj cr gB gN){i ch b j k}(hm:(j,k)∈partners (gs.setIfInBounds i ph) ch b):k=0/\j≠i/\j<C.n+4/\∃c g',(D j).st=.iA c/\C.N.chan c=some (ch,b)/\gs[j]? =some (parked g' (C.N.cases c) (C.N.shape c))/\GR C.P C.E (D j).X (C.R j) (D j).g g'/\C.N.A c (D j).g (D j).v:=by obtain⟨g,hg,hk⟩:=mem_partners.1 hm;rcases getElem?_stand gs i j g hg with⟨rfl,rfl⟩|⟨iZ,hj⟩;rw[offersAt_ph]at hk;cases hk;obtain⟨gV,ig⟩:=h.status hj;rcases ig with ig|⟨c,hc⟩;rw[offersAt_of_not_blocked (by rcases ig with e|e<;>rw[e]<;>simp)]at hk;cases hk;have:=h.ok j gV;unfold Ok at this;rw[hc]at this;obtain⟨g',h1,h2,h3⟩:=this;rw[hj]at h1;cases h1;rw[si]at hk;split at hk;rename_i VT;exact⟨by simpa using hk,iZ,gV,c,g',hc,VT,hj,h2,h3⟩;cases hk
def Inv.BC(h:Inv C all gs w t D cj cr gB gN){i ch b}(hn:∀j c,j<C.n+4->(D j).st=.iA c->C.N.chan c≠some (ch,b)):partners (gs.setIfInBounds i ph) ch b=[]:=by apply List.eq_nil_iff_forall_not_mem.2;rintro⟨j,k⟩hm;obtain⟨_,_,gV,c,g',h1,h2,_⟩:=h.partner hm;exact hn j c gV h1 h2
def Inv.woken(h:Inv C all gs w t D cj cr gB gN){w'}(hJ:∃s r,w'.heap[C.N.J]? =some (.chan 0 #[] cj s r false))(hR:∃s r,w'.heap[C.N.R]? =some (.chan 0 #[] cr s r false))(hD:∃b s r,w'.heap[C.N.D]? =some (.chan 3 b false s r false)) P g g':gs.map (woken P g g' w')=gs:=by
 apply bL;intro j;rw[bu];cases hx:gs[j]? with
 |none=>rfl|some x=>
 rw[Option.map_some];congr 1;obtain⟨gV,ig⟩:=h.status hx;rcases ig with ig|⟨c,hc⟩;unfold Go.Conc.woken;split;exact again_running _ ig;rfl;have jo:=h.ok j gV;have jM:lV cj cr gN (D j).st:=h.jU.jG j gV;unfold Ok at jo;rw[hc]at jo jM;obtain⟨y,h1,_,_⟩:=jo;rw[hx]at h1;cases h1;obtain⟨s1,r1,e1⟩:=hJ;obtain⟨s2,r2,e2⟩:=hR;obtain⟨b3,s3,r3,e3⟩:=hD;cases c with
 |iC=>obtain⟨rfl,_⟩:cj=false/\_:=jM;exact woken_recv_open _ _ e1
 |jh a=>obtain rfl:cr=false:=jM;exact woken_send_open _ _ e2
 |jJ a rem=>obtain⟨rfl,_⟩:cj=false/\_:=jM;exact woken_send_open _ _ e1
 |iK k=>exact woken_recv_open _ _ e3|iq iP=>obtain rfl:cr=false:=jM;exact woken_recv_open _ _ e2
 |_=>exact jM.elim
end
section
variable{all:List α}{s s':Nat->St α}{cj cr cj' cr':Bool}{gB gN sent' rcvd':Nat}
def Ew.EF(h:Ew C all s cj cr gB gN)(CX:∀i,i<C.n+4->(s' i).role=(s i).role)(Li:∀p,sumTo (C.n+4) (λi=>(s' i).tok p)=sumTo (C.n+4) (λi=>(s i).tok p))(hle:rcvd'<=sent')(VJ:sent'=sumTo (C.n+4) (λi=>(s' i).said)) (jM:∀i,i<C.n+4->lV cj' cr' rcvd' (s' i)) (tp:∀i c,i<C.n+4->s' i=.iA c->s i=.iA c) (hp3:∀i k,i<C.n+4->s' i=.iA (.iK k)->sent'=rcvd'):Ew C all s' cj' cr' sent' rcvd' where
 role:=λi hi=>(CX i hi).trans (h.role i hi);tok:=λp=>(Li p).trans (h.tok p);le:=hle;said:=VJ;jG:=jM;p1:=λi j hi hj h1 a rem h2=>h.p1 i j hi hj (tp i _ hi h1) a rem (tp j _ hj h2);p2:=λi j hi hj a g h1 h2=>h.p2 i j hi hj a g (tp i _ hi h1) (tp j _ hj h2);p3:=hp3;fits:=h.fits
def Ew.one(h:Ew C all s cj cr gB gN){i}(hi:i<C.n+4) x(CX:x.role=(s i).role)(Li:∀p,x.tok p=(s i).tok p)(VJ:x.said=(s i).said)(ig:lV cj cr gN x)(hp:∀c,x≠.iA c):Ew C all (upd s i x) cj cr gB gN:=by
 have tp:∀j c,j<C.n+4->upd s i x j=.iA c->s j=.iA c:=λj c hj hc=>by by_cases ij:j=i;subst ij;rw[upd_same]at hc;exact absurd hc (hp c);rwa[upd_ne s x ij]at hc
 refine h.EF (λj hj=>?_) (λp=>?_) h.le ?_ (λj hj=>?_) tp (λj k hj hc=>h.p3 j k hj (tp j _ hj hc));by_cases ij:j=i;subst ij;rw[upd_same,CX];rw[upd_ne s x ij];have:=sumTo_upd s x (λy=>y.tok p) hi;have e:=Li p;omega;have:=sumTo_upd s x (λy=>y.said) hi;have e:=h.said;omega;by_cases ij:j=i;subst ij;rw[upd_same];exact ig;rw[upd_ne s x ij];exact h.jG j hj
theorem Ew.iA(h:Ew C all s cj cr gB gN){i:Nat}(hi:i<C.n+4)(c:pI α)(CX:c.role=(s i).role)(Li:∀p,c.tok p=(s i).tok p)(VJ:0=(s i).said)(ig:lV cj cr gN (.iA c)) (h1:c=.iC->∀j a rem,j<C.n+4->s j≠.iA (.jJ a rem)) (h2:∀a rem,c=.jJ a rem->∀j,j<C.n+4->s j≠.iA .iC) (h3:∀a,c=.jh a->∀j g,j<C.n+4->s j≠.iA (.iq g)) (h4:∀g,c=.iq g->∀j a,j<C.n+4->s j≠.iA (.jh a)) (h5:∀k,c=.iK k->gB=gN):Ew C all (upd s i (.iA c)) cj cr gB gN where
 role:=λj hj=>by by_cases ij:j=i;subst ij;rw[upd_same];exact CX.trans (h.role j hj);rw[upd_ne s _ ij];exact h.role j hj
 tok:=λp=>by have:=sumTo_upd s (.iA c) (λy=>y.tok p) hi;have e:(St.iA c).tok p=(s i).tok p:=Li p;have e2:=h.tok p;omega
 le:=h.le;said:=by have:=sumTo_upd s (.iA c) (λy=>y.said) hi;have e:=h.said;have e2:(St.iA c).said=0:=rfl;omega
 jG:=λj hj=>by by_cases ij:j=i;subst ij;rw[upd_same];exact ig;rw[upd_ne s _ ij];exact h.jG j hj
 p1:=λj k hj hk e1 a rem e2=>by by_cases ij:j=i;subst ij;rw[upd_same]at e1;cases e1;by_cases Ql:k=j;subst Ql;rw[upd_same]at e2;cases e2;rw[upd_ne s _ Ql]at e2;exact h1 rfl k a rem hk e2;rw[upd_ne s _ ij]at e1;by_cases Ql:k=i;subst Ql;rw[upd_same]at e2;cases e2;exact h2 a rem rfl j hj e1;rw[upd_ne s _ Ql]at e2;exact h.p1 j k hj hk e1 a rem e2
 p2:=λj k hj hk a g e1 e2=>by by_cases ij:j=i;subst ij;rw[upd_same]at e1;cases e1;by_cases Ql:k=j;subst Ql;rw[upd_same]at e2;cases e2;rw[upd_ne s _ Ql]at e2;exact h3 a rfl k g hk e2;rw[upd_ne s _ ij]at e1;by_cases Ql:k=i;subst Ql;rw[upd_same]at e2;cases e2;exact h4 g rfl j a hj e1;rw[upd_ne s _ Ql]at e2;exact h.p2 j k hj hk a g e1 e2
 p3:=λj k hj e=>by by_cases ij:j=i;subst ij;rw[upd_same]at e;cases e;exact h5 k rfl;rw[upd_ne s _ ij]at e;exact h.p3 j k hj e
 fits:=h.fits
def Ew.two(h:Ew C all s cj cr gB gN){i j}(hi:i<C.n+4)(hj:j<C.n+4)(qG:i≠j) x y(hx:x.role=(s i).role)(hy:y.role=(s j).role)(Li:∀p,x.tok p+y.tok p=(s i).tok p+(s j).tok p)(VJ:x.said+y.said+gB=(s i).said+(s j).said+sent')(hle:rcvd'<=sent') (ig:∀k,k<C.n+4->k≠i->k≠j->lV cj cr rcvd' (s k)) (hsx:lV cj cr rcvd' x) (hsy:lV cj cr rcvd' y) (hpx:∀c,x≠.iA c) (hpy:∀c,y≠.iA c) (hp3:∀k q,k<C.n+4->k≠i->k≠j->s k=.iA (.iK q)->sent'=rcvd'):Ew C all (upd (upd s i x) j y) cj cr sent' rcvd':=by
 have sm:∀k,upd (upd s i x) j y k=if k=j then y else if k=i then x else s k:=λk=>rfl
 have tp:∀k c,k<C.n+4->upd (upd s i x) j y k=.iA c->k≠i/\k≠j/\s k=.iA c:=λk c hk hc=>by rw[sm]at hc;split at hc;exact absurd hc (hpy c);split at hc;exact absurd hc (hpx c);rename_i h1 h2;exact⟨h2,h1,hc⟩
 have e1:∀φ:St α->Nat,sumTo (C.n+4) (λk=>φ (upd (upd s i x) j y k))+φ (s i)+φ (s j)=sumTo (C.n+4) (λk=>φ (s k))+φ x+φ y:=λφ=>by have a:=sumTo_upd (upd s i x) y φ hj;have b:=sumTo_upd s x φ hi;rw[upd_ne s x (aG qG)]at a;omega
 refine h.EF (λk hk=>?_) (λp=>?_) hle ?_ (λk hk=>?_) (λk c hk hc=>(tp k c hk hc).2.2) (λk q hk hc=>?_);rw[sm];split;rename_i e;subst e;exact hy;split;rename_i e;subst e;exact hx;rfl;have:=e1 (λy=>y.tok p);have e:=Li p;omega;have:=e1 (λy=>y.said);have e:=h.said;omega;rw[sm];split;exact hsy;split;exact hsx;rename_i a b;exact ig k hk b a;obtain⟨a,b,c⟩:=tp k _ hk hc;exact hp3 k q hk a b c
end
end Ph
def t090{p:Prop}(h:p:=by refine .inr ⟨op,by rw[getElem?_append_old hp];exact h1,h2,?_⟩;unfold Z7 at h3|-;rw[hX];exact h3):p:=h
namespace Ph
open Go.Conc Rn
open Go.ConcN (sumTo upd sumTo_upd upd_ne upd_same le_sumTo)
variable{α:Type}{C:pJ α}
def Quiet(u:Trace):Prop:=∀op∈u,op.act.touch? =none/\∀m,op.act≠.mark m
def Quiet.deaf{u}(h:Quiet u) t g:Deaf (t++u) g=Deaf t g:=by
 obtain⟨l⟩:=u;rw[Deaf_append];generalize Deaf t g=d;induction l with
 |nil=>rfl|cons y l ih=>
 have e:deafStep g d y=d:=by have:=(h y ζ).2;exact t033
 exact t050
def CO{said t u}(h:¬Race said t)(hu:∀op∈u,op.act.touch? =none):¬Race said (t++u):=by
 rintro⟨i,j,qG,⟨a,b,ha,hb,hc⟩,n1,n2⟩;obtain⟨x,hx,Au⟩:=touch_of ha;obtain⟨y,hy,hyb⟩:=touch_of hb;rcases getElem?_append_cases hy with⟨hj,hy'⟩|⟨hj,hyu⟩;have hi:i<t.size:=Nat.lt_trans qG hj;have wV:t[i]? =some x:=by rw[<-getElem?_append_old (u:=u) hi];exact hx
 exact h ⟨i,j,qG,⟨a,b,by simp[Trace.act?,wV,Au],by simp[Trace.act?,hy',hyb],hc⟩,λe=>n1 (hb_app u e),λe=>n2 (hb_app u e)⟩;rw[hu y hyu]at hyb;cases hyb
def oD.app{t u i gB gN sent'}(h:oD C t i gB gN)(hu:∀op∈u,op.g=i->op.act.touch? =none)(hs:gB<=sent'):oD C (t++u) i sent' gN:=by obtain⟨s,k,z,h1,h2,h3,h4,h5,h6,h7⟩:=h;have gV:=lt_size_of_getElem? h1;refine⟨s,k,z,by rw[getElem?_append_old gV];exact h1,h2,h3,by omega,(heard_old gV).2 h5,λp y a hp hy ha=>?_,λhk=>(h7 hk).app u⟩;rcases getElem?_append_cases hp with⟨_,OJ⟩|⟨_,hyu⟩;exact h6 p y a OJ hy ha;rw[hu y hyu hy]at ha;cases ha
def yQ.app{t u}(h:yQ C t)(hu:∀op∈u,C.na op.g->op.g≠0->op.act.touch? =none):yQ C (t++u):=by obtain⟨c,z,h1,h2,h3,h4,h5⟩:=h;have gV:=lt_size_of_getElem? h1;refine⟨c,z,by rw[getElem?_append_old gV];exact h1,h2,h3,(heard_old gV).2 h4,λp y a hp hg h0 ha=>?_⟩;rcases getElem?_append_cases hp with⟨_,OJ⟩|⟨_,hyu⟩;exact(h5 p y a OJ hg h0 ha).app u;rw[hu y hyu hg h0]at ha;cases ha
section
variable{t u:Trace}{D D':Nat->Pd α}{gB gN sent' rcvd':Nat}
def Tr.mute(h:Tr C t D gB gN)(hu:∀op∈u,op.act.touch? =none)(hX:∀g,(D' g).X=(D g).X)(hun:∀i,C.na i->(∀c,(D' i).st≠.jd c)->(∀c,(D i).st≠.jd c)∨∀p,Knows t 0 p->Knows (t++u) i p)(h0:∀c,(D 0).st≠.jd c) (hd:∀i,C.na i->(∀r q,(D' i).st≠.old r q)->(∀r q,(D i).st≠.old r q)/\Deaf (t++u) i=Deaf t i) (hs:∀i q,i<C.n+4->(D' i).st=.old 1 q->oD C (t++u) i sent' rcvd') (tn:∀q,(D' (C.n+3)).st=.old 2 q->yQ C (t++u)) (VX:∀j,C.n+4<=j->Deaf (t++u) j=Deaf t j):Tr C (t++u) D' sent' rcvd' where
 clean:=λsaid=>CO (h.clean said) hu;touch:=λp a ha hm=>by obtain⟨x,hx,Au⟩:=touch_of ha;rcases getElem?_append_cases hx with⟨hp,wV⟩|⟨_,hxu⟩;rcases h.touch p a aGo hm with hk|⟨op,h1,h2,h3⟩;refine .inl λi hi hc=>?_;rcases hun i hi hc with h4|h4;exact(hk i hi h4).app u;exact h4 p (hk 0 (.inl rfl) h0);exact t090;rw[hu x hxu]at Au;cases Au
 deaf:=λi hi hc=>by obtain⟨h1,h2⟩:=hd i hi hc;rw[h2];exact h.deaf i hi h1
 said:=hs;shut:=tn;above:=λj hj=>(VX j hj).trans (h.above j hj)
def Jb{X Sh e}(h:EvX X Sh e):(MemAct.ofEvent e).touch? =none∨∃a,(MemAct.ofEvent e).touch? =some a/\blk a.loc∈X/\(a.write=true->¬Sh (blk a.loc)):=by rcases h with rfl|⟨h1,⟨a,h2,h3,h4⟩|⟨r,h2,h3,h4⟩⟩;exact .inl rfl;obtain⟨loc,wr,sy⟩:=e;obtain rfl:loc=.cell a:=h2;obtain rfl:sy=false:=h1;refine .inr ⟨⟨.cell a,wr,.plain⟩,?_,h3,h4⟩;cases wr<;>rfl;obtain⟨loc,wr,sy⟩:=e;obtain rfl:loc=.obj r:=h2;obtain rfl:sy=false:=h1;refine .inr ⟨⟨.obj r,wr,.plain⟩,?_,h3,h4⟩;cases wr<;>rfl
def adN{X Sh es}(h:∀e∈es,EvX X Sh e) d:deafBehind d es=d:=by
 obtain⟨l⟩:=es;unfold deafBehind;rw[<-Array.foldl_toList];show List.foldl _ d l=d;induction l with
 |nil=>rfl|cons e l ih=>
 rw[List.foldl_cons];have he:=h e ζ;have:(match e.loc with|.mark .disable=>d+1|.mark .enable=>d-1|_=>d)=d:=by rcases he with rfl|⟨_,⟨a,h2,_⟩|⟨r,h2,_⟩⟩;rfl;rw[h2];rw[h2]
 refine(congrArg (λx=>List.foldl _ x l) this).trans ?_;exact ih λe' IN=>h e' (by simp at IN|-;exact .inr IN)
def Tr.own(h:Tr C t D gB gN){i}(hg:C.na i){c}(hi:(D i).st=.live c) d'(ig:∃c',d'.st=.live c')(hX:∀b∈(D i).X,b∈d'.X){fn pos es}(he:∀e∈es,EvX d'.X C.Sh e) (aqf:∀j,C.na j->j≠i->∀b,b∈d'.X->b∈(D j).X->C.Sh b) (VT:C.N.J∉d'.X/\C.N.R∉d'.X) (apq:i=0∨∀q,(D (C.n+3)).st≠.old 2 q) (gV:i<C.n+4):Tr C (t++MemOp.ofEvents i fn pos es) (upd D i d') gB gN:=by
 have iB:∀op∈MemOp.ofEvents i fn pos es,op.g=i:=λop jy=>by obtain⟨e,_,rfl⟩:=Go.Conc.mem_ofEvents jy;rfl
 have hnu:∀c,(D i).st≠.jd c:=λc e=>by rw[hi]at e;cases e
 have zW:∀r q,(D i).st≠.old r q:=λr q e=>by rw[hi]at e;cases e
 refine⟨λsaid=>noRace_append (h.clean said) iB λp a ha op jy b hb hc=>?_,λp a ha hm=>?_,λj hj hjo=>?_,λj q hj hq=>?_,λq hq=>?_,λj hj=>(Deaf_other t (g':=i) ω _ iB).trans (h.above j hj)⟩;rcases h.touch p a ha hc.2.1 with hk|⟨o,h1,h2,h3⟩;exact hk i hg hnu;by_cases Ta:o.g=i;have:=knows_own h1;rwa[Ta]at this;exfalso;obtain⟨e,hem,rfl⟩:=Go.Conc.mem_ofEvents jy;rcases Jb (he e hem)with hn|⟨b',sB,m0,kD⟩;rw[hn]at hb;cases hb;rw[sB]at hb;cases hb;rcases h3 with⟨h4,h5⟩|⟨h4,h5⟩;rw[hc.1]at h4 h5;have tn:=aqf o.g h2 Ta _ m0 h4;rcases hc.2.2.1 with hw|hw;exact h5 hw tn;exact kD hw tn;rw[hc.1]at h5;rcases h5 with h5|h5<;>rw[h5]at m0;exact VT.1 m0;exact VT.2 m0;obtain⟨x,hx,Au⟩:=touch_of ha;rcases getElem?_append_cases hx with⟨hp,wV⟩|⟨_,hxu⟩;rcases h.touch p a aGo hm with hk|⟨op,h1,h2,h3⟩;refine .inl λj hj hc=>(hk j hj λc e=>?_).app _;by_cases ij:j=i;subst ij;exact hnu c e;exact hc c (by rw[upd_ne D d' ij];exact e);refine .inr ⟨op,by rw[getElem?_append_old hp];exact h1,h2,?_⟩;by_cases Ta:op.g=i;unfold Z7 at h3|-;rw[Ta]at h3|-;rw[upd_same];rcases h3 with⟨h4,h5⟩|h4;exact .inl ⟨hX _ h4,h5⟩;exact .inr h4;unfold Z7 at h3|-;rw[upd_ne D d' Ta];exact h3;refine .inr ⟨x,hx,by rw[iB x hxu];exact hg,?_⟩;obtain⟨e,hem,rfl⟩:=Go.Conc.mem_ofEvents hxu;rcases Jb (he e hem)with hn|⟨b',sB,m0,kD⟩;rw[hn]at Au;cases Au;rw[sB]at Au;cases Au;unfold Z7;rw[upd_same];exact .inl ⟨m0,kD⟩;by_cases ij:j=i;subst ij;rw[Deaf_own,adN he];exact h.deaf j hj zW;rw[Deaf_other t (g':=i) (aG ij) _ iB];exact h.deaf j hj λr q e=>hjo r q (by rw[upd_ne D d' ij];exact e);have ij:j≠i:=λe=>by subst e;obtain⟨c',e'⟩:=ig;rw[upd_same,e']at hq;cases hq
 rw[upd_ne D d' ij]at hq;exact(h.said j q hj hq).app (λop jy hg=>absurd ((iB op jy).symm.trans hg) (aG ij)) ν;have ij:C.n+3≠i:=λe=>by obtain⟨c',e'⟩:=ig;rw[e,upd_same,e']at hq;cases hq
 rw[upd_ne D d' ij]at hq;rcases apq with rfl|hs;exact(h.shut q hq).app λop jy _ h0=>absurd (iB op jy) h0;exact absurd hq (hs q)
end
end Ph
def t0129{p:Prop}(h:p:=by rcases I.main with⟨_,_,h,_⟩|⟨⟨_,h|h⟩,_⟩<;>rw[h]at e<;>cases e):p:=h
namespace Ph
open Go.Conc Rn
open Go.ConcN (sumTo upd sumTo_upd upd_ne upd_same le_sumTo)
open Tp (jN Term Ld)
variable{α:Type}{C:pJ α}
def pI.aaU:pI α->Bool
 |.iC|.jh _|.lS|.jJ _ _|.iK _|.iq _=>true|_=>false
def ks(g:Goroutine)(v:Value):Goroutine:={g with frame:=g.frame.finish v,status:=.running,offers:=none}
structure Eb(C:pJ α):Prop where
 code:∀f fn b,C.E.F f->C.P.funcs[f]? =some fn->fn.body=some b->mO C.P C.E b
 iy:Bod C.P C.E
 ari:C.P.globals.size<=C.E.G
 adX:∀r b,C.E.C r=some b->r<C.E.G
 re:∀c g v τ n,C.N.A c g v->C.N.A c g (v.re τ n)
 XU:∀c g v,C.N.A c g v->¬Ea g
 started:∀i,C.n<=i->i<C.n+4->C.E.F (C.f i)/\∃fn,C.P.funcs[C.f i]? =some fn
 act:∀c X R g v g',c.aaU=true->C.N.A c g v->GR C.P C.E X R g g'->∀b w,stepG C.P b g' w=.comm {g' with status:=.running,offers:=none} (C.N.cases c) true (C.N.shape c) w #[]
 Ho:∀c ch X R g v g',(c=.lM/\ch=C.N.J∨c=.jV/\ch=C.N.R)->C.N.A c g v->GR C.P C.E X R g g'->mayWake C.P g'=true/\∀b w s r,w.heap[ch]? =some (.chan 0 #[] false s r false)->
  stepG C.P b g' w=.go (ks g' (.tuple #[])) {w with heap:=w.heap.setIfInBounds ch (.chan 0 #[] true s r false)} #[⟨.obj ch,false,true⟩,⟨.obj ch,true,true⟩]
 app0:∀X Y,C.ok0 X->C.ok0 (X++Y)
 Qa:∀k X R g v g',k<=3->C.ok0 X->C.N.A (.spawn k) g v->GR C.P C.E X R g g'->∀b w,stepG C.P b g' w=.spawn (ks g' undef) (oB C.P (C.d (C.n+k))) w #[]
 Qy:(∀a,Rn.Clean (C.N.jv a))/\(∀a,Rn.Clean (C.N.fv a))/\Rn.Clean C.N.dv/\Rn.Clean C.N.zJ/\Rn.Clean C.N.zR
 tx:∀a rem g v,C.N.A (.jJ a rem) g v->C.N.TX a
 abY:∀a g v,C.N.A .iC g v->C.N.TX a->Term C.P (C.N.Stop (.jh a)) (Go.Conc.served g (.tuple #[C.N.jv a,.bool true])) v
 aiF:∀g v,C.N.A .iC g v->Term C.P (C.N.Stop .lS) (Go.Conc.served g (.tuple #[C.N.zJ,.bool false])) v
 abU:∀a g v,C.N.A (.jh a) g v->Term C.P (C.N.Stop .iC) (Go.Conc.served g undef) v
 abW:∀X g v g',C.N.A .lS g v->GR C.P C.E X [base C.P] g g'->∃q,QuitsD C.P q 0 (Go.Conc.served g' undef)
 abV:∀a rem g v,C.N.A (.jJ a rem) g v->Term C.P (C.N.Stop (.feed rem)) (Go.Conc.served g undef) v
 Vn:∀g v,C.N.A .lM g v->Term C.P (C.N.Stop (.iK 0)) (ks g (.tuple #[])) v
 Sl:∀k g v,k<2->C.N.A (.iK k) g v->Term C.P (C.N.Stop (.iK (k+1))) (Go.Conc.served g C.N.dv) v
 K9:∀g v,C.N.A (.iK 2) g v->Term C.P (C.N.Stop .jV) (Go.Conc.served g C.N.dv) v
 Vm:∀X g v g',C.N.A .jV g v->GR C.P C.E X [base C.P] g g'->∃q,QuitsD C.P q 0 (ks g' (.tuple #[]))
 abT:∀k g v,k<3->C.N.A (.spawn k) g v->Term C.P (C.N.Stop (.spawn (k+1))) (ks g undef) v
 Vl:∀g v,C.N.A (.spawn 3) g v->Term C.P (C.N.Stop (.iq [])) (ks g undef) v
 abX:∀a iP g v,(a::iP).length<=C.top->C.N.A (.iq iP) g v->Term C.P (C.N.Stop (.iq (a::iP))) (Go.Conc.served g (.tuple #[C.N.fv a,.bool true])) v
def Eb.stop(L:Eb C) c g v(h:C.N.Stop c g v):¬Ea g:=by
 cases c with
 |feed rem=>rcases h with⟨a,r,_,h⟩|⟨_,h⟩;exact L.XU _ _ _ h;exact L.XU _ _ _ h
 |_=>exact L.XU _ _ _ h
def JW{P E X R g g' h h'}(hg:GR P E X R g g'){u u'}(hu:V E X u u')(e1:h=ks g u)(e2:h'=ks g' u'):GR P E X R h h':=by subst e1;subst e2;exact⟨⟨rfl,rfl⟩,hg.dy,hg.frame.finish hu,hg.callers⟩
def Jp{E Sh X v w}(h:WR E Sh X v w):WR E Sh X (v.re w.tape w.drawn) w:=by
 have:v.re w.tape w.drawn=v:=by rw[<-h.tape,<-h.drawn];rfl
 rw[this];exact h
def Inv.na{all gs w t D cj cr gB gN}(h:Inv C all gs w t D cj cr gB gN){i}(hi:i<C.n+4)(hr:(D i).st.role≠0):C.na i:=by have:=h.jU.role i hi;unfold pJ.rl at this;unfold pJ.na;by_cases h0:i=0;exact .inl h0;refine .inr ⟨?_,hi⟩;apply aV;intro hc;rw[if_neg h0,if_pos ω]at this;exact hr this
def Inv.Ls{all gs w t D cj cr gB gN}(h:Inv C all gs w t D cj cr gB gN){i}(hi:C.na i):i<C.n+4:=by have:=h.pos;rcases hi with rfl|⟨_,hi⟩<;>omega
def px(c:pI α):c.role≠0:=by cases c<;>simp[pI.role]
section
variable{all:List α}{gs:Array Goroutine}{w:World}{t:Trace}{D:Nat->Pd α}{cj cr:Bool}{gB gN:Nat}{sl:Option (Nat×Nat)}
def abZ(L:Eb C)(I:Inv C all gs w t D cj cr gB gN)(T:Tr C t D gB gN){i}(hi:i<C.n+4){c}(ig:(D i).st=.live c)(hn:¬C.N.Stop c (D i).g (D i).v):∃gs' w' u D',runT C.P (crowd gs w sl) i=(.next (crowd gs' w' sl),u)/\Inv C all gs' w' (t++u) D' cj cr gB gN/\Tr C (t++u) D' gB gN/\Uj (Dn C.P C.N) (C.n+4) D' D/\(∀j,(D' j).st=(D j).st)/\Kept C w w' D D':=by
 have jo:=I.ok i hi;unfold Ok at jo;rw[ig]at jo;obtain⟨g',hx,oX,acD⟩:=jo;have aiL:=I.AU i hi;obtain⟨g1,v1,Y,g1',w1,nM,aqd,akT,zT,IK,uo,mm⟩:=abe L.code L.iy L.ari L.adX (L.stop c) oX acD hn aiL (i==0);have gV:i<gs.size:=(ae.1 hx).1;have ac3:∀(ch:Nat)(o:Obj),(∃cap buf cl s r tm,o=.chan cap buf cl s r tm)->w.heap[ch]? =some o->w1.heap[ch]? =some o:=by rintro ch o⟨cap,buf,cl,s,r,tm,rfl⟩h;rw[uo.others ch (ae.1 h).1 (λhm=>aiL.BE C hm h)];exact h
 have hJ:∃s r,w1.heap[C.N.J]? =some (.chan 0 #[] cj s r false):=let⟨s,r,h⟩:=I.Ig;⟨s,r,ac3 _ _ ⟨_,_,_,_,_,_,rfl⟩ h⟩;have hR:∃s r,w1.heap[C.N.R]? =some (.chan 0 #[] cr s r false):=let⟨s,r,h⟩:=I.IW;⟨s,r,ac3 _ _ ⟨_,_,_,_,_,_,rfl⟩ h⟩;have hD:=ac3 _ _ ⟨_,_,_,_,_,_,rfl⟩ I.LH;have jm:=runT_crowd_go (P:=C.P) (sl:=sl) hx zT;rw[I.woken hJ hR ⟨_,_,_,hD⟩]at jm;have iB:∀op∈MemOp.ofEvents i g'.frame.fn g'.frame.place nM,op.g=i:=λop jy=>by obtain⟨e,_,rfl⟩:=Go.Conc.mem_ofEvents jy;rfl
 let d':Pd α:=⟨.live c,g1,v1,(D i).X++Y⟩;have als:∀j,(upd D i d' j).st=(D j).st:=λj=>by by_cases ij:j=i;subst ij;rw[upd_same];exact ig.symm;rw[upd_ne D d' ij]
 have Tt:∀j,j≠i->(upd D i d' j)=D j:=λj hj=>upd_ne D d' hj;have qY:∀j,j<C.n+4->j≠i->∀b,b∈(D i).X++Y->b∈(D j).X->C.Sh b:=λj hj ij b hb Pe=>by rcases bx.1 hb with hb|hb;exact I.TJ i j hi hj (aG ij) b hb Pe;have h1:=(uo.fresh b hb).1;have h2:=(I.AU j hj).lt C Pe;omega
 have xA:C.na i:=I.na hi (by rw[ig];exact px c);refine⟨_,w1,_,upd D i d',jm,?_,?_,⟨i,hi,?_,λj hj=>Tt j hj⟩,als,⟨uo.size,λb hb _ _ _ hx=>hx.elim (λhx=>uo.others b hb (hx i hi)) (λhx=>uo.shared b hx),λj=>?_,uo.os,uo.output,uo.tape⟩⟩;refine⟨I.pos,λj hj=>?_,by simpa using I.size,λj hj=>?_,λj k hj hk hjk b Pe Qo=>?_,?_,hJ,hR,hD,I.ne,?_⟩;by_cases ij:j=i;subst ij;rw[upd_same,aj gV];exact⟨g1',rfl,IK,akT⟩;rw[Tt j ij,ah (aG ij)];exact(I.ok j hj).trace C (Deaf_other t (g':=i) (aG ij) _ iB);by_cases ij:j=i;subst ij;rw[upd_same];exact Jp uo.rel;rw[Tt j ij];exact(I.AU j hj).other C uo λb h1 h2=>I.TJ j i hj hi ij b h1 h2;by_cases ij:j=i;subst ij;rw[upd_same]at Pe;rw[Tt k (aG hjk)]at Qo;exact qY k hk (aG hjk) b Pe Qo;rw[Tt j ij]at Pe;by_cases Ql:k=i;subst Ql;rw[upd_same]at Qo;exact qY j hj ij b Qo Pe;rw[Tt k Ql]at Qo;exact I.TJ j k hj hk hjk b Pe Qo;rw[als,bt];exact I.main;have:iD (upd D i d')=iD D:=funext als;rw[this];exact I.jU;obtain⟨s1,r1,e1⟩:=hJ;obtain⟨s2,r2,e2⟩:=hR;have hrel:=Jp uo.rel;refine T.own xA ig d' ⟨c,rfl⟩ (λb hb=>cC _ hb) mm (λj hj ij b hb Pe=>qY j (I.Ls hj) ij b hb Pe) ⟨λhm=>?_,λhm=>?_⟩ ?_ hi;exact oC.BE C (d:=d') hrel hm e1;exact oC.BE C (d:=d') hrel hm e2;by_cases h0:i=0;exact .inl h0;refine .inr λq hq=>?_;have Gx:lV cj cr gN (D (C.n+3)).st:=I.jU.jG (C.n+3) ω;rw[hq]at Gx;have zU:lV cj cr gN (D i).st:=I.jU.jG i hi;have uW:(D i).st.role=C.rl i:=I.jU.role i hi;rw[ig]at zU uW;obtain⟨_,qH,_⟩:=Gx;have Ib:c.role≠3:=by rw[show c.role=C.rl i from uW];unfold pJ.rl;rw[if_neg h0];split;omega;split<;>omega
 cases c with
 |iC=>have:cr=false:=zU;rw[this]at qH;cases qH
 |jh a=>have:cr=false:=zU;rw[this]at qH;cases qH
 |lS=>have:cj=true/\cr=false:=zU;rw[this.2]at qH;cases qH
 |feed rem=>have:cj=false/\cr=false/\_:=zU;rw[this.2.1]at qH;cases qH
 |jJ a rem=>exact zU.elim|lM=>exact zU.elim
 |iK k=>have:cj=true/\cr=false/\_:=zU;rw[this.2.1]at qH;cases qH
 |jV=>have:cj=true/\cr=false/\_:=zU;rw[this.2.1]at qH;cases qH
 |spawn k=>exact absurd rfl Ib|iq iP=>exact absurd rfl Ib
 show Dn C.P C.N (upd D i d' i) (D i);rw[upd_same];exact .inl ⟨c,ig,rfl,aqd⟩;by_cases ij:j=i;subst ij;rw[upd_same];exact⟨Y,rfl,λb hb=>(uo.fresh b hb).1⟩;rw[Tt j ij];exact⟨[],by rw[aO],λ_ h=>by cases h⟩
def ab0(I:Inv C all gs w t D cj cr gB gN)(T:Tr C t D gB gN){i}(hi:i<C.n+4)(pT:0<i){r q}(ig:(D i).st=.old r q){x}(hx:gs[i]? =some x)(hr:x.status=.running):∃gs' w' u D',runT C.P (crowd gs w sl) i=(.next (crowd gs' w' sl),u)/\Inv C all gs' w' (t++u) D' cj cr gB gN/\Tr C (t++u) D' gB gN/\Uj (Dn C.P C.N) (C.n+4) D' D/\(∀φ:St α->Nat,(∀r a b,φ (.old r a)=φ (.old r b))->∀j,φ (D' j).st=φ (D j).st)/\Kept C w w' D D':=by
 have jo:=I.ok i hi;unfold Ok at jo;rw[ig]at jo;obtain⟨⟨y,hy,hq⟩,hA2⟩:=jo;rw[hx]at hy;cases hy;cases q with
 |zero=>rw[hq.1]at hr;cases hr
 |succ k=>
 rcases hq with⟨hf,_⟩|⟨_,g',es,hm,akV,hq'⟩;rw[hf]at hr;cases hr;have kV:(i==0)=false:=aFJ;have gV:i<gs.size:=(ae.1 hx).1;have jm:=runT_crowd_go (P:=C.P) (w:=w) (sl:=sl) hx (by rw[kV];exact akV w);rw[I.woken I.Ig I.IW ⟨_,_,_,I.LH⟩]at jm;have iB:∀op∈MemOp.ofEvents i x.frame.fn x.frame.place es,op.g=i:=λop jy=>by obtain⟨e,_,rfl⟩:=Go.Conc.mem_ofEvents jy;rfl
 let d':Pd α:=⟨.old r k,(D i).g,(D i).v,(D i).X⟩;have hX:∀j,(upd D i d' j).X=(D j).X:=λj=>by by_cases ij:j=i;subst ij;rw[upd_same];rw[upd_ne D d' ij]
 have hv:∀j,(upd D i d' j).v=(D j).v:=λj=>by by_cases ij:j=i;subst ij;rw[upd_same];rw[upd_ne D d' ij]
 have iZ:∀j,j≠i->upd D i d' j=D j:=λj hj=>upd_ne D d' hj;have qW:iD (upd D i d')=upd (iD D) i (.old r k):=by funext j;by_cases ij:j=i;subst ij;show(upd D j d' j).st=_;rw[upd_same,upd_same];show(upd D i d' j).st=_;rw[upd_ne D d' ij,upd_ne _ _ ij];rfl
 have CX:=I.jU.jG i hi;have Pb:∀j,j≠i->Deaf (t++MemOp.ofEvents i x.frame.fn x.frame.place es) j=Deaf t j:=λj hj=>Deaf_other t (g':=i) (aG hj) _ iB;have acU:∀op∈MemOp.ofEvents i x.frame.fn x.frame.place es,op.act.touch? =none:=λop jy=>by obtain⟨e,he,rfl⟩:=Go.Conc.mem_ofEvents jy;exact touch_mute (hm e he)
 refine⟨_,w,_,upd D i d',jm,⟨I.pos,λj hj=>?_,by simpa using I.size,λj hj=>?_,λj k hj hk hjk b Pe Qo=>?_,?_,I.Ig,I.IW,I.LH,I.ne,?_⟩,?_,⟨i,hi,?_,iZ⟩,λφ hφ j=>?_,wU hX rfl rfl rfl rfl⟩;by_cases ij:j=i;subst ij;rw[upd_same,aj gV];exact⟨⟨g',rfl,by rw[Deaf_own];exact hq'⟩,hA2⟩;rw[iZ j ij,ah (aG ij)];exact(I.ok j hj).trace C (Pb j ij);unfold oC;rw[hX,hv];exact I.AU j hj;rw[hX]at Pe Qo;exact I.TJ j k hj hk hjk b Pe Qo;rw[iZ 0 ω,bt];exact I.main;rw[qW];have e1:(iD D i)=.old r (k+1):=ig;refine I.jU.one hi _ aFO aGq (by rw[e1];cases r with|zero=>rfl|succ r=>cases r<;>rfl) ?_ aFS;have h2:lV cj cr gN (D i).st:=I.jU.jG i hi;rw[ig]at h2;match r,h2 with
 |0,h2=>exact h2
 |1,h2=>exact h2
 |2,h2=>exact h2
 |r+3,h2=>exact h2
 have hold:∀j r' q',(upd D i d' j).st=.old r' q'->∃q'',(D j).st=.old r' q'':=λj r' q' e=>by by_cases ij:j=i;subst ij;rw[upd_same]at e;cases e;exact⟨_,ig⟩;rw[iZ j ij]at e;exact⟨_,e⟩
 refine T.mute acU hX (λj hj hc=>.inl λc e=>?_) (λc e=>?_) (λj hj hc=>?_) (λj q' hj e=>?_) (λq' e=>?_) (λj hj=>Pb j ω);by_cases ij:j=i;subst ij;rw[ig]at e;cases e;exact hc c (by rw[iZ j ij];exact e);exact t0129;have ij:j≠i:=λe=>by subst e;exact hc r k (by rw[upd_same])
 rw[iZ j ij]at hc;exact⟨hc,Pb j ij⟩;obtain⟨q'',h⟩:=hold j 1 q' e;exact(T.said j q'' hj h).app (λop jy _=>acU op jy) ν;obtain⟨q'',h⟩:=hold _ 2 q' e;exact(T.shut q'' h).app λop jy _ _=>acU op jy;rw[upd_same];exact .inr ⟨r,k,ig,rfl⟩;by_cases ij:j=i;subst ij;rw[upd_same,ig];exact hφ r k (k+1);rw[iZ j ij]
end
end Ph
def t0119{p:Prop}(h:p:=by exact .inl ⟨upd_ne D _ ij,ah (aG ij)⟩):p:=h
def t0108{p:Prop}(h:p:=by by_cases ij:C.n+3=i;rw[ij,upd_same]at e;cases e;rw[upd_ne D _ ij]at e;exact⟨q,e⟩):p:=h
def t0105{p:Prop}(h:p:=by by_cases ij:j=i;subst ij;rw[ig]at e;cases e;exact⟨r,q,by rw[upd_ne D _ ij];exact e⟩):p:=h
def t084{p:Prop}(h:p:=by by_cases ij:j=i;subst ij;rw[upd_same]at e;cases e;rw[upd_ne D _ ij]at e;rw[cz];exact T.said j q hj e):p:=h
def t040{p:Prop}(h:p:=by by_cases ij:j=i;subst ij;rw[ig]at e;cases e;exact⟨c',by rw[upd_ne D _ ij];exact e⟩):p:=h
namespace Ph
open Go.Conc Rn
open Go.ConcN (sumTo upd sumTo_upd upd_ne upd_same le_sumTo)
open Tp (jN Term Ld)
variable{α:Type}{C:pJ α}
section
variable{all:List α}{gs gs':Array Goroutine}{w w':World}{t u:Trace}{D D':Nat->Pd α}{cj cr cj' cr':Bool}{gB gN sent' rcvd':Nat}{sl:Option (Nat×Nat)}
def ahZ(D' D:Nat->Pd α):Prop:=∀j,(D' j).X=(D j).X/\(D' j).v=(D j).v
def Inv.quiet(I:Inv C all gs w t D cj cr gB gN)(hS:ahZ D' D)(hu:Quiet u)(jo:∀j,j<C.n+4->(D' j=D j/\gs'[j]? =gs[j]?)∨Ok C t j gs'[j]? (D' j))(pL:gs'.size<=C.n+4)(hw:∀j,j<C.n+4->oC C w (D j)->oC C w' (D j)) (CY:(∃k,k<=3/\(D' 0).st=.live (.spawn k)/\gs'.size=C.n+k)∨((∃iP,(D' 0).st=.live (.iq iP)∨(D' 0).st=.iA (.iq iP))/\gs'.size=C.n+4)) (hJ:∃s r,w'.heap[C.N.J]? =some (.chan 0 #[] cj' s r false)) (hR:∃s r,w'.heap[C.N.R]? =some (.chan 0 #[] cr' s r false)) (hD:w'.heap[C.N.D]? =some (.chan 3 (Array.replicate (sent'-rcvd') C.N.dv) false sent' rcvd' false)) (jU:Ew C all (iD D') cj' cr' sent' rcvd'):Inv C all gs' w' (t++u) D' cj' cr' sent' rcvd':=⟨I.pos,λj hj=>by
 rcases jo j hj with⟨h1,h2⟩|h;rw[h1,h2];exact(I.ok j hj).trace C (hu.deaf t j);exact h.trace C (hu.deaf t j),pL,λj hj=>by
 have:=hw j hj (I.AU j hj);unfold oC at this|-;rw[(hS j).1,(hS j).2];exact this,λj k hj hk hjk b Pe Qo=>I.TJ j k hj hk hjk b (by rw[<-(hS j).1];exact Pe) (by rw[<-(hS k).1];exact Qo),CY,hJ,hR,hD,I.ne,jU⟩
def Inv.zero(I:Inv C all gs w t D cj cr gB gN):∀c,(D 0).st≠.jd c:=λc e=>by exact t0129
def Tr.quiet(I:Inv C all gs w t D cj cr gB gN)(T:Tr C t D gB gN)(hS:ahZ D' D)(hu:Quiet u)(hun:∀j c,(D j).st=.jd c->∃c',(D' j).st=.jd c')(ho:∀j r q,(D j).st=.old r q->∃r' q',(D' j).st=.old r' q') (hs:∀j q,j<C.n+4->(D' j).st=.old 1 q->oD C (t++u) j sent' rcvd') (tn:∀q,(D' (C.n+3)).st=.old 2 q->∃q',(D (C.n+3)).st=.old 2 q'):Tr C (t++u) D' sent' rcvd':=T.mute (λop jy=>(hu op jy).1) (λj=>(hS j).1) (λj _ hc=>.inl λc e=>by obtain⟨c',h⟩:=hun j c e;exact hc c' h) I.zero (λj _ hc=>⟨λr q e=>by obtain⟨r',q',h⟩:=ho j r q e;exact hc r' q' h,hu.deaf t j⟩) hs (λq e=>by obtain⟨q',h⟩:=tn q e;exact(T.shut q' h).app λop jy _ _=>(hu op jy).1) (λj _=>hu.deaf t j)
def ly D i(d:Pd α):iD (upd D i d)=upd (iD D) i d.st:=by funext j;by_cases ij:j=i;subst ij;show(upd D j d j).st=_;rw[upd_same,upd_same];show(upd D i d j).st=_;rw[upd_ne D d ij,upd_ne _ _ ij];rfl
def Pd.to(d:Pd α)(s:St α)(g:Goroutine):Pd α:=⟨s,g,d.v,d.X⟩
def vk D i(s:St α) g:ahZ (upd D i ((D i).to s g)) D:=λj=>by by_cases ij:j=i;subst ij;rw[upd_same];exact⟨rfl,rfl⟩;rw[upd_ne D _ ij];exact⟨rfl,rfl⟩
def sJ D i j(s s':St α) g g':ahZ (upd (upd D i ((D i).to s g)) j ((D j).to s' g')) D:=λk=>by by_cases hkj:k=j;subst hkj;rw[upd_same];exact⟨rfl,rfl⟩;rw[upd_ne _ _ hkj];exact vk D i s g k
def wG:Quiet (#[]:Trace):=λop jy=>by simp at jy
def ZL{P E}(hB:Bod P E){f fn}(hF:E.F f)(hf:P.funcs[f]? =some fn) a b w:stepG P b (oB P {target:=.fn (.func f) a,args:=#[]}) w=.go {frame:=Frame.enter P f a .deferred,callers:=[base P],status:=.running,dying:=none} w #[]:=by
 obtain⟨h1,h2⟩:=hB f fn hF hf;have e1:stepG P b (oB P {target:=.fn (.func f) a,args:=#[]}) w=callDeferred P (base P) [] none {target:=.fn (.func f) a,args:=#[]} w:=rfl;rw[e1];unfold callDeferred;have jm:(invoke (.fn (.func f) a) #[]).runT P w #[]=(.ok (.enter f a) w,#[]):=by show(callFunc f (#[]++a)).runT P w #[]=_;rw[bM];unfold callFunc;show Sem.runT P (match P.funcs[f]? with|none=>stuck "call: no such function" |some fn=>_) w #[]=_;rw[hf];simp only[h1,h2,Bool.false_eq_true,if_false];rfl
 simp only[jm];rfl
def YU(L:Eb C)(I:Inv C all gs w t D cj cr gB gN)(T:Tr C t D gB gN){i}(hi:i<C.n+4){c}(ig:(D i).st=.born c):∃gs' w' u D',runT C.P (crowd gs w sl) i=(.next (crowd gs' w' sl),u)/\Inv C all gs' w' (t++u) D' cj cr gB gN/\Tr C (t++u) D' gB gN/\iD D'=upd (iD D) i (.live c)/\Kept C w w' D D':=by
 have jo:=I.ok i hi;unfold Ok at jo;rw[ig]at jo;obtain⟨hx,hR,oX,acD⟩:=jo;have gV:i<gs.size:=(ae.1 hx).1;have Qh:=I.jU.role i hi;have qH:c.role=C.rl i:=by have:(D i).st.role=C.rl i:=Qh;rw[ig]at this;exact this
 have hc:c=.iC/\cr=false∨∃rem,c=.feed rem/\cj=false/\cr=false/\gN=0:=by have:=I.jU.jG i hi;rw[show iD D i=.born c from ig]at this;cases c<;>first|exact .inl ⟨rfl,this⟩|exact .inr ⟨_,rfl,this⟩|exact this.elim
 have pT:C.n<=i:=by
  have h1:c.role=1∨c.role=2:=by rcases hc with⟨rfl,_⟩|⟨_,rfl,_⟩<;>simp[pI.role]
  unfold pJ.rl at qH;apply aV;intro hn;by_cases h0:i=0;rw[if_pos h0]at qH;omega;rw[if_neg h0,if_pos ω]at qH;omega
 have kV:=I.pos;obtain⟨hF,fn,hf⟩:=L.started i pT hi;have zT:=ZL (P:=C.P) L.iy hF hf (C.a i) (i==0) w;have jm:=runT_crowd_go (P:=C.P) (sl:=sl) hx zT;rw[I.woken I.Ig I.IW ⟨_,_,_,I.LH⟩]at jm;have hu:MemOp.ofEvents i (oB C.P (C.d i)).frame.fn (oB C.P (C.d i)).frame.place #[]=#[]:=rfl;rw[hu]at jm;have hS:=vk D i (.live c) (D i).g;refine⟨_,w,#[],_,jm,I.quiet hS wG (λj hj=>?_) (by simpa using I.size) (λ_ _ h=>h) ?_ I.Ig I.IW I.LH ?_,T.quiet I hS wG (λj c' e=>?_) (λj r q e=>?_) (λj q hj e=>?_) (λq e=>?_),ly _ _ _,wU (λj=>(hS j).1) rfl rfl rfl rfl⟩;by_cases ij:j=i;subst ij;refine .inr ?_;rw[upd_same,aj gV];exact⟨_,rfl,oX,acD⟩;exact t0119;rw[upd_ne D _ ω,bt];exact I.main;rw[ly];have e1:iD D i=.born c:=ig;refine I.jU.one hi _ aFO aGq aFO ?_ aFS;rcases hc with⟨rfl,h⟩|⟨rem,rfl,h⟩<;>exact h;exact t040;exact t0105;exact t084;exact t0108
def pF{P E X R g g'}(h:GR P E X R g g'):GR P E X R g {g' with status:=.running,offers:=none}:=⟨⟨h.run.1,rfl⟩,h.dy,h.frame,h.callers⟩
def tb(L:Eb C)(I:Inv C all gs w t D cj cr gB gN)(T:Tr C t D gB gN){i}(hi:i<C.n+4){c0 c}(ig:(D i).st=.live c0)(hA:C.N.A c (D i).g (D i).v)(apd:c.aaU=true)(CX:c.role=c0.role)(Li:∀p,c.tok p=c0.tok p) (zW:∀cc∈C.N.cases c,NoWays w (gs.setIfInBounds i ph) cc) (jM:lV cj cr gN (.iA c)) (h1:c=.iC->∀j a rem,j<C.n+4->(D j).st≠.iA (.jJ a rem)) (h2:∀a rem,c=.jJ a rem->∀j,j<C.n+4->(D j).st≠.iA .iC) (h3:∀a,c=.jh a->∀j g,j<C.n+4->(D j).st≠.iA (.iq g)) (h4:∀g,c=.iq g->∀j a,j<C.n+4->(D j).st≠.iA (.jh a)) (h5:∀k,c=.iK k->gB=gN) (CY:i=0->∃iP,c0=.iq iP/\c=.iq iP):∃gs' w' u D',runT C.P (crowd gs w sl) i=(.next (crowd gs' w' sl),u)/\Inv C all gs' w' (t++u) D' cj cr gB gN/\Tr C (t++u) D' gB gN/\iD D'=upd (iD D) i (.iA c)/\Kept C w w' D D':=by have jo:=I.ok i hi;unfold Ok at jo;rw[ig]at jo;obtain⟨g',hx,oX,_⟩:=jo;have gV:i<gs.size:=(ae.1 hx).1;have rF:=L.act c _ _ _ _ _ apd hA oX (i==0) w;have jm:=crowd_waits (P:=C.P) (sl:=sl) hx rF zW;have hu:MemOp.ofEvents i g'.frame.fn g'.frame.place #[]=#[]:=rfl;rw[hu]at jm;have hS:=vk D i (.iA c) (D i).g;refine⟨_,w,#[],_,jm,I.quiet hS wG (λj hj=>?_) (by simpa using I.size) (λ_ _ h=>h) ?_ I.Ig I.IW I.LH ?_,T.quiet I hS wG (λj c' e=>?_) (λj r q e=>?_) (λj q hj e=>?_) (λq e=>?_),ly _ _ _,wU (λj=>(hS j).1) rfl rfl rfl rfl⟩;by_cases ij:j=i;subst ij;refine .inr ?_;rw[upd_same,aj gV];exact⟨_,rfl,pF oX,hA⟩;exact t0119;rw[bt];by_cases h0:i=0;subst h0;obtain⟨iP,rfl,rfl⟩:=CY rfl;rw[upd_same];rcases I.main with⟨_,_,h,_⟩|⟨_,h⟩;rw[ig]at h;cases h;exact .inr ⟨⟨iP,.inr rfl⟩,h⟩;rw[upd_ne D _ (aG h0)];exact I.main;rw[ly];have e1:iD D i=.live c0:=ig;exact I.jU.iA hi c (by rw[e1];exact CX) (λp=>by rw[e1];exact Li p) aFO jM h1 h2 h3 h4 h5;exact t040;exact t0105;exact t084;exact t0108
def qN i j fn fn' pos pos' c s r cap:Quiet #[{g:=i,fn:=fn,pos:=pos,act:=.send c s},{g:=j,fn:=fn',pos:=pos',act:=.recv c r cap},{g:=i,fn:=fn,pos:=pos,act:=.sendDone c s},{g:=j,fn:=fn',pos:=pos',act:=.recvDone c r}]:=by intro op jy;simp at jy;rcases jy with rfl|rfl|rfl|rfl<;>exact⟨rfl,λm=>by simp⟩
def meet(I:Inv C all gs w t D cj cr gB gN)(T:Tr C t D gB gN){i j}(hi:i<C.n+4)(hj:j<C.n+4)(qG:i≠j){xi xj} ci cj'{gi gj} (hgi:gs'[i]? =some xi) (CZ:gs'[j]? =some xj) (hgo:∀k,k≠i->k≠j->gs'[k]? =gs[k]?) (pL:gs'.size=gs.size) (Ta:GR C.P C.E (D i).X (C.R i) gi xi/\Term C.P (C.N.Stop ci) gi (D i).v) (hoj:GR C.P C.E (D j).X (C.R j) gj xj/\Term C.P (C.N.Stop cj') gj (D j).v) (hu:Quiet u) (hw:∀k,k<C.n+4->oC C w (D k)->oC C w' (D k)) (hJ:∃s r,w'.heap[C.N.J]? =some (.chan 0 #[] cj s r false)) (hR:∃s r,w'.heap[C.N.R]? =some (.chan 0 #[] cr s r false)) (hD:w'.heap[C.N.D]? =some (.chan 3 (Array.replicate (gB-gN) C.N.dv) false gB gN false)) (zY:(∀r q,(D i).st≠.old r q)/\(∀r q,(D j).st≠.old r q)/\(∀c,(D i).st≠.jd c)/\∀c,(D j).st≠.jd c) (CY:(0=i->∃iP,ci=.iq iP)/\(0=j->∃iP,cj'=.iq iP)/\(0=i∨0=j->gs.size=C.n+4)) (jU:Ew C all (upd (upd (iD D) i (.live ci)) j (.live cj')) cj cr gB gN):Inv C all gs' w' (t++u) (upd (upd D i ((D i).to (.live ci) gi)) j ((D j).to (.live cj') gj)) cj cr gB gN/\Tr C (t++u) (upd (upd D i ((D i).to (.live ci) gi)) j ((D j).to (.live cj') gj)) gB gN:=by
 have hS:=sJ D i j (.live ci) (.live cj') gi gj;have sm:∀k,upd (upd D i ((D i).to (.live ci) gi)) j ((D j).to (.live cj') gj) k=if k=j then(D j).to (.live cj') gj else if k=i then(D i).to (.live ci) gi else D k:=λk=>rfl
 have iZ:∀k,k≠i->k≠j->upd (upd D i ((D i).to (.live ci) gi)) j ((D j).to (.live cj') gj) k=D k:=λk h1 h2=>by rw[sm,if_neg h2,if_neg h1]
 have hvi:upd (upd D i ((D i).to (.live ci) gi)) j ((D j).to (.live cj') gj) i=(D i).to (.live ci) gi:=by rw[sm,if_neg qG,if_pos rfl]
 have hvj:upd (upd D i ((D i).to (.live ci) gi)) j ((D j).to (.live cj') gj) j=(D j).to (.live cj') gj:=by rw[sm,if_pos rfl]
 have qW:iD (upd (upd D i ((D i).to (.live ci) gi)) j ((D j).to (.live cj') gj))=upd (upd (iD D) i (.live ci)) j (.live cj'):=by rw[ly,ly];rfl
 have hold:∀k r q,(upd (upd D i ((D i).to (.live ci) gi)) j ((D j).to (.live cj') gj) k).st=.old r q->k≠i/\k≠j/\(D k).st=.old r q:=λk r q e=>by by_cases h1:k=i;subst h1;rw[hvi]at e;cases e;by_cases h2:k=j;subst h2;rw[hvj]at e;cases e;rw[iZ k h1 h2]at e;exact⟨h1,h2,e⟩
 refine⟨I.quiet hS hu (λk hk=>?_) (by rw[pL];exact I.size) hw ?_ hJ hR hD (by rw[qW];exact jU),T.quiet I hS hu (λk c' e=>?_) (λk r q e=>?_) (λk q hk e=>?_) (λq e=>?_)⟩;by_cases h1:k=i;subst h1;refine .inr ?_;rw[hvi,hgi];exact⟨_,rfl,Ta.1,Ta.2⟩;by_cases h2:k=j;subst h2;refine .inr ?_;rw[hvj,CZ];exact⟨_,rfl,hoj.1,hoj.2⟩;exact .inl ⟨iZ k h1 h2,hgo k h1 h2⟩;by_cases h1:0=i;obtain⟨iP,GF⟩:=CY.1 h1;refine .inr ⟨⟨iP,.inl ?_⟩,by rw[pL];exact CY.2.2 (.inl h1)⟩;rw[h1,hvi,GF];rfl;by_cases h2:0=j;obtain⟨iP,GF⟩:=CY.2.1 h2;refine .inr ⟨⟨iP,.inl ?_⟩,by rw[pL];exact CY.2.2 (.inr h2)⟩;rw[h2,hvj,GF];rfl;rw[iZ 0 h1 h2,pL];exact I.main;by_cases h1:k=i;subst h1;exact absurd e (zY.2.2.1 c');by_cases h2:k=j;subst h2;exact absurd e (zY.2.2.2 c');exact⟨c',by rw[iZ k h1 h2];exact e⟩;by_cases h1:k=i;subst h1;exact absurd e (zY.1 r q);by_cases h2:k=j;subst h2;exact absurd e (zY.2.1 r q);exact⟨r,q,by rw[iZ k h1 h2];exact e⟩;obtain⟨_,_,h3⟩:=hold k 1 q e;exact(T.said k q hk h3).app (λop jy _=>(hu op jy).1) ν;obtain⟨_,_,h3⟩:=hold _ 2 q e;exact⟨q,h3⟩
end
end Ph
def t0130{p:Prop}(h:p:=by exact⟨_,_,_,D',_,_,_,_,jm,b1,b2,b3,mY b4 (.inl rfl) rfl rfl rfl rfl⟩):p:=h
def t086{p:Prop}(h:p:=by rcases SX with h|h<;>rw[show iD D i=_ from h]<;>rfl):p:=h
def t070{p:Prop}(h:p:=by rw[show iD D i=_ from h]at this;exact this):p:=h
def t038{p:Prop}(h:p:=by exact⟨gs',w',u,D',_,_,_,_,h1,h2,h3,tf hi ig rfl h4.1,h4.2⟩):p:=h
def t025{p:Prop}(h:p:=by have:=I.jU.jG i hi;rw[show iD D i=_ from ig]at this;exact this):p:=h
def t023{p:Prop}(h:p:=by rcases CW with h|h<;>rw[show iD D j=_ from h]<;>rfl):p:=h
namespace Ph
open Go.Conc Rn
open Go.ConcN (sumTo upd sumTo_upd upd_ne upd_same le_sumTo)
open Tp (jN Term Ld)
variable{α:Type}{C:pJ α}
def Pv(C:pJ α)(s:Nat->St α):Nat:=sumTo (C.n+4) λi=>(s i).ev
def ups(C:pJ α)(s:Nat->St α):Nat:=sumTo (C.n+4) λi=>(s i).up
def Z8(C:pJ α)(D' D:Nat->Pd α):Prop:=Pv C (iD D')<Pv C (iD D)∨(Pv C (iD D')=Pv C (iD D)/\(ups C (iD D')<ups C (iD D)∨(ups C (iD D')=ups C (iD D)/\Uj (Dn C.P C.N) (C.n+4) D' D)))
def Goes(C:pJ α)(all:List α)(gs:Array Goroutine)(w:World)(sl:Option (Nat×Nat))(t:Trace)(D:Nat->Pd α)(i:Nat):Prop:=∃gs' w' u D' cj' cr' sent' rcvd',runT C.P (crowd gs w sl) i=(.next (crowd gs' w' sl),u)/\Inv C all gs' w' (t++u) D' cj' cr' sent' rcvd'/\Tr C (t++u) D' sent' rcvd'/\Z8 C D' D/\Kept C w w' D D'
def ux{s i}(hi:i<C.n+4) x:Pv C (upd s i x)+(s i).ev=Pv C s+x.ev:=sumTo_upd s x (λy=>y.ev) hi
def afM{s i}(hi:i<C.n+4) x:ups C (upd s i x)+(s i).up=ups C s+x.up:=sumTo_upd s x (λy=>y.up) hi
def Er{s i j}(hi:i<C.n+4)(hj:j<C.n+4)(qG:i≠j) x y:Pv C (upd (upd s i x) j y)+(s i).ev+(s j).ev=Pv C s+x.ev+y.ev:=by have a:=ux (C:=C) (s:=upd s i x) hj y;have b:=ux (C:=C) (s:=s) hi x;rw[upd_ne s x (aG qG)]at a;omega
section
variable{all:List α}{gs gs':Array Goroutine}{w w':World}{t u:Trace}{D D':Nat->Pd α}{cj cr cj' cr':Bool}{gB gN sent' rcvd':Nat}{sl:Option (Nat×Nat)}
def wC{c c' v v' z z'}(h:(#[scase c v z]:Array CommCase)=#[scase c' v' z']):c=c'/\v=v':=by have:scase c v z=scase c' v' z':=aF0;unfold scase at this;injection this with h1 h2 h3;injection h1 with h1;injection h1 with h1;injection h2 with h2;exact⟨h1,h2⟩
def qA{c c' z z'}(h:(#[rcase c z]:Array CommCase)=#[rcase c' z']):c=c':=by have:rcase c z=rcase c' z':=aF0;unfold rcase at this;injection this with h1 h2 h3;injection h1 with h1;injection h1 with h1
def jZ{c c' v z z'}(h:(#[rcase c z]:Array CommCase)=#[scase c' v z']):False:=by have:rcase c z=scase c' v z':=aF0;unfold rcase scase at this;injection this with h1 h2 h3;cases h2
def Inv.parked(I:Inv C all gs w t D cj cr gB gN){j gj cs sh}(hj:gs[j]? =some (parked gj cs sh)):j<C.n+4/\∃c,(D j).st=.iA c/\cs=C.N.cases c/\sh=C.N.shape c/\GR C.P C.E (D j).X (C.R j) (D j).g {gj with status:=.running,offers:=none}/\C.N.A c (D j).g (D j).v:=by obtain⟨gV,ig⟩:=I.status hj;refine⟨gV,?_⟩;rcases ig with ig|⟨c,hc⟩;rcases ig with e|e<;>cases e;have:=I.ok j gV;unfold Ok at this;rw[hc]at this;obtain⟨g',h1,h2,h3⟩:=this;rw[hj]at h1;have h4:=aA h1;unfold Go.Conc.parked at h4;injection h4 with e1 e2 e3 e4 e5;injection e5 with e5;injection e5 with e6 e7;refine⟨c,hc,e6,e7,⟨⟨h2.run.1,rfl⟩,⟨h2.dy.1,?_⟩,?_,?_⟩,h3⟩;show gj.dying=none;rw[e4];exact h2.dy.2;show Ex _ _ _ _ gj.frame;rw[e1];exact h2.frame;show∃cs lT,_/\gj.callers=_/\_;rw[e2];exact h2.callers
def nV{P E X R g gj}(h:GR P E X R g {gj with status:=.running,offers:=none}){v v'}(hv:V E X v v'):GR P E X R (Go.Conc.served g v) (Go.Conc.served gj v'):=⟨⟨rfl,rfl⟩,h.dy,h.frame.finish hv,h.callers⟩
def tU(hp:0<C.n){i j}(hi:i<C.n+4)(hj:j<C.n+4)(h:C.rl i=C.rl j)(h2:C.rl i=2∨C.rl i=3):i=j:=by unfold pJ.rl at h h2;split at h<;>split at h<;>(repeat' split at h)<;>(repeat' split at h2)<;>omega
def V.pair{E X v}(h:Rn.Clean v) b:V E X (.tuple #[v,.bool b]) (.tuple #[v,.bool b]):=V.lf ((VA.one (h.self X)).push (.bool b))
def NT(L:Eb C)(I:Inv C all gs w t D cj cr gB gN)(T:Tr C t D gB gN){i j}(hi:i<C.n+4)(hj:j<C.n+4){a rem xi xj} (SX:(∃r,(D i).st=.live (.feed r)/\r.Perm (a::rem))∨(D i).st=.iA (.jJ a rem)) (CW:(D j).st=.live .iC∨(D j).st=.iA .iC) (hAi:C.N.A (.jJ a rem) (D i).g (D i).v) (Zo:C.N.A .iC (D j).g (D j).v) (hgi:gs'[i]? =some (Go.Conc.served xi undef)) (CZ:gs'[j]? =some (Go.Conc.served xj (.tuple #[C.N.jv a,.bool true]))) (hgo:∀k,k≠i->k≠j->gs'[k]? =gs[k]?) (pL:gs'.size=gs.size) (hri:GR C.P C.E (D i).X (C.R i) (D i).g {xi with status:=.running,offers:=none}) (hrj:GR C.P C.E (D j).X (C.R j) (D j).g {xj with status:=.running,offers:=none}) (hu:Quiet u) {s r d} (hc:w.heap[C.N.J]? =some (.chan 0 #[] cj s r false)):∃D',Inv C all gs' (World.setChan (w.at d) C.N.J 0 #[] cj (s+1) (r+1) false) (t++u) D' cj cr gB gN/\Tr C (t++u) D' gB gN/\Z8 C D' D/\∀k,(D' k).X=(D k).X:=by
 have acM:(iD D i).role=2:=by show(D i).st.role=2;rcases SX with⟨r,h,_⟩|h<;>rw[h]<;>rfl
 have SY:(iD D j).role=1:=by show(D j).st.role=1;rcases CW with h|h<;>rw[h]<;>rfl
 have qG:i≠j:=λe=>by subst e;omega
 have ig:cj=false/\cr=false/\gN=0:=by have:=I.jU.jG i hi;rcases SX with⟨r,h,_⟩|h;exact t070;exact t070
 have VG:∀p,(iD D i).tok p=(a::rem).countP p:=λp=>by rcases SX with⟨r,h,hp⟩|h;rw[show iD D i=_ from h];exact hp.countP_eq p;rw[show iD D i=_ from h];rfl
 have avH:(iD D i).ev=7+2*(rem.length+1):=by rcases SX with⟨r,h,hp⟩|h;rw[show iD D i=_ from h];show 7+2*r.length=_;rw[hp.length_eq];rfl;rw[show iD D i=_ from h];rfl
 have VF:∀p,(iD D j).tok p=0:=λp=>by exact t023
 have avG:(iD D j).ev=2:=by exact t023
 have ak4:(iD D i).said=0:=by rcases SX with⟨r,h,hp⟩|h<;>rw[show iD D i=_ from h]<;>rfl
 have ak3:(iD D j).said=0:=by exact t023
 have h0:=I.pos;have hm:=meet (gs':=gs') (w':=World.setChan (w.at d) C.N.J 0 #[] cj (s+1) (r+1) false) (u:=u) I T hi hj qG (.feed rem) (.jh a) hgi CZ hgo pL
  ⟨nV hri (V.lf (VA.empty _)),L.abV a rem _ _ hAi⟩ ⟨nV hrj (V.pair (L.Qy.1 a) true),L.abY a _ _ Zo (L.tx a rem _ _ hAi)⟩ hu
  (λk hk h=>by
   have:=(h.drawn C d).chan C (c:=C.N.J) (by exact hc) (.chan 0 #[] cj (s+1) (r+1) false) d
   exact this)
  ⟨s+1,r+1,by
   have gV:C.N.J<w.heap.size:=(ae.1 hc).1;show(w.heap.setIfInBounds C.N.J _)[C.N.J]? =_;rw[aj gV]⟩
  (by
   obtain⟨s2,r2,h2⟩:=I.IW;exact⟨s2,r2,by show(w.heap.setIfInBounds C.N.J _)[C.N.R]? =_;rw[ah I.ne.1];exact h2⟩)
  (by show(w.heap.setIfInBounds C.N.J _)[C.N.D]? =_;rw[ah I.ne.2.1];exact I.LH)
  ⟨λr q e=>aHn,λr q e=>aGc,λc e=>aHn,λc e=>aGc⟩
  ⟨λe=>(by subst e;have:=I.jU.role 0 hi;rw[acM]at this;simp[pJ.rl]at this),λe=>(by subst e;have:=I.jU.role 0 hj;rw[SY]at this;simp[pJ.rl]at this),λe=>by
   rcases e with e|e<;>subst e
   ·have:=I.jU.role 0 hi;rw[acM]at this;simp[pJ.rl]at this
   ·have:=I.jU.role 0 hj;rw[SY]at this;simp[pJ.rl]at this⟩
  (I.jU.two hi hj qG (.live (.feed rem)) (.live (.jh a)) (by rw[acM];rfl) (by rw[SY];rfl) (λp=>by
    rw[VG,VF];show rem.countP p+[a].countP p=_;rw[ed,ed,List.countP_nil];omega) (by rw[ak4,ak3];rfl) I.jU.le (λk hk _ _=>I.jU.jG k hk) ig ig.2.1 aG0 aG0 (λk q hk _ _ h=>I.jU.p3 k q hk h))
 refine⟨_,hm.1,hm.2,.inl ?_,λk=>(sJ D i j _ _ _ _ k).1⟩;rw[ly,ly];have:=Er (C:=C) (s:=iD D) hi hj qG (.live (.feed rem)) (.live (.jh a));have e1:(St.live (pI.feed rem):St α).ev=7+2*rem.length:=rfl;have e2:(St.live (pI.jh a):St α).ev=3:=rfl;show Pv C (upd (upd (iD D) i (.live (.feed rem))) j (.live (.jh a)))<_;omega
def XX{f m i j}(hi:i<m)(hj:j<m)(qG:i≠j):f i+f j<=sumTo m f:=by have h1:=AN (f:=upd f i 0) (g:=f) (m:=m) (i:=i) hi (λk hk=>(upd_ne f 0 hk).symm);have h2:=le_sumTo (f:=upd f i 0) hj;rw[upd_same]at h1;rw[upd_ne f 0 (aG qG)]at h2;omega
def NS(L:Eb C)(I:Inv C all gs w t D cj cr gB gN)(T:Tr C t D gB gN){i j}(hi:i<C.n+4)(hj:j<C.n+4){a iP xi xj} (SX:(D i).st=.live (.jh a)∨(D i).st=.iA (.jh a)) (CW:(D j).st=.live (.iq iP)∨(D j).st=.iA (.iq iP)) (hAi:C.N.A (.jh a) (D i).g (D i).v) (Zo:C.N.A (.iq iP) (D j).g (D j).v) (hgi:gs'[i]? =some (Go.Conc.served xi undef)) (CZ:gs'[j]? =some (Go.Conc.served xj (.tuple #[C.N.fv a,.bool true]))) (hgo:∀k,k≠i->k≠j->gs'[k]? =gs[k]?) (pL:gs'.size=gs.size) (hri:GR C.P C.E (D i).X (C.R i) (D i).g {xi with status:=.running,offers:=none}) (hrj:GR C.P C.E (D j).X (C.R j) (D j).g {xj with status:=.running,offers:=none}) (hu:Quiet u) {s r d} (hc:w.heap[C.N.R]? =some (.chan 0 #[] cr s r false)):∃D',Inv C all gs' (World.setChan (w.at d) C.N.R 0 #[] cr (s+1) (r+1) false) (t++u) D' cj cr gB gN/\Tr C (t++u) D' gB gN/\Z8 C D' D/\∀k,(D' k).X=(D k).X:=by
 have acM:(iD D i).role=1:=by show(D i).st.role=1;rcases SX with h|h<;>rw[h]<;>rfl
 have SY:(iD D j).role=3:=by show(D j).st.role=3;rcases CW with h|h<;>rw[h]<;>rfl
 have qG:i≠j:=λe=>by subst e;omega
 have h0:=I.pos;have hj0:j=0:=by have h1:=I.jU.role j hj;have h2:=I.jU.role 0 ω;refine tU h0 hj ω ?_ (.inr (by rw[<-h1,SY]));rw[<-h1,SY];simp[pJ.rl]
 have qH:cr=false:=by have:=I.jU.jG i hi;rcases SX with h|h;exact t070;exact t070
 have VG:∀p,(iD D i).tok p=[a].countP p:=λp=>by exact t086
 have avH:(iD D i).ev=3:=by exact t086
 have VF:∀p,(iD D j).tok p=iP.countP p:=λp=>by exact t023
 have avG:(iD D j).ev=0:=by exact t023
 have ak4:(iD D i).said=0:=by exact t086
 have ak3:(iD D j).said=0:=by exact t023
 have xS:gs.size=C.n+4:=by rcases I.main with⟨k,_,h,_⟩|⟨_,h⟩;subst hj0;rcases CW with h'|h'<;>rw[h']at h<;>cases h;exact h
 have auE:(a::iP).length<=C.top:=by have h1:=I.jU.tok (λ_=>true);have h2:=XX (f:=λi=>(iD D i).tok (λ_=>true)) hi hj qG;simp only[h1,VG,VF,List.countP_true]at h2;have:=I.jU.fits;simp only[aq,bW]at h2|-;omega
 have hm:=meet (gs':=gs') (w':=World.setChan (w.at d) C.N.R 0 #[] cr (s+1) (r+1) false) (u:=u) I T hi hj qG .iC (.iq (a::iP)) hgi CZ hgo pL
  ⟨nV hri (V.lf (VA.empty _)),L.abU a _ _ hAi⟩ ⟨nV hrj (V.pair (L.Qy.2.1 a) true),L.abX a iP _ _ auE Zo⟩ hu
  (λk hk h=>by
   have:=(h.drawn C d).chan C (c:=C.N.R) (by exact hc) (.chan 0 #[] cr (s+1) (r+1) false) d
   exact this)
  (by
   obtain⟨s2,r2,h2⟩:=I.Ig;exact⟨s2,r2,by show(w.heap.setIfInBounds C.N.R _)[C.N.J]? =_;rw[ah (aG I.ne.1)];exact h2⟩)
  ⟨s+1,r+1,by
   have gV:C.N.R<w.heap.size:=(ae.1 hc).1;show(w.heap.setIfInBounds C.N.R _)[C.N.R]? =_;rw[aj gV]⟩
  (by show(w.heap.setIfInBounds C.N.R _)[C.N.D]? =_;rw[ah I.ne.2.2];exact I.LH)
  ⟨λr q e=>aH2,λr q e=>aGc,λc e=>aH2,λc e=>aGc⟩
  ⟨λe=>(by subst e;exact absurd hj0.symm qG),λ_=>⟨_,rfl⟩,λ_=>xS⟩
  (I.jU.two hi hj qG (.live .iC) (.live (.iq (a::iP))) (by rw[acM];rfl) (by rw[SY];rfl) (λp=>by
    rw[VG,VF];show 0+(a::iP).countP p=_;rw[ed,ed,List.countP_nil];omega) (by rw[ak4,ak3];rfl) I.jU.le (λk hk _ _=>I.jU.jG k hk) qH trivial aG0 aG0 (λk q hk _ _ h=>I.jU.p3 k q hk h))
 refine⟨_,hm.1,hm.2,.inl ?_,λk=>(sJ D i j _ _ _ _ k).1⟩;rw[ly,ly];have:=Er (C:=C) (s:=iD D) hi hj qG (.live .iC) (.live (.iq (a::iP)));have e1:(St.live pI.iC:St α).ev=2:=rfl;have e2:(St.live (pI.iq (a::iP)):St α).ev=0:=rfl;show Pv C (upd (upd (iD D) i (.live .iC)) j (.live (.iq (a::iP))))<_;omega
def tf{i}(hi:i<C.n+4){c0 c}(ig:(D i).st=.live c0)(mm:c.ev=c0.ev)(h:iD D'=upd (iD D) i (.iA c)):Z8 C D' D:=by
 refine .inr ⟨?_,.inl ?_⟩;rw[h];have:=ux (C:=C) (s:=iD D) hi (.iA c);have e1:(iD D i).ev=c0.ev:=by rw[show iD D i=_ from ig];rfl
 have e2:(St.iA c).ev=c.ev:=rfl;omega;rw[h];have:=afM (C:=C) (s:=iD D) hi (.iA c);have e1:(iD D i).up=1:=by rw[show iD D i=_ from ig];rfl
 have e2:(St.iA c).up=0:=rfl;omega
def ads(gs:Array Goroutine){i j}(qG:j≠i)(hi:i<gs.size)(hj:j<gs.size) x y:((gs.setIfInBounds j y).setIfInBounds i x)[i]? =some x/\((gs.setIfInBounds j y).setIfInBounds i x)[j]? =some y/\(∀k,k≠i->k≠j->((gs.setIfInBounds j y).setIfInBounds i x)[k]? =gs[k]?)/\((gs.setIfInBounds j y).setIfInBounds i x).size=gs.size:=by refine⟨by rw[aj aGd],?_,λk h1 h2=>?_,by simp⟩;rw[ah (aG qG),aj hj];rw[ah (aG h1),ah (aG h2)]
def j8 i fn pos:MemOp.ofEvents i fn pos #[]=#[]:=rfl
def vZ(L:Eb C)(I:Inv C all gs w t D cj cr gB gN){i}(hi:i<C.n+4){c0}(ig:(D i).st=.live c0):∃g',gs[i]? =some g'/\i<gs.size/\GR C.P C.E (D i).X (C.R i) (D i).g g':=by have jo:=I.ok i hi;unfold Ok at jo;rw[ig]at jo;obtain⟨g',hx,oX,_⟩:=jo;exact⟨g',hx,(ae.1 hx).1,oX⟩
def Su(L:Eb C)(I:Inv C all gs w t D cj cr gB gN)(T:Tr C t D gB gN){i}(hi:i<C.n+4)(ig:(D i).st=.live .iC)(hA:C.N.A .iC (D i).g (D i).v)(hnt:cj=true->Goes C all gs w sl t D i):Goes C all gs w sl t D i:=by
 obtain⟨g',hx,gV,oX⟩:=vZ L I hi ig;have rF:=L.act .iC _ _ _ _ _ rfl hA oX (i==0) w;obtain⟨s,r,hc⟩:=I.Ig;cases Lp:cj with
 |true=>exact hnt Lp|false=>
 subst Lp;by_cases hp:partners (gs.setIfInBounds i ph) C.N.J true=[];have zW:∀j a rem,j<C.n+4->(D j).st≠.iA (.jJ a rem):=λj a rem hj e=>by
  have jo:=I.ok j hj;unfold Ok at jo;rw[e]at jo;obtain⟨g2,Th,_⟩:=jo;have ij:j≠i:=λe2=>by subst e2;rw[ig]at e;cases e
  have:(j,0)∈partners (gs.setIfInBounds i ph) C.N.J true:=mem_partners.2 ⟨_,(by rw[ah (aG ij)];exact Th),by rw[si];simp[Net.chan]⟩;rw[hp]at this;cases this
 have qH:cr=false:=by exact t025
 obtain⟨gs',w',u,D',h1,h2,h3,h4⟩:=tb (sl:=sl) L I T hi ig hA rfl rfl (λ_=>rfl) (λcc xC=>by
 have:cc=rcase C.N.J C.N.zJ:=by simpa[Net.cases]using xC
 subst this;exact ways_recv_none hc hp) ⟨rfl,qH⟩ (λ_=>zW) (λa rem e=>by cases e) aFT aFT aFT (λe=>by subst e;have:=I.jU.role 0 hi;rw[show iD D 0=_ from ig]at this;simp[pJ.rl,St.role,pI.role]at this)
 exact t038;have ll:∀j k,(j,k)∈partners (gs.setIfInBounds i ph) C.N.J true->k=0/\j≠i/\∃gj vj zj UQ,gs[j]? =some (parked gj #[scase C.N.J vj zj] UQ):=by intro j k hm;obtain⟨h1,h2,h3,c,g2,h4,h5,h6,_⟩:=I.partner hm;refine⟨h1,h2,?_⟩;cases c<;>simp only[Net.chan,bY,cU,Bool.false_eq_true,and_false,reduceCtorEq,and_true]at h5;exact absurd h5.symm I.ne.1;exact absurd h5.symm I.ne.2.1;exact⟨_,_,_,_,h6⟩
 obtain⟨j,gj,vj,zj,UQ,d,ij,CZ,jm⟩:=crowd_recv_meets_some (P:=C.P) (sl:=sl) hx rF hc hp ll;obtain⟨qn,c,vQ,kC,tn,GD,Zo⟩:=I.parked CZ;have qm:=I.jU.jG j qn;rw[show iD D j=_ from vQ]at qm;cases c with
 |jJ a rem=>obtain⟨_,hv⟩:=wC kC;subst hv;subst tn;simp only[Net.shape,finishComm_send,finishComm_recv,j8,bM,recvd,if_true]at jm;have hjs:j<gs.size:=(ae.1 CZ).1;obtain⟨a1,a2,a3,a4⟩:=ads gs ij gV hjs (Go.Conc.served g' (.tuple #[C.N.jv a,.bool true])) (Go.Conc.served gj undef);obtain⟨D',b1,b2,b3,b4⟩:=NT (gs':=(gs.setIfInBounds j (Go.Conc.served gj undef)).setIfInBounds i (Go.Conc.served g' (.tuple #[C.N.jv a,.bool true]))) L I T qn hi (.inr vQ) (.inl ig) Zo hA a2 a1 (λk h1 h2=>a3 k h2 h1) a4 GD (pF oX) (qN j i gj.frame.fn g'.frame.fn gj.frame.place g'.frame.place C.N.J s r 0) (d:=d) hc;exact t0130
 |iC=>exact(jZ kC.symm).elim|jh a=>exact absurd (wC kC).1 I.ne.1
 |iK k=>exact(jZ kC.symm).elim|iq g=>exact(jZ kC.symm).elim
 |_=>exact qm.elim
end
end Ph
def t0122{p:Prop}(h:p:=by exact⟨_,_,_,D',_,_,_,_,jm,b1,b2,b3,mY b4 (.inr (.inl rfl)) rfl rfl rfl rfl⟩):p:=h
namespace Ph
open Go.Conc Rn
open Go.ConcN (sumTo upd sumTo_upd upd_ne upd_same le_sumTo)
open Tp (jN Term Ld)
variable{α:Type}{C:pJ α}
section
variable{all:List α}{gs gs':Array Goroutine}{w w':World}{t u:Trace}{D D':Nat->Pd α}{cj cr cj' cr':Bool}{gB gN sent' rcvd':Nat}{sl:Option (Nat×Nat)}
def Inv.waits(I:Inv C all gs w t D cj cr gB gN){i ch b c0}(ig:(D i).st=.live c0)(hp:partners (gs.setIfInBounds i ph) ch b=[]){j}(hj:j<C.n+4){c}(hc:C.N.chan c=some (ch,b)):(D j).st≠.iA c:=λe=>by
 have jo:=I.ok j hj;unfold Ok at jo;rw[e]at jo;obtain⟨g2,Th,_⟩:=jo;have ij:j≠i:=λe2=>by subst e2;rw[ig]at e;cases e
 have:(j,0)∈partners (gs.setIfInBounds i ph) ch b:=mem_partners.2 ⟨_,(by rw[ah (aG ij)];exact Th),by rw[si,if_pos hc];simp⟩;rw[hp]at this;cases this
def Inv.rP(I:Inv C all gs w t D cj cr gB gN){i}(hi:i<C.n+4){c0}(ig:(D i).st=.live c0)(hr:c0.role≠3):i≠0:=λe=>by subst e;have:=I.jU.role 0 hi;rw[show iD D 0=_ from ig]at this;simp[pJ.rl]at this;exact hr this
def Sp(L:Eb C)(I:Inv C all gs w t D cj cr gB gN)(T:Tr C t D gB gN){i}(hi:i<C.n+4){r0}(ig:(D i).st=.live (.feed r0)){a rem}(OI:r0.Perm (a::rem))(hA:C.N.A (.jJ a rem) (D i).g (D i).v):Goes C all gs w sl t D i:=by
 obtain⟨g',hx,gV,oX⟩:=vZ L I hi ig;have rF:=L.act (.jJ a rem) _ _ _ _ _ rfl hA oX (i==0) w;obtain⟨s,r,hc⟩:=I.Ig;have jM:cj=false/\cr=false/\gN=0:=by exact t025
 obtain⟨rfl,qH⟩:=jM;by_cases hp:partners (gs.setIfInBounds i ph) C.N.J false=[];obtain⟨gs',w',u,D',h1,h2,h3,h4⟩:=tb (sl:=sl) L I T hi ig hA rfl rfl (λp=>(OI.countP_eq p).symm) (λcc xC=>by
 have:cc=scase C.N.J (C.N.jv a) (.tuple #[]):=by simpa[Net.cases]using xC
 subst this;exact ways_send_none hc ζ hp) ⟨rfl,qH⟩ aGF (λa' Iu e j hj=>I.waits ig hp hj rfl) aFT aFT aFT (λe=>absurd e (I.rP hi ig aGG))
 exact⟨gs',w',u,D',_,_,_,_,h1,h2,h3,tf hi ig (by show 7+2*(rem.length+1)=7+2*r0.length;rw[OI.length_eq];rfl) h4.1,h4.2⟩;have ll:∀j k,(j,k)∈partners (gs.setIfInBounds i ph) C.N.J false->k=0/\j≠i/\∃gj zj UQ,gs[j]? =some (parked gj #[rcase C.N.J zj] UQ):=by intro j k hm;obtain⟨h1,h2,h3,c,g2,h4,h5,h6,_⟩:=I.partner hm;refine⟨h1,h2,?_⟩;cases c<;>simp only[Net.chan,bY,cU,and_false,reduceCtorEq,and_true]at h5;exact⟨_,_,_,h6⟩;exact absurd h5.symm I.ne.2.1;exact absurd h5.symm I.ne.1
 obtain⟨j,gj,zj,UQ,d,ij,CZ,jm⟩:=crowd_send_meets_some (P:=C.P) (sl:=sl) hx rF hc hp ll;obtain⟨qn,c,vQ,kC,tn,GD,Zo⟩:=I.parked CZ;have qm:=I.jU.jG j qn;rw[show iD D j=_ from vQ]at qm;cases c with
 |iC=>subst tn;simp only[Net.shape,finishComm_send,finishComm_recv,j8,bM,recvd,if_true]at jm;have hjs:j<gs.size:=(ae.1 CZ).1;obtain⟨a1,a2,a3,a4⟩:=ads gs ij gV hjs (Go.Conc.served g' undef) (Go.Conc.served gj (.tuple #[C.N.jv a,.bool true]));obtain⟨D',b1,b2,b3,b4⟩:=NT (gs':=(gs.setIfInBounds j (Go.Conc.served gj (.tuple #[C.N.jv a,.bool true]))).setIfInBounds i (Go.Conc.served g' undef)) L I T hi qn (.inl ⟨r0,ig,OI⟩) (.inr vQ) hA Zo a1 a2 a3 a4 (pF oX) GD (qN i j g'.frame.fn gj.frame.fn g'.frame.place gj.frame.place C.N.J s r 0) (d:=d) hc;exact t0130
 |jJ a rem=>exact(jZ kC).elim|jh a=>exact(jZ kC).elim
 |iK k=>exact absurd (qA kC) I.ne.2.1|iq g=>exact absurd (qA kC) I.ne.1
 |_=>exact qm.elim
def Sn(L:Eb C)(I:Inv C all gs w t D cj cr gB gN)(T:Tr C t D gB gN){i}(hi:i<C.n+4){a}(ig:(D i).st=.live (.jh a))(hA:C.N.A (.jh a) (D i).g (D i).v):Goes C all gs w sl t D i:=by
 obtain⟨g',hx,gV,oX⟩:=vZ L I hi ig;have rF:=L.act (.jh a) _ _ _ _ _ rfl hA oX (i==0) w;obtain⟨s,r,hc⟩:=I.IW;have qH:cr=false:=by exact t025
 subst qH;by_cases hp:partners (gs.setIfInBounds i ph) C.N.R false=[];obtain⟨gs',w',u,D',h1,h2,h3,h4⟩:=tb (sl:=sl) L I T hi ig hA rfl rfl (λp=>rfl) (λcc xC=>by
 have:cc=scase C.N.R (C.N.fv a) (.tuple #[]):=by simpa[Net.cases]using xC
 subst this;exact ways_send_none hc ζ hp) rfl aGF aHE (λa' e j g hj=>I.waits ig hp hj rfl) aFT aFT (λe=>absurd e (I.rP hi ig aGG))
 exact t038;have ll:∀j k,(j,k)∈partners (gs.setIfInBounds i ph) C.N.R false->k=0/\j≠i/\∃gj zj UQ,gs[j]? =some (parked gj #[rcase C.N.R zj] UQ):=by intro j k hm;obtain⟨h1,h2,h3,c,g2,h4,h5,h6,_⟩:=I.partner hm;refine⟨h1,h2,?_⟩;cases c<;>simp only[Net.chan,bY,cU,and_false,reduceCtorEq,and_true]at h5;exact absurd h5 I.ne.1;exact absurd h5.symm I.ne.2.2;exact⟨_,_,_,h6⟩
 obtain⟨j,gj,zj,UQ,d,ij,CZ,jm⟩:=crowd_send_meets_some (P:=C.P) (sl:=sl) hx rF hc hp ll;obtain⟨qn,c,vQ,kC,tn,GD,Zo⟩:=I.parked CZ;have qm:=I.jU.jG j qn;rw[show iD D j=_ from vQ]at qm;cases c with
 |iq iP=>subst tn;simp only[Net.shape,finishComm_send,finishComm_recv,j8,bM,recvd,if_true]at jm;have hjs:j<gs.size:=(ae.1 CZ).1;obtain⟨a1,a2,a3,a4⟩:=ads gs ij gV hjs (Go.Conc.served g' undef) (Go.Conc.served gj (.tuple #[C.N.fv a,.bool true]));obtain⟨D',b1,b2,b3,b4⟩:=NS (gs':=(gs.setIfInBounds j (Go.Conc.served gj (.tuple #[C.N.fv a,.bool true]))).setIfInBounds i (Go.Conc.served g' undef)) L I T hi qn (.inl ig) (.inr vQ) hA Zo a1 a2 a3 a4 (pF oX) GD (qN i j g'.frame.fn gj.frame.fn g'.frame.place gj.frame.place C.N.R s r 0) (d:=d) hc;exact t0122
 |jJ a rem=>exact(jZ kC).elim|jh a=>exact(jZ kC).elim
 |iK k=>exact absurd (qA kC) I.ne.2.2|iC=>exact absurd (qA kC).symm I.ne.1
 |_=>exact qm.elim
def Ss(L:Eb C)(I:Inv C all gs w t D cj cr gB gN)(T:Tr C t D gB gN){i}(hi:i<C.n+4){iP}(ig:(D i).st=.live (.iq iP))(hA:C.N.A (.iq iP) (D i).g (D i).v)(qH:cr=false):Goes C all gs w sl t D i:=by
 obtain⟨g',hx,gV,oX⟩:=vZ L I hi ig;have rF:=L.act (.iq iP) _ _ _ _ _ rfl hA oX (i==0) w;obtain⟨s,r,hc⟩:=I.IW;subst qH;by_cases hp:partners (gs.setIfInBounds i ph) C.N.R true=[];obtain⟨gs',w',u,D',h1,h2,h3,h4⟩:=tb (sl:=sl) L I T hi ig hA rfl rfl (λp=>rfl) (λcc xC=>by
 have:cc=rcase C.N.R C.N.zR:=by simpa[Net.cases]using xC
 subst this;exact ways_recv_none hc hp) rfl aGF aHE (λa' e=>by cases e) (λg e j a hj=>I.waits ig hp hj rfl) aFT (λe=>⟨iP,rfl,rfl⟩)
 exact t038;have ll:∀j k,(j,k)∈partners (gs.setIfInBounds i ph) C.N.R true->k=0/\j≠i/\∃gj vj zj UQ,gs[j]? =some (parked gj #[scase C.N.R vj zj] UQ):=by intro j k hm;obtain⟨h1,h2,h3,c,g2,h4,h5,h6,_⟩:=I.partner hm;refine⟨h1,h2,?_⟩;cases c<;>simp only[Net.chan,bY,cU,Bool.false_eq_true,and_false,reduceCtorEq,and_true]at h5;exact⟨_,_,_,_,h6⟩;exact absurd h5.symm I.ne.2.2;exact absurd h5 I.ne.1
 obtain⟨j,gj,vj,zj,UQ,d,ij,CZ,jm⟩:=crowd_recv_meets_some (P:=C.P) (sl:=sl) hx rF hc hp ll;obtain⟨qn,c,vQ,kC,tn,GD,Zo⟩:=I.parked CZ;have qm:=I.jU.jG j qn;rw[show iD D j=_ from vQ]at qm;cases c with
 |jh a=>obtain⟨_,hv⟩:=wC kC;subst hv;subst tn;simp only[Net.shape,finishComm_send,finishComm_recv,j8,bM,recvd,if_true]at jm;have hjs:j<gs.size:=(ae.1 CZ).1;obtain⟨a1,a2,a3,a4⟩:=ads gs ij gV hjs (Go.Conc.served g' (.tuple #[C.N.fv a,.bool true])) (Go.Conc.served gj undef);obtain⟨D',b1,b2,b3,b4⟩:=NS (gs':=(gs.setIfInBounds j (Go.Conc.served gj undef)).setIfInBounds i (Go.Conc.served g' (.tuple #[C.N.fv a,.bool true]))) L I T qn hi (.inr vQ) (.inl ig) Zo hA a2 a1 (λk h1 h2=>a3 k h2 h1) a4 GD (pF oX) (qN j i gj.frame.fn g'.frame.fn gj.frame.place g'.frame.place C.N.R s r 0) (d:=d) hc;exact t0122
 |jJ a rem=>exact absurd (wC kC).1.symm I.ne.1|iC=>exact(jZ kC.symm).elim
 |iK k=>exact(jZ kC.symm).elim|iq g=>exact(jZ kC.symm).elim
 |_=>exact qm.elim
end
end Ph
