import Derived.Test.YtlpcjiollnnmgaaGreatDoorM06
import Derived.Conc.EventLaws
set_option maxRecDepth 100000
set_option maxHeartbeats 8000000
set_option linter.all false
namespace Go.Proofs.YtlpcjiollnnmgaaGreatDoor
namespace Rn
open Go.Conc
open Tp (MoveRe Term Ld)
section
variable{P:Program}{E:Env}{X:List Nat}
def lost_step{g}(h:Lost g) b w:(∃o w' es,stepG P b g w=.ended o w' es)∨∃g1 w1 es,stepG P b g w=.go g1 w1 es/\Bad g1:=by
 obtain⟨fr,cs,st,dy,off⟩:=g;obtain⟨h1,h2,⟨h3,h4⟩,h5⟩:=h;obtain rfl:dy=none:=h2;replace h3:fr.defers=[]:=h3;rcases h5 with⟨ch,h5⟩|⟨h5,why,k,h6⟩;replace h5:fr.mode=.panicking ch:=h5;have e1:stepG P b ⟨fr,cs,st,none,off⟩ w=unwind P b fr cs none w:=by unfold stepG;simp only[h5]
 rw[e1];unfold unwind;simp only[h3,h5];split;exact .inl ⟨_,_,_,rfl⟩;cases cs with|cons c cs=>refine .inr ⟨_,_,_,rfl,.inl ⟨rfl,rfl,⟨?_,λx hx=>h4 x (List.mem_cons_of_mem _ hx)⟩,.inl (raise_mode c ch)⟩⟩;rw[raise_defers];exact h4 c List.mem_cons_self|nil=>dsimp only;split;exact .inr ⟨_,_,_,rfl,.inr (.inl (by simp))⟩;split;exact .inr ⟨_,_,_,rfl,.inr (.inr (by simp))⟩;exact .inl ⟨_,_,_,rfl⟩;exact .inl ⟨_,_,_,rfl⟩
 replace h5:fr.mode=.run:=h5;replace h6:fr.todo=.code (.refuse why)::k:=h6;have e1:stepG P b ⟨fr,cs,st,none,off⟩ w=stepG.exec P b true fr cs none w:=by unfold stepG;simp only[h5]
 rw[e1];unfold stepG.exec;simp only[h6];exact .inl ⟨_,_,_,rfl⟩
def solo_go{g g1 gx w w1 wx es ops}(h:stepG P true g w=.go gx wx es)(hr:runT P (solo g w) 0=(.next (solo g1 w1),ops)):gx=g1/\wx=w1:=by rw[runT_solo_go h]at hr;injection hr with h1 h2;injection h1 with h1;exact Tp.solo_inj h1
def solo_ended{g g1 w w1 wx o es ops}(h:stepG P true g w=.ended o wx es)(hr:runT P (solo g w) 0=(.next (solo g1 w1),ops)):False:=by rw[show solo g w=crowd #[g] w none from rfl,runT_many_ended (i:=0) (by rfl) h]at hr;cases hr
def seg0{g g1:Goroutine}{w w1:World}{ops:Array MemOp}{k:Nat}(h:MoveRe P g w g1 w1 ops k):runT P (solo g w) 0=(.next (solo g1 w1),ops):=by have:=h.same w.tape w.drawn (λ_ _=>rfl) #[g] none (Tp.calm_one g) rfl;rw[show w1.re w.tape (w.drawn+k)=w1 by rw[<-h.tape,<-h.drawn];rfl]at this;exact this
def lost_never{Stop}(hS:∀g w,Stop g w->¬Lost g){g w}(h:Term P Stop g w):¬Lost g:=by induction h with|stop h=>exact hS _ _ h|@next g w nx h1 h2 h3 ih=>intro hl;obtain⟨ops,k,hm⟩:=h1 w.tape w.drawn;have hr:=(seg0 hm);rcases lost_step (P:=P) hl true (w.re w.tape w.drawn)with⟨o,w',es,he⟩|⟨g1,w1,es,he,hb⟩;exact solo_ended he hr;obtain⟨rfl,rfl⟩:=solo_go he hr;rcases hb with hb|hb|hb;exact ih _ _ hb;exact hb (h2 _ _).1.run;exact hb (h2 _ _).2
def Down(P:Program)(Stop:Goroutine->World->Prop)(y x:Goroutine×World):Prop:=¬Stop x.1 x.2/\∃τ n ops k,MoveRe P x.1 (x.2.re τ n) y.1 y.2 ops k
def move_det{g g1 g2 w w1 w2 ops1 ops2 k1 k2}(h1:MoveRe P g w g1 w1 ops1 k1)(h2:MoveRe P g w g2 w2 ops2 k2):g1=g2/\w1=w2:=by have a:=(seg0 h1);have b:=(seg0 h2);rw[a]at b;injection b with b _;injection b with b;exact Tp.solo_inj b
def term_acc{Stop g w}(h:Term P Stop g w):Acc (Down P Stop) (g,w):=by induction h with|stop h=>exact⟨_,λy hy=>absurd h hy.1⟩|@next g w nx h1 h2 h3 ih=>refine⟨_,λy hy=>?_⟩;obtain⟨_,τ,n,ops,k,hm⟩:=hy;obtain⟨ops2,k2,hm2⟩:=h1 τ n;obtain⟨e1,e2⟩:=move_det hm hm2;obtain⟨y1,y2⟩:=y;dsimp only at e1 e2;subst e1;subst e2;exact ih τ n
def AtTalk(E:Env)(g:Goroutine):Prop:=g.frame.mode=.run/\∃ops i l k o,g.frame.todo=.inRegion ops (i::l)::k/\ops[i]? =some o/\Talk E o
def junk_ill{Sh}(hC:∀r b,E.C r=some b->r<E.G){v w}(hw:WR E Sh X v w){c c'}(hc:V E X c c') z s:illMade v {chan:=c,send:=s,zero:=z}=true∨c=.chan none:=by unfold illMade;cases hc with|chanN=>exact .inr rfl|chan r b h=>refine .inl ?_;dsimp only;rw[hw.junk r (hC r b h)];rfl|_=>exact .inl rfl
def comm_never{Sh}(hC:∀r b,E.C r=some b->r<E.G){v w}(hw:WR E Sh X v w){g g2 c c'}(hc:V E X c c'){z s shape es}(h:stepG P true g v=.comm g2 #[{chan:=c,send:=s,zero:=z}] true shape v es){g1 v1 ops}(hr:runT P (solo g v) 0=(.next (solo g1 v1),ops)):g1.status≠.running:=by
 rcases junk_ill hC hw hc z s with hi|rfl;rw[show solo g v=crowd #[g] v none from rfl,runT_crowd_comm (i:=0) (by rfl) h]at hr;unfold communicate at hr;dsimp only at hr;have hany:(#[{chan:=c,send:=s,zero:=z}]:Array CommCase).any (illMade v)=true:=by simpa using hi
 split at hr;cases hr;rename_i hx;exact absurd hany hx;have hno:∀cc∈(#[{chan:=.chan none,send:=s,zero:=z}]:Array CommCase),NoWays v ((#[g]:Array Goroutine).setIfInBounds 0 ph) cc:=by
  intro cc hcc;have:cc={chan:=.chan none,send:=s,zero:=z}:=by simpa using hcc
  subst this;exact⟨rfl,by unfold ways;rfl⟩
 have:=crowd_waits (P:=P) (sl:=none) (i:=0) (gs:=#[g]) (by rfl) h hno;rw[show solo g v=crowd #[g] v none from rfl,this]at hr;injection hr with hr _;injection hr with hr;have:(#[g]:Array Goroutine).setIfInBounds 0 (parked g2 #[{chan:=.chan none,send:=s,zero:=z}] shape)=#[g1]:=congrArg Machine.gs hr;have h3:parked g2 #[{chan:=.chan none,send:=s,zero:=z}] shape=g1:=by simpa using this
 rw[<-h3];simp[parked]
def off_end{r}(h:Tp.Off r):(∃o w' es,r=.ended o w' es)∨∃g1 w1 es,r=.go g1 w1 es/\Bad g1:=by
 cases r with
 |go g v es=>refine .inr ⟨_,_,_,rfl,?_⟩;rcases h with h|⟨h1,d,h2,_⟩;exact .inr (.inl (by rcases h with h|h|h<;>rw[h]<;>simp));exact .inr (.inr (by rw[h2];simp))
 |ended o v es=>exact .inl ⟨_,_,_,rfl⟩|_=>exact h.elim
def apply_halt{fr cs s v v' h es}(hr:s.runT P v #[]=(.halt h v',es))(hni:NoInit h)(hd:fr.defers=[]/\∀c∈cs,c.defers=[]):(∃o w' es,stepG.apply P true fr cs none s v=.ended o w' es)∨∃g1 w1 es,stepG.apply P true fr cs none s v=.go g1 w1 es/\Bad g1:=by
 unfold stepG.apply;simp only[if_true];rw[hr];have hl:∀l,Lost {frame:=fr.raise l,callers:=cs,status:=.running,dying:=none}:=λl=>⟨rfl,rfl,⟨by rw[raise_defers];exact hd.1,hd.2⟩,.inl (raise_mode fr l)⟩;cases h with
 |panic x=>exact .inr ⟨_,_,_,rfl,.inl (hl _)⟩|goexit=>exact .inr ⟨_,_,_,rfl,.inl (hl _)⟩
 |blocked=>exact .inr ⟨_,_,_,rfl,.inr (.inl (by simp))⟩|waiting=>exact .inr ⟨_,_,_,rfl,.inr (.inl (by simp))⟩
 |exit c=>exact .inl ⟨_,_,_,rfl⟩|fatal m=>exact off_end (Tp.off_after (Tp.off_fatal _ _ _ _ _ _))
 |throw m=>exact .inr ⟨_,_,_,rfl,.inr (.inr (by simp))⟩|unsupported u=>cases u<;>first|exact .inl ⟨_,_,_,rfl⟩|exact hni.elim
 |stuck m=>exact .inl ⟨_,_,_,rfl⟩
def norm_zero t:(∃z,norm P (zeroValue t)=.pure z)∨∃h,NoInit h/\norm P (zeroValue t)=.halt h:=by unfold zeroValue typeInfo;cases hi:P.info? t with|none=>right;rw[norm_halt' (a:=.stuck "no such type") (by rw[norm_bind' (a:=P) rfl,hi];rfl)];exact⟨.stuck "no such type",trivial,rfl⟩|some i=>rw[norm_bind' (a:=i) (by rw[norm_bind' (a:=P) rfl,hi];rfl)];cases i.zero with|none=>right;refine⟨_,?_,rfl⟩;exact trivial|some z=>exact .inl ⟨z,rfl⟩
def step_at{fr cs st off ops i l k o}(hm:fr.mode=.run)(hr:fr.roundOf=none)(ht:fr.todo=.inRegion ops (i::l)::k)(hi:ops[i]? =some o)(hg:o.guard=none) b w:stepG P b ⟨fr,cs,st,none,off⟩ w=stepG.apply P true fr cs none (execOp fr.eval o) w:=by
 have e1:stepG P b ⟨fr,cs,st,none,off⟩ w=stepG.exec P b true fr cs none w:=by unfold stepG;simp only[hm]
 rw[e1];unfold stepG.exec;have hwant:∀y,Region.wanted o y=true:=λy=>by unfold Region.wanted;rw[hg]
 have ho1:fr.oper? =some o:=by unfold Frame.oper?;rw[ht];exact hi
 simp only[ht,hi,Option.map_some,Option.getD_some,hwant,if_true];unfold stepG.oper;simp only[ho1,hr]
def seen_nil0 fn:seen P fn #[]=#[]:=rfl
def talk_never {Sh} (hC : ∀ r b, E.C r = some b -> r < E.G) {R g g'} (h : GR P E X R g g') (ht : AtTalk E g) {v w} (hw : WR E Sh X v w) {g1 v1 ops} (hr : runT P (solo g v) 0 = (.next (solo g1 v1), ops)) : Bad g1 := by
  obtain ⟨hm, rops, i, l, k, o, e1, e2, e3⟩ := ht
  obtain ⟨fr, cs, st, dy, off⟩ := g
  obtain ⟨_, ⟨rfl, _⟩, h3, ⟨ds, ds', rfl, _, h4⟩⟩ := h
  replace hm : fr.mode = .run := hm
  replace e1 : fr.todo = .inRegion rops (i :: l) :: k := e1
  have hg : o.guard = none := by
    have := h3.ok
    rw [show (Goroutine.mk fr (ds ++ [wall]) st none off).frame.todo = fr.todo from rfl, e1] at this
    exact (this.head o (Array.mem_of_getElem? e2)).1
  have hst := λb u => step_at (P := P) (cs := ds ++ [wall]) (st := st) (off := off) hm h3.round.1 e1 e2 hg b u
  have hcl : fr.defers = [] /\ ∀ c ∈ ds ++ [wall], c.defers = [] := ⟨h3.defers.1, h4.clean⟩
  have hrunH : ∀ (h : Halt) (es : Array Event), NoInit h -> (execOp fr.eval o).runT P v #[] = (.halt h v, es) -> Bad g1 := by
    intro h es0 hni hrun
    rcases apply_halt (P := P) hrun hni hcl with ⟨o', w', es, he⟩ | ⟨g2, w2, es, he, hb⟩
    · exact (solo_ended ((hst true v).trans he) hr).elim
    · obtain ⟨rfl, rfl⟩ := solo_go ((hst true v).trans he) hr
      exact hb
  have hhalt : ∀ (h : Halt), NoInit h -> norm P (execOp fr.eval o) = .halt h -> Bad g1 := λh hni hh => hrunH h #[] hni (by rw [runT_norm, hh]; rfl)
  have hs0 := hst true v
  have hev := h3.eval
  obtain ⟨dst, op, type, pos, after, guard⟩ := o
  unfold stepG.apply at hs0
  simp only [if_true] at hs0
  cases op with
  | send ch x =>
    have : (execOp fr.eval ⟨dst, .send ch x, type, pos, after, guard⟩).runT P v #[] = (.ok (.comm #[{ chan := fr.eval ch, send := some (fr.eval x), zero := .tuple #[] }] true .send) v, #[]) := rfl
    rw [this] at hs0
    exact .inr (.inl (comm_never hC hw (hev ch e3.1) hs0 hr))
  | recv t ch ok =>
    have hex : execOp fr.eval ⟨dst, .recv t ch ok, type, pos, after, guard⟩ = (do
      let .chan _ elem <- underlying t | stuck "receive: channel type expected"
      pure (.comm #[{ chan := fr.eval ch, send := none, zero := <- zeroValue elem }] true (.recv ok))) := rfl
    cases hu : P.underlying t with
    | none =>
      have : ∃ h, NoInit h /\ norm P (underlying t) = .halt h := by
        unfold underlying
        rw [norm_bind' (a := P) rfl, hu]
        refine ⟨_, ?_, rfl⟩; exact trivial
      obtain ⟨h, hni, hh⟩ := this
      exact hhalt h hni (by rw [hex, norm_halt' hh])
    | some d =>
      have hn := norm_underlying hu
      cases d with
      | chan dir elem =>
        rcases norm_zero (P := P) elem with ⟨z, hz⟩ | ⟨h, hni, hz⟩
        · have : (execOp fr.eval ⟨dst, .recv t ch ok, type, pos, after, guard⟩).runT P v #[] = (.ok (.comm #[{ chan := fr.eval ch, send := none, zero := z }] true (.recv ok)) v, #[]) := by
            rw [runT_norm, hex, norm_bind' hn]
            dsimp only
            rw [norm_bind' hz]
            rfl
          rw [this] at hs0
          exact .inr (.inl (comm_never hC hw (hev ch e3) hs0 hr))
        · refine hhalt h hni ?_
          rw [hex, norm_bind' hn]
          dsimp only
          rw [norm_halt' hz]
      | _ => exact hhalt (.stuck "receive: channel type expected") trivial (by rw [hex, norm_bind' hn]; rfl)
  | call c =>
    obtain ⟨h1, x, h2, hx⟩ := e3
    obtain ⟨callee, args, argTypes⟩ := c
    dsimp only at h1 h2
    subst h1; subst h2
    have hex : execOp fr.eval ⟨dst, .call ⟨.builtin .close, #[x], argTypes⟩, type, pos, after, guard⟩ = (do pure (.value (<- Builtin.close_ argTypes type #[fr.eval x]))) := by
      have : (#[x] : Array Operand).map fr.eval = #[fr.eval x] := by simp
      show (do pure (.value (<- Builtin.close_ argTypes type ((#[x] : Array Operand).map fr.eval))) : Sem Next) = _
      rw [this]
    have hv := hev x hx
    revert hv
    generalize fr.eval x = y at hex
    generalize (Goroutine.frame g').eval x = y'
    intro hv
    cases hv with
    | chanN => exact hhalt (.panic (.iface P.rt.plainError (strVal "close of nil channel"))) trivial (by rw [hex]; rfl)
    | chan r b hb =>
      refine hrunH (.stuck "getObj: a row of cells") #[] ?_ ?_
      · exact trivial
      · rw [hex]
        have hj := hw.junk r (hC r b hb)
        show Sem.runT P (Sem.getObj r _) v #[] = _
        rw [Sem.runT]
        simp only [hj]
    | _ => exact hhalt (.stuck "close: one channel expected") trivial (by rw [hex]; rfl)
  | go c =>
    obtain ⟨⟨x, h1, hx⟩, h2⟩ := e3
    obtain ⟨callee, args, argTypes⟩ := c
    dsimp only at h1 h2
    subst h1; subst h2
    have hex : execOp fr.eval ⟨dst, .go ⟨.value x, #[], argTypes⟩, type, pos, after, guard⟩ = (do pure (.spawn (<- Deferred.ofValue (fr.eval x) #[]))) := by
      have h1 : (#[] : Array Operand).map fr.eval = #[] := by simp
      show (do pure (.spawn (<- Deferred.ofValue (fr.eval x) ((#[] : Array Operand).map fr.eval))) : Sem Next) = _
      rw [h1]
    have hsp : ∀ d, (execOp fr.eval ⟨dst, .go ⟨.value x, #[], argTypes⟩, type, pos, after, guard⟩).runT P v #[] = (.ok (.spawn d) v, #[]) -> Bad g1 := λd hd => by
      rw [hd] at hs0
      simp only [ite_self, seen_nil0] at hs0
      have hspawn : ∀ {gx child : Goroutine}, stepG P true ⟨fr, ds ++ [wall], st, none, off⟩ v = .spawn gx child v #[] -> False := λ{gx child} hs1 => by
        have h3 := runT_crowd_spawn (P := P) (sl := none) (i := 0) (gs := #[⟨fr, ds ++ [wall], st, none, off⟩]) rfl (show stepG P (0 == 0) _ v = .spawn _ _ _ _ from hs1)
        have h4 : runT P (solo ⟨fr, ds ++ [wall], st, none, off⟩ v) 0 = _ := h3
        rw [hr] at h4
        have h5 := (Prod.mk.inj h4).1
        injection h5 with h5
        have h6 := congrArg (λm : Machine => m.gs.size) h5
        simp [solo, crowd] at h6
      split at hs0 <;> split at hs0
      · obtain ⟨rfl, rfl⟩ := solo_go hs0 hr
        exact .inr (.inr (by simp))
      · exact (hspawn hs0).elim
      · obtain ⟨rfl, rfl⟩ := solo_go hs0 hr
        exact .inr (.inr (by simp))
      · exact (hspawn hs0).elim
    cases hy : fr.eval x with
    | func f a c => exact hsp _ (by rw [hex, hy]; rfl)
    | nilFunc => exact hsp _ (by rw [hex, hy]; rfl)
    | _ => exact hhalt (.stuck "call: function value expected") trivial (by rw [hex, hy]; rfl)
  | _ => exact e3.elim
def seg_step{Sh}(hF:∀f fn b,E.F f->P.funcs[f]? =some fn->fn.body=some b->CodeOK P E b)(hB:Bod P E)(hG:P.globals.size<=E.G)(hC:∀r b,E.C r=some b->r<E.G){Stop}(hS:∀g w,Stop g w->¬Lost g){R g g' v}(h:GR P E X R g g')(ht:Term P Stop g v)(hn:¬Stop g v){w}(hw:WR E Sh X (v.re w.tape w.drawn) w) b':∃g1 v1 Y g1' w1 es',Down P Stop (g1,v1) (g,v)/\Term P Stop g1 v1/\stepG P b' g' w=.go g1' w1 es'/\GR P E (X++Y) R g1 g1'/\Out E Sh X w Y v1 w1/\∀e∈es',EvX (X++Y) Sh e:=by
 cases ht with
 |stop hx=>exact absurd hx hn|next nx h1 h2 h3=>
 obtain⟨ops,k,hm⟩:=h1 w.tape w.drawn;have hr:=(seg0 hm);have hnb:¬Bad (nx w.tape w.drawn).1:=by rintro(hb|hb|hb);exact lost_never hS (h3 _ _) hb;exact hb (h2 _ _).1.run;exact hb (h2 _ _).2
 by_cases hat:AtTalk E g;exact absurd (talk_never hC h hat hw hr) hnb;have hx:=sim_step hF hB hG h (λhmode ops i l k o e1 e2 e3=>hat ⟨hmode,ops,i,l,k,o,e1,e2,e3⟩) hw true b';cases hs:stepG P true g (v.re w.tape w.drawn)with
 |go gx vx es=>obtain⟨rfl,rfl⟩:=solo_go hs hr;rw[hs]at hx;rcases hx with hx|⟨Y,g1',w1,es',e1,e2,e3,e4⟩;exact absurd hx hnb;exact⟨_,_,Y,g1',w1,es',⟨hn,_,_,ops,k,hm⟩,h3 _ _,e1,e2,e3,e4⟩
 |ended o vx es=>exact(solo_ended hs hr).elim|_=>rw[hs]at hx;exact hx.elim
end
end Rn
namespace Rn
open Go.Conc
section
variable{P:Program}
structure AtOp(fr:Frame)(o:Oper):Prop where
 mode:fr.mode=.run
 round:fr.roundOf=none
 guard:o.guard=none
 todo:∃ops i l k,fr.todo=.inRegion ops (i::l)::k/\ops[i]? =some o
def seen_nil fn:seen P fn #[]=#[]:=rfl
def AtOp.step{fr o}(h:AtOp fr o) cs st off b w:stepG P b ⟨fr,cs,st,none,off⟩ w=stepG.apply P true fr cs none (execOp fr.eval o) w:=by obtain⟨ops,i,l,k,h1,h2⟩:=h.todo;exact step_at h.mode h.round h1 h2 h.guard b w
theorem AtOp.send{fr o}(h:AtOp fr o){ch x}(ho:o.op=.send ch x) cs st off b w:stepG P b ⟨fr,cs,st,none,off⟩ w=.comm ⟨fr,cs,.running,none,none⟩ #[{chan:=fr.eval ch,send:=some (fr.eval x),zero:=.tuple #[]}] true .send w #[]:=by
 rw[h.step];unfold stepG.apply;simp only[if_true];have:(execOp fr.eval o).runT P w #[]=(.ok (.comm #[{chan:=fr.eval ch,send:=some (fr.eval x),zero:=.tuple #[]}] true .send) w,#[]):=by obtain⟨dst,op,type,pos,after,guard⟩:=o;dsimp only at ho;subst ho;rfl
 rw[this];simp only[ite_self,seen_nil];rfl
theorem AtOp.recv{fr o}(h:AtOp fr o){t ch ok}(ho:o.op=.recv t ch ok){d e i z}(ht:P.underlying t=some (.chan d e))(hi:P.info? e=some i)(hz:i.zero=some z) cs st off b w :
  stepG P b ⟨fr,cs,st,none,off⟩ w=.comm ⟨fr,cs,.running,none,none⟩ #[{chan:=fr.eval ch,send:=none,zero:=z}] true (.recv ok) w #[]:=by
 rw[h.step];unfold stepG.apply;simp only[if_true];have:(execOp fr.eval o).runT P w #[]=(.ok (.comm #[{chan:=fr.eval ch,send:=none,zero:=z}] true (.recv ok)) w,#[]):=by
  obtain⟨dst,op,type,pos,after,guard⟩:=o;dsimp only at ho;subst ho;rw[runT_norm];have hex:execOp fr.eval ⟨dst,.recv t ch ok,type,pos,after,guard⟩=(do
   let .chan _ elem <-underlying t|stuck "receive: channel type expected"
   pure (.comm #[{chan:=fr.eval ch,send:=none,zero:=<-zeroValue elem}] true (.recv ok))):=rfl
  rw[hex,norm_bind' (norm_underlying ht)];dsimp only;have hzv:norm P (zeroValue e)=.pure z:=by
   unfold zeroValue typeInfo;rw[norm_bind' (a:=i) (by rw[norm_bind' (a:=P) rfl,hi];rfl),hz]
   rfl
  rw[norm_bind' hzv];rfl
 rw[this];simp only[ite_self,seen_nil];rfl
def seen_sync2 fn c:seen P fn #[⟨.obj c,false,true⟩,⟨.obj c,true,true⟩]=#[⟨.obj c,false,true⟩,⟨.obj c,true,true⟩]:=by unfold seen;simp
theorem AtOp.close {fr o} (h : AtOp fr o) {x ats} (ho : o.op = .call ⟨.builtin .close, #[x], ats⟩) {c room s r buf tm} (hx : fr.eval x = .chan (some c)) (hk : fr.kind ≠ .early) cs st off b {w} (hc : w.heap[c]? = some (.chan room buf false s r tm)) :
    stepG P b ⟨fr, cs, st, none, off⟩ w = .go ⟨fr.finish (.tuple #[]), cs, .running, none, none⟩ { w with heap := w.heap.setIfInBounds c (.chan room buf true s r tm) } #[⟨.obj c, false, true⟩, ⟨.obj c, true, true⟩] := by
  rw [h.step]
  unfold stepG.apply
  simp only [if_true]
  have : (execOp fr.eval o).runT P w #[] = (.ok (.value (.tuple #[])) { w with heap := w.heap.setIfInBounds c (.chan room buf true s r tm) }, #[⟨.obj c, false, true⟩, ⟨.obj c, true, true⟩]) := by
    obtain ⟨dst, op, type, pos, after, guard⟩ := o
    dsimp only at ho
    subst ho
    have hex : execOp fr.eval ⟨dst, .call ⟨.builtin .close, #[x], ats⟩, type, pos, after, guard⟩ = (do pure (.value (<- Builtin.close_ ats type #[fr.eval x]))) := by
      have : (#[x] : Array Operand).map fr.eval = #[fr.eval x] := by simp
      show (do pure (.value (<- Builtin.close_ ats type ((#[x] : Array Operand).map fr.eval))) : Sem Next) = _
      rw [this]
    rw [hex, hx]
    have h1 := run_close_open (P := P) ats type hc
    have h2 := events_close_open (P := P) (es := #[]) ats type hc
    rw [close_some] at h1 h2 |-
    show Sem.runT P (Sem.getObj c _) w #[] = _
    rw [Sem.runT]
    simp only [hc]
    show Sem.runT P (Sem.setObj c _ _) w _ = _
    rw [Sem.runT]
    simp only [hc]
    rfl
  rw [this]
  have hk2 : (fr.kind == CallKind.early) = false := by cases hq : fr.kind <;> first | rfl | exact absurd hq hk
  simp only [hk2, Bool.false_eq_true, if_false, seen_sync2]
  rfl
def bornOf(P:Program)(d:Deferred):Goroutine:={frame:={(default:Frame)with fn:=P.funcs.size,defers:=[d],mode:=.panicking [goexitEntry]},callers:=[],status:=.running,dying:=none}
theorem AtOp.go {fr o} (h : AtOp fr o) {x ats} (ho : o.op = .go ⟨.value x, #[], ats⟩) {f a c} (hx : fr.eval x = .func (.func f) a c) cs st off b w :
    stepG P b ⟨fr, cs, st, none, off⟩ w = .spawn ⟨fr.finish undef, cs, .running, none, none⟩ (bornOf P { target := .fn (.func f) c, args := a }) w #[] := by
  rw [h.step]
  unfold stepG.apply
  simp only [if_true]
  have : (execOp fr.eval o).runT P w #[] = (.ok (.spawn { target := .fn (.func f) c, args := a }) w, #[]) := by
    obtain ⟨dst, op, type, pos, after, guard⟩ := o
    dsimp only at ho
    subst ho
    have hex : execOp fr.eval ⟨dst, .go ⟨.value x, #[], ats⟩, type, pos, after, guard⟩ = (do pure (.spawn (<- Deferred.ofValue (fr.eval x) #[]))) := by
      have h1 : (#[] : Array Operand).map fr.eval = #[] := by simp
      show (do pure (.spawn (<- Deferred.ofValue (fr.eval x) ((#[] : Array Operand).map fr.eval))) : Sem Next) = _
      rw [h1]
    rw [hex, hx]
    show (Result.ok (Next.spawn { target := .fn (.func f) c, args := a ++ #[] }) w, (#[] : Array Event)) = _
    rw [Array.append_empty]
  rw [this]
  simp only [ite_self, seen_nil]
  rw [if_neg (by simp)]
  rfl
end
end Rn
namespace Ph
open Go.Conc Rn
open Go.ConcN (sumTo upd sumTo_upd upd_ne upd_same)
open Tp (MoveRe Term Ld)
def RelN{β:Type}(R:β->β->Prop)(m:Nat)(F' F:Nat->β):Prop:=∃i,i<m/\R (F' i) (F i)/\∀j,j≠i->F' j=F j
theorem relN_acc{β} R:∀m (F:Nat->β),(∀i,i<m->Acc R (F i))->Acc (RelN R m) F
 |0,F,_=>⟨_,λF' ⟨i,hi,_⟩=>absurd hi (Nat.not_lt_zero i)⟩|m+1,F,h=>by
  have key:∀x,Acc R x->∀F:Nat->β,F m=x->(∀i,i<m->Acc R (F i))->Acc (RelN R (m+1)) F:=by
   intro x hx;induction hx with
   |intro x _ ih1=>
   intro F hF hA;have h2:=relN_acc R m F hA;induction h2 with
   |intro F _ ih2=>
   refine⟨_,λF' hF'=>?_⟩;obtain⟨i,hi,hR,ho⟩:=hF';by_cases him:i=m;subst him;exact ih1 (F' i) (by rw[<-hF];exact hR) F' rfl (λj hj=>by rw[ho j (by omega)];exact hA j hj);have hlt:i<m:=by omega
   refine ih2 F' ⟨i,hlt,hR,ho⟩ (by rw[ho m (Ne.symm him),hF]) (λj hj=>?_);by_cases hji:j=i;subst hji;exact(hA j hj).inv hR;rw[ho j hji];exact hA j hj
  exact key (F m) (h m (Nat.lt_succ_self m)) F rfl (λi hi=>h i (Nat.lt_succ_of_lt hi))
inductive Ctl(α:Type)
 |recvJ|sendR (a:α)|sendD
 |feed (rem:List α)|sendJ (a:α) (rem:List α)|closeJ|recvD (k:Nat)|closeR
 |spawn (k:Nat)|recvR (got:List α)
inductive St(α:Type)
 |old (r q:Nat)|unborn (c:Ctl α)|born (c:Ctl α)|live (c:Ctl α)|park (c:Ctl α)
structure Pd(α:Type) where
 st:St α
 g:Goroutine
 v:World
 X:List Nat
structure Net(α:Type) where
 J:Nat
 R:Nat
 D:Nat
 jv:α->Value
 fv:α->Value
 dv:Value
 zJ:Value
 zR:Value
 zD:Value
 A:Ctl α->Goroutine->World->Prop
 TX:α->Prop
variable{α:Type}
def Net.Stop(N:Net α):Ctl α->Goroutine->World->Prop
 |.feed rem=>λg v=>(∃a rem',rem.Perm (a::rem')/\N.A (.sendJ a rem') g v)∨(rem=[]/\N.A .closeJ g v)|c=>N.A c
def Net.cases(N:Net α):Ctl α->Array CommCase
 |.recvJ=>#[rcase N.J N.zJ]|.sendR a=>#[scase N.R (N.fv a) (.tuple #[])]|.sendD=>#[scase N.D N.dv (.tuple #[])]|.sendJ a _=>#[scase N.J (N.jv a) (.tuple #[])]|.recvD _=>#[rcase N.D N.zD]|.recvR _=>#[rcase N.R N.zR]|_=>#[]
def Net.shape(_:Net α):Ctl α->CommShape
 |.recvJ|.recvR _=>.recv true|.recvD _=>.recv false|_=>.send
def Dn(P:Program)(N:Net α)(d' d:Pd α):Prop:=(∃c,d.st=.live c/\d'.st=.live c/\Down P (N.Stop c) (d'.g,d'.v) (d.g,d.v))∨∃r q,d.st=.old r (q+1)/\d'.st=.old r q
def dn_live{P N c x}(h:Acc (Down P (N.Stop c)) x):∀d:Pd α,d.st=.live c->(d.g,d.v)=x->Acc (Dn P N) d:=by induction h with|intro x _ ih=>intro d hd he;refine⟨_,λd' hd'=>?_⟩;rcases hd' with⟨c',h1,h2,h3⟩|⟨r,q,h1,_⟩;rw[hd]at h1;cases h1;exact ih _ (by rw[<-he];exact h3) d' h2 rfl;rw[hd]at h1;cases h1
theorem dn_old{P N} r:∀q (d:Pd α),d.st=.old r q->Acc (Dn P N) d
 |0,d,hd=>⟨_,λd' hd'=>by rcases hd' with⟨c',h1,_⟩|⟨r',q,h1,_⟩<;>rw[hd]at h1<;>cases h1⟩
 |q+1,d,hd=>⟨_,λd' hd'=>by rcases hd' with⟨c',h1,_⟩|⟨r',q',h1,h2⟩;rw[hd]at h1;cases h1;rw[hd]at h1;cases h1;exact dn_old r q d' h2⟩
def dn_acc{P N}(d:Pd α)(h:∀c,d.st=.live c->Term P (N.Stop c) d.g d.v):Acc (Dn P N) d:=by cases hs:d.st with|live c=>exact dn_live (term_acc (h c hs)) d hs rfl|old r q=>exact dn_old r q d hs|_=>exact⟨_,λd' hd'=>by rcases hd' with⟨c',h1,_⟩|⟨r,q,h1,_⟩<;>rw[hs]at h1<;>cases h1⟩
def base(P:Program):Frame:={(default:Frame)with fn:=P.funcs.size,defers:=[],mode:=.panicking [goexitEntry]}
structure Cfg(α:Type) where
 P:Program
 E:Env
 Sh:Nat->Prop
 N:Net α
 n:Nat
 R:Nat->List Frame
 f:Nat->FuncId
 a:Nat->Array Value
 ok0:List Nat->Prop
 top:Nat
variable(C:Cfg α)
def Cfg.d(i:Nat):Deferred:={target:=.fn (.func (C.f i)) (C.a i),args:=#[]}
def Cfg.first(i:Nat):Goroutine:={frame:=Frame.enter C.P (C.f i) (C.a i) .deferred,callers:=[base C.P],status:=.running,dying:=none}
def Ok(t:Trace)(i:Nat)(x:Option Goroutine)(d:Pd α):Prop:=match d.st with
 |.old r q=>(∃y,x=some y/\QuitsD C.P q (Deaf t i) y)/\(r=2->C.N.A .closeR d.g d.v)
 |.unborn c=>x=none/\C.R i=[base C.P]/\GR C.P C.E d.X (C.R i) d.g (C.first i)/\Term C.P (C.N.Stop c) d.g d.v
 |.born c=>x=some (bornOf C.P (C.d i))/\C.R i=[base C.P]/\GR C.P C.E d.X (C.R i) d.g (C.first i)/\Term C.P (C.N.Stop c) d.g d.v
 |.live c=>∃g',x=some g'/\GR C.P C.E d.X (C.R i) d.g g'/\Term C.P (C.N.Stop c) d.g d.v
 |.park c=>∃g',x=some (parked g' (C.N.cases c) (C.N.shape c))/\GR C.P C.E d.X (C.R i) d.g g'/\C.N.A c d.g d.v
def Sees(w:World)(d:Pd α):Prop:=WR C.E C.Sh d.X (d.v.re w.tape w.drawn) w
def WR.moved{E Sh X}{v w w1:World}(h:WR E Sh X (v.re w.tape w.drawn) w)(hs:w.heap.size<=w1.heap.size)(hx:∀b∈X,w1.heap[b]? =w.heap[b]?):WR E Sh X (v.re w1.tape w1.drawn) w1:=⟨h.size,λi b hb=>by obtain⟨o,o',h1,h2,h3⟩:=h.el i b hb;exact⟨o,o',h1,(hx b (List.mem_of_getElem? hb)).trans h2,h3⟩,h.junk,h.nodup,h.shared,λb hb=>Nat.lt_of_lt_of_le (h.low b hb) hs,rfl,rfl⟩
def Sees.lt{w d}(h:Sees C w d){b}(hb:b∈d.X):b<w.heap.size:=by obtain⟨i,hi⟩:=List.getElem?_of_mem hb;obtain⟨_,_,_,h2,_⟩:=WR.el h i b hi;exact(Array.getElem?_eq_some_iff.1 h2).1
def Sees.nochan{w d}(h:Sees C w d){b}(hb:b∈d.X){cap s r buf cl tm}:w.heap[b]?≠some (.chan cap buf cl s r tm):=by obtain⟨i,hi⟩:=List.getElem?_of_mem hb;obtain⟨_,_,_,h2,h3⟩:=WR.el h i b hi;rw[h2];intro e;cases e;cases h3
def Sees.other{w w1 v1 d X Y}(h:Sees C w d)(ho:Out C.E C.Sh X w Y v1 w1)(hd:∀b,b∈d.X->b∈X->C.Sh b):Sees C w1 d:=by refine WR.moved h ho.size λb hb=>?_;by_cases hX:b∈X;exact ho.shared b (hd b hb hX);exact ho.others b (h.lt C hb) hX
def Sees.chan{w d}(h:Sees C w d){c cap s r buf cl tm}(hc:w.heap[c]? =some (.chan cap buf cl s r tm)) o k:Sees C {w with heap:=w.heap.setIfInBounds c o,drawn:=k} d:=by
 refine WR.moved h (by show w.heap.size<=(w.heap.setIfInBounds c o).size;simp) λb hb=>?_;have hne:c≠b:=λe=>by subst e;exact h.nochan C hb hc
 show(w.heap.setIfInBounds c o)[b]? =w.heap[b]?;rw[Array.getElem?_setIfInBounds_ne hne]
def Sees.drawn{w d}(h:Sees C w d) k:Sees C (w.at k) d:=WR.moved h (Nat.le_refl _) λ_ _=>rfl
def Ok.trace{t u i x d}(h:Ok C t i x d)(hu:Deaf (t++u) i=Deaf t i):Ok C (t++u) i x d:=by unfold Ok at h|-;rw[hu];exact h
structure Kept(w w':World)(D D':Nat->Pd α):Prop where
 size:w.heap.size<=w'.heap.size
 heap:∀b,b<w.heap.size->b≠C.N.J->b≠C.N.R->b≠C.N.D->((∀i,i<C.n+4->b∉ (D i).X)∨C.Sh b)->w'.heap[b]? =w.heap[b]?
 grow:∀i,∃Y,(D' i).X=(D i).X++Y/\∀b∈Y,w.heap.size<=b
 os:w'.os=w.os
 output:w'.output=w.output
 tape:w'.tape=w.tape
variable{C}
theorem Kept.trans{w w1 w2:World}{D D1 D2:Nat->Pd α}(h:Kept C w w1 D D1)(h':Kept C w1 w2 D1 D2):Kept C w w2 D D2 where
 size:=Nat.le_trans h.size h'.size;heap:=λb hb n1 n2 n3 hx=>by rw[h'.heap b (Nat.lt_of_lt_of_le hb h.size) n1 n2 n3 ?_,h.heap b hb n1 n2 n3 hx];rcases hx with hx|hx;refine .inl λi hi hm=>?_;obtain⟨Y,e,hY⟩:=h.grow i;rw[e]at hm;rcases List.mem_append.1 hm with hm|hm;exact hx i hi hm;have:=hY b hm;omega;exact .inr hx
 grow:=λi=>by obtain⟨Y,e,hY⟩:=h.grow i;obtain⟨Z,e2,hZ⟩:=h'.grow i;refine⟨Y++Z,by rw[e2,e,List.append_assoc],λb hb=>?_⟩;rcases List.mem_append.1 hb with hb|hb;exact hY b hb;exact Nat.le_trans h.size (hZ b hb)
 os:=h'.os.trans h.os;output:=h'.output.trans h.output;tape:=h'.tape.trans h.tape
def kept_eq{w w' D D'}(hX:∀i,(D' i).X=(D i).X)(hh:w'.heap=w.heap)(h1:w'.os=w.os)(h2:w'.output=w.output)(h3:w'.tape=w.tape):Kept C w w' D D':=⟨by rw[hh];exact Nat.le_refl _,λ_ _ _ _ _ _=>by rw[hh],λi=>⟨[],by rw[hX,List.append_nil],λ_ h=>by cases h⟩,h1,h2,h3⟩
def kept_chan{w w' D D'}(hX:∀i,(D' i).X=(D i).X){ch}(hch:ch=C.N.J∨ch=C.N.R∨ch=C.N.D){o}(hh:w'.heap=w.heap.setIfInBounds ch o)(h1:w'.os=w.os)(h2:w'.output=w.output)(h3:w'.tape=w.tape):Kept C w w' D D':=⟨by rw[hh];simp,λb _ n1 n2 n3 _=>by rw[hh,Array.getElem?_setIfInBounds_ne];rintro rfl;rcases hch with e|e|e;exact n1 e;exact n2 e;exact n3 e,λi=>⟨[],by rw[hX,List.append_nil],λ_ h=>by cases h⟩,h1,h2,h3⟩
def Ctl.role:Ctl α->Nat
 |.recvJ|.sendR _|.sendD=>1|.feed _|.sendJ _ _|.closeJ|.recvD _|.closeR=>2|.spawn _|.recvR _=>3
def St.role:St α->Nat
 |.old r _=>r|.unborn c|.born c|.live c|.park c=>c.role
def Ctl.tok(p:α->Bool):Ctl α->Nat
 |.sendR a=>[a].countP p|.feed rem=>rem.countP p|.sendJ a rem=>(a::rem).countP p|.recvR got=>got.countP p|_=>0
def St.tok(p:α->Bool):St α->Nat
 |.old _ _=>0|.unborn c|.born c|.live c|.park c=>c.tok p
def Ctl.ev:Ctl α->Nat
 |.recvJ=>2|.sendR _=>3|.sendD=>1|.feed rem=>7+2*rem.length|.sendJ _ rem=>7+2*(rem.length+1)|.closeJ=>7|.recvD k=>5-k|.closeR=>1|.spawn k=>5-k|.recvR _=>0
def St.ev:St α->Nat
 |.old _ _=>0|.unborn c=>c.ev+2|.born c=>c.ev+1|.live c|.park c=>c.ev
def St.up:St α->Nat
 |.live _=>1|_=>0
def St.said:St α->Nat
 |.old 1 _=>1|_=>0
theorem sumTo_congr{f g}:∀m,(∀i,i<m->f i=g i)->sumTo m f=sumTo m g
 |0,_=>rfl|m+1,h=>by show sumTo m f+f m=sumTo m g+g m;rw[sumTo_congr m (λi hi=>h i (by omega)),h m (by omega)]
theorem sumTo_le{f g}:∀m,(∀i,i<m->f i<=g i)->sumTo m f<=sumTo m g
 |0,_=>Nat.le_refl _|m+1,h=>Nat.add_le_add (sumTo_le m (λi hi=>h i (by omega))) (h m (by omega))
theorem sumTo_eq{f g}:∀m,(∀i,i<m->f i<=g i)->sumTo m g<=sumTo m f->∀i,i<m->f i=g i
 |0,_,_,i,hi=>by omega|m+1,h,hs,i,hi=>by have h1:=sumTo_le m (λi hi=>h i (by omega));have h2:=h m (by omega);have hs':sumTo m g+g m<=sumTo m f+f m:=hs;by_cases hm:i=m;subst hm;omega;exact sumTo_eq m (λi hi=>h i (by omega)) (by omega) i (by omega)
def sumTo_lt{f g} m(h:sumTo m f<sumTo m g):∃i,i<m/\f i<g i:=by
 apply Classical.byContradiction;intro hn;have:sumTo m g<=sumTo m f:=sumTo_le m λi hi=>by apply Classical.byContradiction;intro hc;exact hn ⟨i,hi,by omega⟩
 omega
def sumTo_one{f g m i}(hi:i<m)(h:∀j,j≠i->g j=f j):sumTo m g+f i=sumTo m f+g i:=by
 have:g=upd f i (g i):=by funext j;by_cases hj:j=i;subst hj;rw[upd_same];rw[upd_ne f (g i) hj,h j hj]
 rw[this,upd_same];have:=sumTo_upd f (g i) id hi;simpa using this
end Ph
namespace Ph
open Go.Conc Rn
open Go.ConcN (sumTo upd sumTo_upd upd_ne upd_same le_sumTo)
open Tp (MoveRe Term Ld)
variable{α:Type}(C:Cfg α)
def StageC(cj cr:Bool)(rcvd:Nat):Ctl α->Prop
 |.spawn _|.recvR _=>True|.recvJ|.sendR _=>cr=false|.sendD=>cj=true/\cr=false|.feed _|.sendJ _ _=>cj=false/\cr=false/\rcvd=0|.closeJ=>False|.recvD k=>cj=true/\cr=false/\rcvd=k/\k<3|.closeR=>cj=true/\cr=false/\rcvd=3
def Stage(cj cr:Bool)(rcvd:Nat):St α->Prop
 |.old 1 _=>cj=true|.old 2 _=>cj=true/\cr=true/\rcvd=3|.old _ _=>True|.unborn c|.born c=>match c with
  |.recvJ=>cr=false
  |.feed _=>cj=false/\cr=false/\rcvd=0
  |_=>False
 |.live c=>match c with
  |.sendJ _ _=>False
  |c=>StageC cj cr rcvd c
 |.park c=>match c with
  |.recvJ=>cj=false/\cr=false
  |.sendR _=>cr=false
  |.sendJ _ _=>cj=false/\cr=false/\rcvd=0
  |.recvD k=>cj=true/\cr=false/\rcvd=k/\k<3
  |.recvR _=>cr=false
  |_=>False
def Cfg.rl(i:Nat):Nat:=if i=0 then 3 else if i<C.n then 0 else if i<C.n+3 then 1 else 2
def Cfg.grp(i:Nat):Prop:=i=0∨C.n<=i/\i<C.n+4
structure Pro(all:List α)(s:Nat->St α)(cj cr:Bool)(sent rcvd:Nat):Prop where
 role:∀i,i<C.n+4->(s i).role=C.rl i
 tok:∀p,sumTo (C.n+4) (λi=>(s i).tok p)=all.countP p
 le:rcvd<=sent
 said:sent=sumTo (C.n+4) (λi=>(s i).said)
 stage:∀i,i<C.n+4->Stage cj cr rcvd (s i)
 p1:∀i j,i<C.n+4->j<C.n+4->s i=.park .recvJ->∀a rem,s j≠.park (.sendJ a rem)
 p2:∀i j,i<C.n+4->j<C.n+4->∀a g,s i=.park (.sendR a)->s j≠.park (.recvR g)
 p3:∀i k,i<C.n+4->s i=.park (.recvD k)->sent=rcvd
 fits:all.length<=C.top
def sts(D:Nat->Pd α):Nat->St α:=λi=>(D i).st
structure Inv(all:List α)(gs:Array Goroutine)(w:World)(t:Trace)(D:Nat->Pd α)(cj cr:Bool)(sent rcvd:Nat):Prop where
 pos:0<C.n
 ok:∀i,i<C.n+4->Ok C t i gs[i]? (D i)
 size:gs.size<=C.n+4
 sees:∀i,i<C.n+4->Sees C w (D i)
 disj:∀i j,i<C.n+4->j<C.n+4->i≠j->∀b,b∈(D i).X->b∈(D j).X->C.Sh b
 main:(∃k,k<=3/\(D 0).st=.live (.spawn k)/\gs.size=C.n+k)∨((∃got,(D 0).st=.live (.recvR got)∨(D 0).st=.park (.recvR got))/\gs.size=C.n+4)
 chJ:∃s r,w.heap[C.N.J]? =some (.chan 0 #[] cj s r false)
 chR:∃s r,w.heap[C.N.R]? =some (.chan 0 #[] cr s r false)
 chD:w.heap[C.N.D]? =some (.chan 3 (Array.replicate (sent-rcvd) C.N.dv) false sent rcvd false)
 ne:C.N.J≠C.N.R/\C.N.J≠C.N.D/\C.N.R≠C.N.D
 pro:Pro C all (sts D) cj cr sent rcvd
def blk:Loc->Nat
 |.cell a=>a.block|.obj r=>r|_=>0
def Mine(D:Nat->Pd α)(g:Nat)(a:Touch):Prop:=(blk a.loc∈(D g).X/\(a.write=true->¬C.Sh (blk a.loc)))∨(a.write=false/\(a.loc=.obj C.N.J∨a.loc=.obj C.N.R))
def SaidAt(t:Trace)(i sent rcvd:Nat):Prop:=∃s k z,t[s]? =some z/\z.g=i/\z.act=.send C.N.D k/\k<sent/\t.heard s/\(∀p y a,t[p]? =some y->y.g=i->y.act.touch? =some a->p<s)/\(k<rcvd->Knows t (C.n+3) s)
def ShutAt(t:Trace):Prop:=∃c z,t[c]? =some z/\z.g=C.n+3/\z.act=.close C.N.R/\t.heard c/\∀p y a,t[p]? =some y->C.grp y.g->y.g≠0->y.act.touch? =some a->Before t p c
structure Tr(t:Trace)(D:Nat->Pd α)(sent rcvd:Nat):Prop where
 clean:∀said,¬Race said t
 touch:∀p a,touchAt t p=some a->a.loc.isMemory=true->(∀i,C.grp i->(∀c,(D i).st≠.unborn c)->Knows t i p)∨∃op,t[p]? =some op/\C.grp op.g/\Mine C D op.g a
 deaf:∀i,C.grp i->(∀r q,(D i).st≠.old r q)->Deaf t i=0
 said:∀i q,i<C.n+4->(D i).st=.old 1 q->SaidAt C t i sent rcvd
 shut:∀q,(D (C.n+3)).st=.old 2 q->ShutAt C t
 above:∀j,C.n+4<=j->Deaf t j=0
variable{C}
def Inv.status{all gs w t D cj cr sent rcvd}(h:Inv C all gs w t D cj cr sent rcvd){i x}(hx:gs[i]? =some x):i<C.n+4/\((x.status=.running∨x.status=.finished)∨∃c,(D i).st=.park c):=by
 have hi:i<C.n+4:=Nat.lt_of_lt_of_le (Array.getElem?_eq_some_iff.1 hx).1 h.size;refine⟨hi,?_⟩;have:=h.ok i hi;unfold Ok at this;cases hs:(D i).st with
 |old r q=>rw[hs]at this;obtain⟨⟨y,h1,h2⟩,_⟩:=this;rw[hx]at h1;cases h1;exact .inl h2.status
 |unborn c=>rw[hs]at this;rw[hx]at this;cases this.1
 |born c=>rw[hs]at this;have h1:=this.1;rw[hx]at h1;cases h1;exact .inl (.inl rfl)
 |live c=>rw[hs]at this;obtain⟨g',h1,h2,_⟩:=this;rw[hx]at h1;cases h1;exact .inl (.inl h2.run.2)
 |park c=>exact .inr ⟨c,rfl⟩
def Net.chan(N:Net α):Ctl α->Option (Nat×Bool)
 |.recvJ=>some (N.J,false)|.sendR _=>some (N.R,true)|.sendD=>some (N.D,true)|.sendJ _ _=>some (N.J,true)|.recvD _=>some (N.D,false)|.recvR _=>some (N.R,false)|_=>none
def offers_parked(N:Net α) c g ch b:offersAt (parked g (N.cases c) (N.shape c)) ch b=if N.chan c=some (ch,b)then [0]else []:=by
 cases c with
 |recvJ=>cases b<;>simp[Net.cases,Net.shape,Net.chan,offersAt_parked_recv,offersAt_parked_recv']
 |sendR a=>cases b<;>simp[Net.cases,Net.shape,Net.chan,offersAt_parked_send,offersAt_parked_send']
 |sendJ a r=>cases b<;>simp[Net.cases,Net.shape,Net.chan,offersAt_parked_send,offersAt_parked_send']
 |sendD=>cases b<;>simp[Net.cases,Net.shape,Net.chan,offersAt_parked_send,offersAt_parked_send']
 |recvD k=>cases b<;>simp[Net.cases,Net.shape,Net.chan,offersAt_parked_recv,offersAt_parked_recv']
 |recvR k=>cases b<;>simp[Net.cases,Net.shape,Net.chan,offersAt_parked_recv,offersAt_parked_recv']
 |_=>simp[Net.cases,Net.chan,offersAt,parked]
section
variable{all:List α}{gs:Array Goroutine}{w:World}{t:Trace}{D:Nat->Pd α}{cj cr:Bool}{sent rcvd:Nat}
def Inv.partner(h:Inv C all gs w t D cj cr sent rcvd){i ch b j k}(hm:(j,k)∈partners (gs.setIfInBounds i ph) ch b):k=0/\j≠i/\j<C.n+4/\∃c g',(D j).st=.park c/\C.N.chan c=some (ch,b)/\gs[j]? =some (parked g' (C.N.cases c) (C.N.shape c))/\GR C.P C.E (D j).X (C.R j) (D j).g g'/\C.N.A c (D j).g (D j).v:=by obtain⟨g,hg,hk⟩:=mem_partners.1 hm;rcases getElem?_stand gs i j g hg with⟨rfl,rfl⟩|⟨hne,hj⟩;rw[offersAt_ph]at hk;cases hk;obtain⟨hlt,hst⟩:=h.status hj;rcases hst with hst|⟨c,hc⟩;rw[offersAt_of_not_blocked (by rcases hst with e|e<;>rw[e]<;>simp)]at hk;cases hk;have:=h.ok j hlt;unfold Ok at this;rw[hc]at this;obtain⟨g',h1,h2,h3⟩:=this;rw[hj]at h1;cases h1;rw[offers_parked]at hk;split at hk;rename_i hch;exact⟨by simpa using hk,hne,hlt,c,g',hc,hch,hj,h2,h3⟩;cases hk
def Inv.nopartner(h:Inv C all gs w t D cj cr sent rcvd){i ch b}(hn:∀j c,j<C.n+4->(D j).st=.park c->C.N.chan c≠some (ch,b)):partners (gs.setIfInBounds i ph) ch b=[]:=by apply List.eq_nil_iff_forall_not_mem.2;rintro⟨j,k⟩hm;obtain⟨_,_,hlt,c,g',h1,h2,_⟩:=h.partner hm;exact hn j c hlt h1 h2
def Inv.woken(h:Inv C all gs w t D cj cr sent rcvd){w'}(hJ:∃s r,w'.heap[C.N.J]? =some (.chan 0 #[] cj s r false))(hR:∃s r,w'.heap[C.N.R]? =some (.chan 0 #[] cr s r false))(hD:∃b s r,w'.heap[C.N.D]? =some (.chan 3 b false s r false)) P g g':gs.map (woken P g g' w')=gs:=by
 apply Array.ext_getElem?;intro j;rw[Array.getElem?_map];cases hx:gs[j]? with
 |none=>rfl|some x=>
 rw[Option.map_some];congr 1;obtain⟨hlt,hst⟩:=h.status hx;rcases hst with hst|⟨c,hc⟩;unfold Go.Conc.woken;split;exact again_running _ hst;rfl;have hok:=h.ok j hlt;have hstage:Stage cj cr rcvd (D j).st:=h.pro.stage j hlt;unfold Ok at hok;rw[hc]at hok hstage;obtain⟨y,h1,_,_⟩:=hok;rw[hx]at h1;cases h1;obtain⟨s1,r1,e1⟩:=hJ;obtain⟨s2,r2,e2⟩:=hR;obtain⟨b3,s3,r3,e3⟩:=hD;cases c with
 |recvJ=>obtain⟨rfl,_⟩:cj=false/\_:=hstage;exact woken_recv_open _ _ e1
 |sendR a=>obtain rfl:cr=false:=hstage;exact woken_send_open _ _ e2
 |sendJ a rem=>obtain⟨rfl,_⟩:cj=false/\_:=hstage;exact woken_send_open _ _ e1
 |recvD k=>exact woken_recv_open _ _ e3|recvR got=>obtain rfl:cr=false:=hstage;exact woken_recv_open _ _ e2
 |_=>exact hstage.elim
end
section
variable{all:List α}{s s':Nat->St α}{cj cr cj' cr':Bool}{sent rcvd sent' rcvd':Nat}
def Pro.unpark(h:Pro C all s cj cr sent rcvd)(hrole:∀i,i<C.n+4->(s' i).role=(s i).role)(htok:∀p,sumTo (C.n+4) (λi=>(s' i).tok p)=sumTo (C.n+4) (λi=>(s i).tok p))(hle:rcvd'<=sent')(hsaid:sent'=sumTo (C.n+4) (λi=>(s' i).said)) (hstage:∀i,i<C.n+4->Stage cj' cr' rcvd' (s' i)) (hpark:∀i c,i<C.n+4->s' i=.park c->s i=.park c) (hp3:∀i k,i<C.n+4->s' i=.park (.recvD k)->sent'=rcvd'):Pro C all s' cj' cr' sent' rcvd' where
 role:=λi hi=>(hrole i hi).trans (h.role i hi);tok:=λp=>(htok p).trans (h.tok p);le:=hle;said:=hsaid;stage:=hstage;p1:=λi j hi hj h1 a rem h2=>h.p1 i j hi hj (hpark i _ hi h1) a rem (hpark j _ hj h2);p2:=λi j hi hj a g h1 h2=>h.p2 i j hi hj a g (hpark i _ hi h1) (hpark j _ hj h2);p3:=hp3;fits:=h.fits
def Pro.one(h:Pro C all s cj cr sent rcvd){i}(hi:i<C.n+4) x(hrole:x.role=(s i).role)(htok:∀p,x.tok p=(s i).tok p)(hsaid:x.said=(s i).said)(hst:Stage cj cr rcvd x)(hp:∀c,x≠.park c):Pro C all (upd s i x) cj cr sent rcvd:=by
 have hpark:∀j c,j<C.n+4->upd s i x j=.park c->s j=.park c:=λj c hj hc=>by by_cases hji:j=i;subst hji;rw[upd_same]at hc;exact absurd hc (hp c);rwa[upd_ne s x hji]at hc
 refine h.unpark (λj hj=>?_) (λp=>?_) h.le ?_ (λj hj=>?_) hpark (λj k hj hc=>h.p3 j k hj (hpark j _ hj hc));by_cases hji:j=i;subst hji;rw[upd_same,hrole];rw[upd_ne s x hji];have:=sumTo_upd s x (λy=>y.tok p) hi;have e:=htok p;omega;have:=sumTo_upd s x (λy=>y.said) hi;have e:=h.said;omega;by_cases hji:j=i;subst hji;rw[upd_same];exact hst;rw[upd_ne s x hji];exact h.stage j hj
theorem Pro.park(h:Pro C all s cj cr sent rcvd){i:Nat}(hi:i<C.n+4)(c:Ctl α)(hrole:c.role=(s i).role)(htok:∀p,c.tok p=(s i).tok p)(hsaid:0=(s i).said)(hst:Stage cj cr rcvd (.park c)) (h1:c=.recvJ->∀j a rem,j<C.n+4->s j≠.park (.sendJ a rem)) (h2:∀a rem,c=.sendJ a rem->∀j,j<C.n+4->s j≠.park .recvJ) (h3:∀a,c=.sendR a->∀j g,j<C.n+4->s j≠.park (.recvR g)) (h4:∀g,c=.recvR g->∀j a,j<C.n+4->s j≠.park (.sendR a)) (h5:∀k,c=.recvD k->sent=rcvd):Pro C all (upd s i (.park c)) cj cr sent rcvd where
 role:=λj hj=>by by_cases hji:j=i;subst hji;rw[upd_same];exact hrole.trans (h.role j hj);rw[upd_ne s _ hji];exact h.role j hj
 tok:=λp=>by have:=sumTo_upd s (.park c) (λy=>y.tok p) hi;have e:(St.park c).tok p=(s i).tok p:=htok p;have e2:=h.tok p;omega
 le:=h.le;said:=by have:=sumTo_upd s (.park c) (λy=>y.said) hi;have e:=h.said;have e2:(St.park c).said=0:=rfl;omega
 stage:=λj hj=>by by_cases hji:j=i;subst hji;rw[upd_same];exact hst;rw[upd_ne s _ hji];exact h.stage j hj
 p1:=λj k hj hk e1 a rem e2=>by by_cases hji:j=i;subst hji;rw[upd_same]at e1;cases e1;by_cases hki:k=j;subst hki;rw[upd_same]at e2;cases e2;rw[upd_ne s _ hki]at e2;exact h1 rfl k a rem hk e2;rw[upd_ne s _ hji]at e1;by_cases hki:k=i;subst hki;rw[upd_same]at e2;cases e2;exact h2 a rem rfl j hj e1;rw[upd_ne s _ hki]at e2;exact h.p1 j k hj hk e1 a rem e2
 p2:=λj k hj hk a g e1 e2=>by by_cases hji:j=i;subst hji;rw[upd_same]at e1;cases e1;by_cases hki:k=j;subst hki;rw[upd_same]at e2;cases e2;rw[upd_ne s _ hki]at e2;exact h3 a rfl k g hk e2;rw[upd_ne s _ hji]at e1;by_cases hki:k=i;subst hki;rw[upd_same]at e2;cases e2;exact h4 g rfl j a hj e1;rw[upd_ne s _ hki]at e2;exact h.p2 j k hj hk a g e1 e2
 p3:=λj k hj e=>by by_cases hji:j=i;subst hji;rw[upd_same]at e;cases e;exact h5 k rfl;rw[upd_ne s _ hji]at e;exact h.p3 j k hj e
 fits:=h.fits
def Pro.two(h:Pro C all s cj cr sent rcvd){i j}(hi:i<C.n+4)(hj:j<C.n+4)(hij:i≠j) x y(hx:x.role=(s i).role)(hy:y.role=(s j).role)(htok:∀p,x.tok p+y.tok p=(s i).tok p+(s j).tok p)(hsaid:x.said+y.said+sent=(s i).said+(s j).said+sent')(hle:rcvd'<=sent') (hst:∀k,k<C.n+4->k≠i->k≠j->Stage cj cr rcvd' (s k)) (hsx:Stage cj cr rcvd' x) (hsy:Stage cj cr rcvd' y) (hpx:∀c,x≠.park c) (hpy:∀c,y≠.park c) (hp3:∀k q,k<C.n+4->k≠i->k≠j->s k=.park (.recvD q)->sent'=rcvd'):Pro C all (upd (upd s i x) j y) cj cr sent' rcvd':=by
 have hval:∀k,upd (upd s i x) j y k=if k=j then y else if k=i then x else s k:=λk=>rfl
 have hpark:∀k c,k<C.n+4->upd (upd s i x) j y k=.park c->k≠i/\k≠j/\s k=.park c:=λk c hk hc=>by rw[hval]at hc;split at hc;exact absurd hc (hpy c);split at hc;exact absurd hc (hpx c);rename_i h1 h2;exact⟨h2,h1,hc⟩
 have e1:∀φ:St α->Nat,sumTo (C.n+4) (λk=>φ (upd (upd s i x) j y k))+φ (s i)+φ (s j)=sumTo (C.n+4) (λk=>φ (s k))+φ x+φ y:=λφ=>by have a:=sumTo_upd (upd s i x) y φ hj;have b:=sumTo_upd s x φ hi;rw[upd_ne s x (Ne.symm hij)]at a;omega
 refine h.unpark (λk hk=>?_) (λp=>?_) hle ?_ (λk hk=>?_) (λk c hk hc=>(hpark k c hk hc).2.2) (λk q hk hc=>?_);rw[hval];split;rename_i e;subst e;exact hy;split;rename_i e;subst e;exact hx;rfl;have:=e1 (λy=>y.tok p);have e:=htok p;omega;have:=e1 (λy=>y.said);have e:=h.said;omega;rw[hval];split;exact hsy;split;exact hsx;rename_i a b;exact hst k hk b a;obtain⟨a,b,c⟩:=hpark k _ hk hc;exact hp3 k q hk a b c
end
end Ph
namespace Ph
open Go.Conc Rn
open Go.ConcN (sumTo upd sumTo_upd upd_ne upd_same le_sumTo)
variable{α:Type}{C:Cfg α}
def Quiet(u:Trace):Prop:=∀op∈u,op.act.touch? =none/\∀m,op.act≠.mark m
def Quiet.deaf{u}(h:Quiet u) t g:Deaf (t++u) g=Deaf t g:=by
 obtain⟨l⟩:=u;rw[Deaf_append];generalize Deaf t g=d;induction l with
 |nil=>rfl|cons y l ih=>
 have e:deafStep g d y=d:=by have:=(h y (by simp)).2;unfold deafStep;split;rename_i hh;exact absurd hh (this _);rename_i hh;exact absurd hh (this _);rfl
 rw[List.foldl_cons,e];exact ih (λop hop=>h op (by simp at hop|-;exact .inr hop))
def noRace_mute{said t u}(h:¬Race said t)(hu:∀op∈u,op.act.touch? =none):¬Race said (t++u):=by
 rintro⟨i,j,hij,⟨a,b,ha,hb,hc⟩,n1,n2⟩;obtain⟨x,hx,hxa⟩:=touch_of ha;obtain⟨y,hy,hyb⟩:=touch_of hb;rcases getElem?_append_cases hy with⟨hj,hy'⟩|⟨hj,hyu⟩;have hi:i<t.size:=Nat.lt_trans hij hj;have hx':t[i]? =some x:=by rw[<-getElem?_append_old (u:=u) hi];exact hx
 exact h ⟨i,j,hij,⟨a,b,by simp[Trace.act?,hx',hxa],by simp[Trace.act?,hy',hyb],hc⟩,λe=>n1 (hb_app u e),λe=>n2 (hb_app u e)⟩;rw[hu y hyu]at hyb;cases hyb
def SaidAt.app{t u i sent rcvd sent'}(h:SaidAt C t i sent rcvd)(hu:∀op∈u,op.g=i->op.act.touch? =none)(hs:sent<=sent'):SaidAt C (t++u) i sent' rcvd:=by obtain⟨s,k,z,h1,h2,h3,h4,h5,h6,h7⟩:=h;have hlt:=lt_size_of_getElem? h1;refine⟨s,k,z,by rw[getElem?_append_old hlt];exact h1,h2,h3,by omega,(heard_old hlt).2 h5,λp y a hp hy ha=>?_,λhk=>(h7 hk).app u⟩;rcases getElem?_append_cases hp with⟨_,hp'⟩|⟨_,hyu⟩;exact h6 p y a hp' hy ha;rw[hu y hyu hy]at ha;cases ha
def ShutAt.app{t u}(h:ShutAt C t)(hu:∀op∈u,C.grp op.g->op.g≠0->op.act.touch? =none):ShutAt C (t++u):=by obtain⟨c,z,h1,h2,h3,h4,h5⟩:=h;have hlt:=lt_size_of_getElem? h1;refine⟨c,z,by rw[getElem?_append_old hlt];exact h1,h2,h3,(heard_old hlt).2 h4,λp y a hp hg h0 ha=>?_⟩;rcases getElem?_append_cases hp with⟨_,hp'⟩|⟨_,hyu⟩;exact(h5 p y a hp' hg h0 ha).app u;rw[hu y hyu hg h0]at ha;cases ha
section
variable{t u:Trace}{D D':Nat->Pd α}{sent rcvd sent' rcvd':Nat}
def Tr.mute(h:Tr C t D sent rcvd)(hu:∀op∈u,op.act.touch? =none)(hX:∀g,(D' g).X=(D g).X)(hun:∀i,C.grp i->(∀c,(D' i).st≠.unborn c)->(∀c,(D i).st≠.unborn c)∨∀p,Knows t 0 p->Knows (t++u) i p)(h0:∀c,(D 0).st≠.unborn c) (hd:∀i,C.grp i->(∀r q,(D' i).st≠.old r q)->(∀r q,(D i).st≠.old r q)/\Deaf (t++u) i=Deaf t i) (hs:∀i q,i<C.n+4->(D' i).st=.old 1 q->SaidAt C (t++u) i sent' rcvd') (hsh:∀q,(D' (C.n+3)).st=.old 2 q->ShutAt C (t++u)) (hab:∀j,C.n+4<=j->Deaf (t++u) j=Deaf t j):Tr C (t++u) D' sent' rcvd' where
 clean:=λsaid=>noRace_mute (h.clean said) hu;touch:=λp a ha hm=>by obtain⟨x,hx,hxa⟩:=touch_of ha;rcases getElem?_append_cases hx with⟨hp,hx'⟩|⟨_,hxu⟩;rcases h.touch p a (by rw[touchAt_of hx'];exact hxa) hm with hk|⟨op,h1,h2,h3⟩;refine .inl λi hi hc=>?_;rcases hun i hi hc with h4|h4;exact(hk i hi h4).app u;exact h4 p (hk 0 (.inl rfl) h0);refine .inr ⟨op,by rw[getElem?_append_old hp];exact h1,h2,?_⟩;unfold Mine at h3|-;rw[hX];exact h3;rw[hu x hxu]at hxa;cases hxa
 deaf:=λi hi hc=>by obtain⟨h1,h2⟩:=hd i hi hc;rw[h2];exact h.deaf i hi h1
 said:=hs;shut:=hsh;above:=λj hj=>(hab j hj).trans (h.above j hj)
def touch_evx{X Sh e}(h:EvX X Sh e):(MemAct.ofEvent e).touch? =none∨∃a,(MemAct.ofEvent e).touch? =some a/\blk a.loc∈X/\(a.write=true->¬Sh (blk a.loc)):=by rcases h with rfl|⟨h1,⟨a,h2,h3,h4⟩|⟨r,h2,h3,h4⟩⟩;exact .inl rfl;obtain⟨loc,wr,sy⟩:=e;obtain rfl:loc=.cell a:=h2;obtain rfl:sy=false:=h1;refine .inr ⟨⟨.cell a,wr,.plain⟩,?_,h3,h4⟩;cases wr<;>rfl;obtain⟨loc,wr,sy⟩:=e;obtain rfl:loc=.obj r:=h2;obtain rfl:sy=false:=h1;refine .inr ⟨⟨.obj r,wr,.plain⟩,?_,h3,h4⟩;cases wr<;>rfl
def deaf_evx{X Sh es}(h:∀e∈es,EvX X Sh e) d:deafBehind d es=d:=by
 obtain⟨l⟩:=es;unfold deafBehind;rw[<-Array.foldl_toList];show List.foldl _ d l=d;induction l with
 |nil=>rfl|cons e l ih=>
 rw[List.foldl_cons];have he:=h e (by simp);have:(match e.loc with|.mark .disable=>d+1|.mark .enable=>d-1|_=>d)=d:=by rcases he with rfl|⟨_,⟨a,h2,_⟩|⟨r,h2,_⟩⟩;rfl;rw[h2];rw[h2]
 refine(congrArg (λx=>List.foldl _ x l) this).trans ?_;exact ih λe' he'=>h e' (by simp at he'|-;exact .inr he')
def Tr.own(h:Tr C t D sent rcvd){i}(hg:C.grp i){c}(hi:(D i).st=.live c) d'(hst:∃c',d'.st=.live c')(hX:∀b∈(D i).X,b∈d'.X){fn pos es}(he:∀e∈es,EvX d'.X C.Sh e) (hdisj:∀j,C.grp j->j≠i->∀b,b∈d'.X->b∈(D j).X->C.Sh b) (hch:C.N.J∉d'.X/\C.N.R∉d'.X) (hshut:i=0∨∀q,(D (C.n+3)).st≠.old 2 q) (hlt:i<C.n+4):Tr C (t++MemOp.ofEvents i fn pos es) (upd D i d') sent rcvd:=by
 have hown:∀op∈MemOp.ofEvents i fn pos es,op.g=i:=λop hop=>by obtain⟨e,_,rfl⟩:=Go.Conc.mem_ofEvents hop;rfl
 have hnu:∀c,(D i).st≠.unborn c:=λc e=>by rw[hi]at e;cases e
 have hno:∀r q,(D i).st≠.old r q:=λr q e=>by rw[hi]at e;cases e
 refine⟨λsaid=>noRace_append (h.clean said) hown λp a ha op hop b hb hc=>?_,λp a ha hm=>?_,λj hj hjo=>?_,λj q hj hq=>?_,λq hq=>?_,λj hj=>(Deaf_other t (g':=i) (by omega) _ hown).trans (h.above j hj)⟩;rcases h.touch p a ha hc.2.1 with hk|⟨o,h1,h2,h3⟩;exact hk i hg hnu;by_cases hoi:o.g=i;have:=knows_own h1;rwa[hoi]at this;exfalso;obtain⟨e,hem,rfl⟩:=Go.Conc.mem_ofEvents hop;rcases touch_evx (he e hem)with hn|⟨b',hb',hb1,hb2⟩;rw[hn]at hb;cases hb;rw[hb']at hb;cases hb;rcases h3 with⟨h4,h5⟩|⟨h4,h5⟩;rw[hc.1]at h4 h5;have hsh:=hdisj o.g h2 hoi _ hb1 h4;rcases hc.2.2.1 with hw|hw;exact h5 hw hsh;exact hb2 hw hsh;rw[hc.1]at h5;rcases h5 with h5|h5<;>rw[h5]at hb1;exact hch.1 hb1;exact hch.2 hb1;obtain⟨x,hx,hxa⟩:=touch_of ha;rcases getElem?_append_cases hx with⟨hp,hx'⟩|⟨_,hxu⟩;rcases h.touch p a (by rw[touchAt_of hx'];exact hxa) hm with hk|⟨op,h1,h2,h3⟩;refine .inl λj hj hc=>(hk j hj λc e=>?_).app _;by_cases hji:j=i;subst hji;exact hnu c e;exact hc c (by rw[upd_ne D d' hji];exact e);refine .inr ⟨op,by rw[getElem?_append_old hp];exact h1,h2,?_⟩;by_cases hoi:op.g=i;unfold Mine at h3|-;rw[hoi]at h3|-;rw[upd_same];rcases h3 with⟨h4,h5⟩|h4;exact .inl ⟨hX _ h4,h5⟩;exact .inr h4;unfold Mine at h3|-;rw[upd_ne D d' hoi];exact h3;refine .inr ⟨x,hx,by rw[hown x hxu];exact hg,?_⟩;obtain⟨e,hem,rfl⟩:=Go.Conc.mem_ofEvents hxu;rcases touch_evx (he e hem)with hn|⟨b',hb',hb1,hb2⟩;rw[hn]at hxa;cases hxa;rw[hb']at hxa;cases hxa;unfold Mine;rw[upd_same];exact .inl ⟨hb1,hb2⟩;by_cases hji:j=i;subst hji;rw[Deaf_own,deaf_evx he];exact h.deaf j hj hno;rw[Deaf_other t (g':=i) (Ne.symm hji) _ hown];exact h.deaf j hj λr q e=>hjo r q (by rw[upd_ne D d' hji];exact e);have hji:j≠i:=λe=>by subst e;obtain⟨c',e'⟩:=hst;rw[upd_same,e']at hq;cases hq
 rw[upd_ne D d' hji]at hq;exact(h.said j q hj hq).app (λop hop hg=>absurd ((hown op hop).symm.trans hg) (Ne.symm hji)) (Nat.le_refl _);have hji:C.n+3≠i:=λe=>by obtain⟨c',e'⟩:=hst;rw[e,upd_same,e']at hq;cases hq
 rw[upd_ne D d' hji]at hq;rcases hshut with rfl|hs;exact(h.shut q hq).app λop hop _ h0=>absurd (hown op hop) h0;exact absurd hq (hs q)
end
end Ph
namespace Ph
open Go.Conc Rn
open Go.ConcN (sumTo upd sumTo_upd upd_ne upd_same le_sumTo)
open Tp (MoveRe Term Ld)
variable{α:Type}{C:Cfg α}
def Ctl.talks:Ctl α->Bool
 |.recvJ|.sendR _|.sendD|.sendJ _ _|.recvD _|.recvR _=>true|_=>false
def doneG(g:Goroutine)(v:Value):Goroutine:={g with frame:=g.frame.finish v,status:=.running,offers:=none}
structure Law(C:Cfg α):Prop where
 code:∀f fn b,C.E.F f->C.P.funcs[f]? =some fn->fn.body=some b->CodeOK C.P C.E b
 bodied:Bod C.P C.E
 glob:C.P.globals.size<=C.E.G
 chans:∀r b,C.E.C r=some b->r<C.E.G
 re:∀c g v τ n,C.N.A c g v->C.N.A c g (v.re τ n)
 talk:∀c g v,C.N.A c g v->¬Lost g
 started:∀i,C.n<=i->i<C.n+4->C.E.F (C.f i)/\∃fn,C.P.funcs[C.f i]? =some fn
 act:∀c X R g v g',c.talks=true->C.N.A c g v->GR C.P C.E X R g g'->∀b w,stepG C.P b g' w=.comm {g' with status:=.running,offers:=none} (C.N.cases c) true (C.N.shape c) w #[]
 actClose:∀c ch X R g v g',(c=.closeJ/\ch=C.N.J∨c=.closeR/\ch=C.N.R)->C.N.A c g v->GR C.P C.E X R g g'->mayWake C.P g'=true/\∀b w s r,w.heap[ch]? =some (.chan 0 #[] false s r false)->
  stepG C.P b g' w=.go (doneG g' (.tuple #[])) {w with heap:=w.heap.setIfInBounds ch (.chan 0 #[] true s r false)} #[⟨.obj ch,false,true⟩,⟨.obj ch,true,true⟩]
 app0:∀X Y,C.ok0 X->C.ok0 (X++Y)
 actSpawn:∀k X R g v g',k<=3->C.ok0 X->C.N.A (.spawn k) g v->GR C.P C.E X R g g'->∀b w,stepG C.P b g' w=.spawn (doneG g' undef) (bornOf C.P (C.d (C.n+k))) w #[]
 vals:(∀a,Rn.Clean (C.N.jv a))/\(∀a,Rn.Clean (C.N.fv a))/\Rn.Clean C.N.dv/\Rn.Clean C.N.zJ/\Rn.Clean C.N.zR
 tx:∀a rem g v,C.N.A (.sendJ a rem) g v->C.N.TX a
 nRecvJ:∀a g v,C.N.A .recvJ g v->C.N.TX a->Term C.P (C.N.Stop (.sendR a)) (Go.Conc.served g (.tuple #[C.N.jv a,.bool true])) v
 nEndJ:∀g v,C.N.A .recvJ g v->Term C.P (C.N.Stop .sendD) (Go.Conc.served g (.tuple #[C.N.zJ,.bool false])) v
 nSendR:∀a g v,C.N.A (.sendR a) g v->Term C.P (C.N.Stop .recvJ) (Go.Conc.served g undef) v
 nSendD:∀X g v g',C.N.A .sendD g v->GR C.P C.E X [base C.P] g g'->∃q,QuitsD C.P q 0 (Go.Conc.served g' undef)
 nSendJ:∀a rem g v,C.N.A (.sendJ a rem) g v->Term C.P (C.N.Stop (.feed rem)) (Go.Conc.served g undef) v
 nCloseJ:∀g v,C.N.A .closeJ g v->Term C.P (C.N.Stop (.recvD 0)) (doneG g (.tuple #[])) v
 nRecvD:∀k g v,k<2->C.N.A (.recvD k) g v->Term C.P (C.N.Stop (.recvD (k+1))) (Go.Conc.served g C.N.dv) v
 nRecvD2:∀g v,C.N.A (.recvD 2) g v->Term C.P (C.N.Stop .closeR) (Go.Conc.served g C.N.dv) v
 nCloseR:∀X g v g',C.N.A .closeR g v->GR C.P C.E X [base C.P] g g'->∃q,QuitsD C.P q 0 (doneG g' (.tuple #[]))
 nSpawn:∀k g v,k<3->C.N.A (.spawn k) g v->Term C.P (C.N.Stop (.spawn (k+1))) (doneG g undef) v
 nSpawn3:∀g v,C.N.A (.spawn 3) g v->Term C.P (C.N.Stop (.recvR [])) (doneG g undef) v
 nRecvR:∀a got g v,(a::got).length<=C.top->C.N.A (.recvR got) g v->Term C.P (C.N.Stop (.recvR (a::got))) (Go.Conc.served g (.tuple #[C.N.fv a,.bool true])) v
def Law.stop(L:Law C) c g v(h:C.N.Stop c g v):¬Lost g:=by
 cases c with
 |feed rem=>rcases h with⟨a,r,_,h⟩|⟨_,h⟩;exact L.talk _ _ _ h;exact L.talk _ _ _ h
 |_=>exact L.talk _ _ _ h
def gr_finish{P E X R g g' h h'}(hg:GR P E X R g g'){u u'}(hu:V E X u u')(e1:h=doneG g u)(e2:h'=doneG g' u'):GR P E X R h h':=by subst e1;subst e2;exact⟨⟨rfl,rfl⟩,hg.dy,hg.frame.finish hu,hg.callers⟩
def re_of_rel{E Sh X v w}(h:WR E Sh X v w):WR E Sh X (v.re w.tape w.drawn) w:=by
 have:v.re w.tape w.drawn=v:=by rw[<-h.tape,<-h.drawn];rfl
 rw[this];exact h
def Inv.grp{all gs w t D cj cr sent rcvd}(h:Inv C all gs w t D cj cr sent rcvd){i}(hi:i<C.n+4)(hr:(D i).st.role≠0):C.grp i:=by have:=h.pro.role i hi;unfold Cfg.rl at this;unfold Cfg.grp;by_cases h0:i=0;exact .inl h0;refine .inr ⟨?_,hi⟩;apply Classical.byContradiction;intro hc;rw[if_neg h0,if_pos (by omega)]at this;exact hr this
def Inv.grp_lt{all gs w t D cj cr sent rcvd}(h:Inv C all gs w t D cj cr sent rcvd){i}(hi:C.grp i):i<C.n+4:=by have:=h.pos;rcases hi with rfl|⟨_,hi⟩<;>omega
def role_pos(c:Ctl α):c.role≠0:=by cases c<;>simp[Ctl.role]
section
variable{all:List α}{gs:Array Goroutine}{w:World}{t:Trace}{D:Nat->Pd α}{cj cr:Bool}{sent rcvd:Nat}{sl:Option (Nat×Nat)}
def move_seg(L:Law C)(I:Inv C all gs w t D cj cr sent rcvd)(T:Tr C t D sent rcvd){i}(hi:i<C.n+4){c}(hst:(D i).st=.live c)(hn:¬C.N.Stop c (D i).g (D i).v):∃gs' w' u D',runT C.P (crowd gs w sl) i=(.next (crowd gs' w' sl),u)/\Inv C all gs' w' (t++u) D' cj cr sent rcvd/\Tr C (t++u) D' sent rcvd/\RelN (Dn C.P C.N) (C.n+4) D' D/\(∀j,(D' j).st=(D j).st)/\Kept C w w' D D':=by
 have hok:=I.ok i hi;unfold Ok at hok;rw[hst]at hok;obtain⟨g',hx,hgr,hterm⟩:=hok;have hsees:=I.sees i hi;obtain⟨g1,v1,Y,g1',w1,es',hdown,hterm1,hstep,hgr1,hout,hev⟩:=seg_step L.code L.bodied L.glob L.chans (L.stop c) hgr hterm hn hsees (i==0);have hlt:i<gs.size:=(Array.getElem?_eq_some_iff.1 hx).1;have hchan:∀(ch:Nat)(o:Obj),(∃cap buf cl s r tm,o=.chan cap buf cl s r tm)->w.heap[ch]? =some o->w1.heap[ch]? =some o:=by rintro ch o⟨cap,buf,cl,s,r,tm,rfl⟩h;rw[hout.others ch (Array.getElem?_eq_some_iff.1 h).1 (λhm=>hsees.nochan C hm h)];exact h
 have hJ:∃s r,w1.heap[C.N.J]? =some (.chan 0 #[] cj s r false):=let⟨s,r,h⟩:=I.chJ;⟨s,r,hchan _ _ ⟨_,_,_,_,_,_,rfl⟩ h⟩;have hR:∃s r,w1.heap[C.N.R]? =some (.chan 0 #[] cr s r false):=let⟨s,r,h⟩:=I.chR;⟨s,r,hchan _ _ ⟨_,_,_,_,_,_,rfl⟩ h⟩;have hD:=hchan _ _ ⟨_,_,_,_,_,_,rfl⟩ I.chD;have hrun:=runT_crowd_go (P:=C.P) (sl:=sl) hx hstep;rw[I.woken hJ hR ⟨_,_,_,hD⟩]at hrun;have hown:∀op∈MemOp.ofEvents i g'.frame.fn g'.frame.place es',op.g=i:=λop hop=>by obtain⟨e,_,rfl⟩:=Go.Conc.mem_ofEvents hop;rfl
 let d':Pd α:=⟨.live c,g1,v1,(D i).X++Y⟩;have hdst:∀j,(upd D i d' j).st=(D j).st:=λj=>by by_cases hji:j=i;subst hji;rw[upd_same];exact hst.symm;rw[upd_ne D d' hji]
 have hXne:∀j,j≠i->(upd D i d' j)=D j:=λj hj=>upd_ne D d' hj;have hfresh:∀j,j<C.n+4->j≠i->∀b,b∈(D i).X++Y->b∈(D j).X->C.Sh b:=λj hj hji b hb hbj=>by rcases List.mem_append.1 hb with hb|hb;exact I.disj i j hi hj (Ne.symm hji) b hb hbj;have h1:=(hout.fresh b hb).1;have h2:=(I.sees j hj).lt C hbj;omega
 have hgrp:C.grp i:=I.grp hi (by rw[hst];exact role_pos c);refine⟨_,w1,_,upd D i d',hrun,?_,?_,⟨i,hi,?_,λj hj=>hXne j hj⟩,hdst,⟨hout.size,λb hb _ _ _ hx=>hx.elim (λhx=>hout.others b hb (hx i hi)) (λhx=>hout.shared b hx),λj=>?_,hout.os,hout.output,hout.tape⟩⟩;refine⟨I.pos,λj hj=>?_,by simpa using I.size,λj hj=>?_,λj k hj hk hjk b hbj hbk=>?_,?_,hJ,hR,hD,I.ne,?_⟩;by_cases hji:j=i;subst hji;rw[upd_same,Array.getElem?_setIfInBounds_self_of_lt hlt];exact⟨g1',rfl,hgr1,hterm1⟩;rw[hXne j hji,Array.getElem?_setIfInBounds_ne (Ne.symm hji)];exact(I.ok j hj).trace C (Deaf_other t (g':=i) (Ne.symm hji) _ hown);by_cases hji:j=i;subst hji;rw[upd_same];exact re_of_rel hout.rel;rw[hXne j hji];exact(I.sees j hj).other C hout λb h1 h2=>I.disj j i hj hi hji b h1 h2;by_cases hji:j=i;subst hji;rw[upd_same]at hbj;rw[hXne k (Ne.symm hjk)]at hbk;exact hfresh k hk (Ne.symm hjk) b hbj hbk;rw[hXne j hji]at hbj;by_cases hki:k=i;subst hki;rw[upd_same]at hbk;exact hfresh j hj hji b hbk hbj;rw[hXne k hki]at hbk;exact I.disj j k hj hk hjk b hbj hbk;rw[hdst,Array.size_setIfInBounds];exact I.main;have:sts (upd D i d')=sts D:=funext hdst;rw[this];exact I.pro;obtain⟨s1,r1,e1⟩:=hJ;obtain⟨s2,r2,e2⟩:=hR;have hrel:=re_of_rel hout.rel;refine T.own hgrp hst d' ⟨c,rfl⟩ (λb hb=>List.mem_append_left _ hb) hev (λj hj hji b hb hbj=>hfresh j (I.grp_lt hj) hji b hb hbj) ⟨λhm=>?_,λhm=>?_⟩ ?_ hi;exact Sees.nochan C (d:=d') hrel hm e1;exact Sees.nochan C (d:=d') hrel hm e2;by_cases h0:i=0;exact .inl h0;refine .inr λq hq=>?_;have hs1:Stage cj cr rcvd (D (C.n+3)).st:=I.pro.stage (C.n+3) (by omega);rw[hq]at hs1;have hs2:Stage cj cr rcvd (D i).st:=I.pro.stage i hi;have hro:(D i).st.role=C.rl i:=I.pro.role i hi;rw[hst]at hs2 hro;obtain⟨_,hcr,_⟩:=hs1;have hc3:c.role≠3:=by rw[show c.role=C.rl i from hro];unfold Cfg.rl;rw[if_neg h0];split;omega;split<;>omega
 cases c with
 |recvJ=>have:cr=false:=hs2;rw[this]at hcr;cases hcr
 |sendR a=>have:cr=false:=hs2;rw[this]at hcr;cases hcr
 |sendD=>have:cj=true/\cr=false:=hs2;rw[this.2]at hcr;cases hcr
 |feed rem=>have:cj=false/\cr=false/\_:=hs2;rw[this.2.1]at hcr;cases hcr
 |sendJ a rem=>exact hs2.elim|closeJ=>exact hs2.elim
 |recvD k=>have:cj=true/\cr=false/\_:=hs2;rw[this.2.1]at hcr;cases hcr
 |closeR=>have:cj=true/\cr=false/\_:=hs2;rw[this.2.1]at hcr;cases hcr
 |spawn k=>exact absurd rfl hc3|recvR got=>exact absurd rfl hc3
 show Dn C.P C.N (upd D i d' i) (D i);rw[upd_same];exact .inl ⟨c,hst,rfl,hdown⟩;by_cases hji:j=i;subst hji;rw[upd_same];exact⟨Y,rfl,λb hb=>(hout.fresh b hb).1⟩;rw[hXne j hji];exact⟨[],by rw[List.append_nil],λ_ h=>by cases h⟩
def move_old(I:Inv C all gs w t D cj cr sent rcvd)(T:Tr C t D sent rcvd){i}(hi:i<C.n+4)(hpos:0<i){r q}(hst:(D i).st=.old r q){x}(hx:gs[i]? =some x)(hr:x.status=.running):∃gs' w' u D',runT C.P (crowd gs w sl) i=(.next (crowd gs' w' sl),u)/\Inv C all gs' w' (t++u) D' cj cr sent rcvd/\Tr C (t++u) D' sent rcvd/\RelN (Dn C.P C.N) (C.n+4) D' D/\(∀φ:St α->Nat,(∀r a b,φ (.old r a)=φ (.old r b))->∀j,φ (D' j).st=φ (D j).st)/\Kept C w w' D D':=by
 have hok:=I.ok i hi;unfold Ok at hok;rw[hst]at hok;obtain⟨⟨y,hy,hq⟩,hA2⟩:=hok;rw[hx]at hy;cases hy;cases q with
 |zero=>rw[hq.1]at hr;cases hr
 |succ k=>
 rcases hq with⟨hf,_⟩|⟨_,g',es,hm,hstp,hq'⟩;rw[hf]at hr;cases hr;have hi0:(i==0)=false:=by simp;omega
 have hlt:i<gs.size:=(Array.getElem?_eq_some_iff.1 hx).1;have hrun:=runT_crowd_go (P:=C.P) (w:=w) (sl:=sl) hx (by rw[hi0];exact hstp w);rw[I.woken I.chJ I.chR ⟨_,_,_,I.chD⟩]at hrun;have hown:∀op∈MemOp.ofEvents i x.frame.fn x.frame.place es,op.g=i:=λop hop=>by obtain⟨e,_,rfl⟩:=Go.Conc.mem_ofEvents hop;rfl
 let d':Pd α:=⟨.old r k,(D i).g,(D i).v,(D i).X⟩;have hX:∀j,(upd D i d' j).X=(D j).X:=λj=>by by_cases hji:j=i;subst hji;rw[upd_same];rw[upd_ne D d' hji]
 have hv:∀j,(upd D i d' j).v=(D j).v:=λj=>by by_cases hji:j=i;subst hji;rw[upd_same];rw[upd_ne D d' hji]
 have hne:∀j,j≠i->upd D i d' j=D j:=λj hj=>upd_ne D d' hj;have hsts:sts (upd D i d')=upd (sts D) i (.old r k):=by funext j;by_cases hji:j=i;subst hji;show(upd D j d' j).st=_;rw[upd_same,upd_same];show(upd D i d' j).st=_;rw[upd_ne D d' hji,upd_ne _ _ hji];rfl
 have hrole:=I.pro.stage i hi;have hdeaf:∀j,j≠i->Deaf (t++MemOp.ofEvents i x.frame.fn x.frame.place es) j=Deaf t j:=λj hj=>Deaf_other t (g':=i) (Ne.symm hj) _ hown;have hmute:∀op∈MemOp.ofEvents i x.frame.fn x.frame.place es,op.act.touch? =none:=λop hop=>by obtain⟨e,he,rfl⟩:=Go.Conc.mem_ofEvents hop;exact touch_mute (hm e he)
 refine⟨_,w,_,upd D i d',hrun,⟨I.pos,λj hj=>?_,by simpa using I.size,λj hj=>?_,λj k hj hk hjk b hbj hbk=>?_,?_,I.chJ,I.chR,I.chD,I.ne,?_⟩,?_,⟨i,hi,?_,hne⟩,λφ hφ j=>?_,kept_eq hX rfl rfl rfl rfl⟩;by_cases hji:j=i;subst hji;rw[upd_same,Array.getElem?_setIfInBounds_self_of_lt hlt];exact⟨⟨g',rfl,by rw[Deaf_own];exact hq'⟩,hA2⟩;rw[hne j hji,Array.getElem?_setIfInBounds_ne (Ne.symm hji)];exact(I.ok j hj).trace C (hdeaf j hji);unfold Sees;rw[hX,hv];exact I.sees j hj;rw[hX]at hbj hbk;exact I.disj j k hj hk hjk b hbj hbk;rw[hne 0 (by omega),Array.size_setIfInBounds];exact I.main;rw[hsts];have e1:(sts D i)=.old r (k+1):=hst;refine I.pro.one hi _ (by rw[e1];rfl) (λp=>by rw[e1];rfl) (by rw[e1];cases r with|zero=>rfl|succ r=>cases r<;>rfl) ?_ (λc e=>by cases e);have h2:Stage cj cr rcvd (D i).st:=I.pro.stage i hi;rw[hst]at h2;match r,h2 with
 |0,h2=>exact h2
 |1,h2=>exact h2
 |2,h2=>exact h2
 |r+3,h2=>exact h2
 have hold:∀j r' q',(upd D i d' j).st=.old r' q'->∃q'',(D j).st=.old r' q'':=λj r' q' e=>by by_cases hji:j=i;subst hji;rw[upd_same]at e;cases e;exact⟨_,hst⟩;rw[hne j hji]at e;exact⟨_,e⟩
 refine T.mute hmute hX (λj hj hc=>.inl λc e=>?_) (λc e=>?_) (λj hj hc=>?_) (λj q' hj e=>?_) (λq' e=>?_) (λj hj=>hdeaf j (by omega));by_cases hji:j=i;subst hji;rw[hst]at e;cases e;exact hc c (by rw[hne j hji];exact e);rcases I.main with⟨_,_,h,_⟩|⟨⟨_,h|h⟩,_⟩<;>rw[h]at e<;>cases e;have hji:j≠i:=λe=>by subst e;exact hc r k (by rw[upd_same])
 rw[hne j hji]at hc;exact⟨hc,hdeaf j hji⟩;obtain⟨q'',h⟩:=hold j 1 q' e;exact(T.said j q'' hj h).app (λop hop _=>hmute op hop) (Nat.le_refl _);obtain⟨q'',h⟩:=hold _ 2 q' e;exact(T.shut q'' h).app λop hop _ _=>hmute op hop;rw[upd_same];exact .inr ⟨r,k,hst,rfl⟩;by_cases hji:j=i;subst hji;rw[upd_same,hst];exact hφ r k (k+1);rw[hne j hji]
end
end Ph
namespace Ph
open Go.Conc Rn
open Go.ConcN (sumTo upd sumTo_upd upd_ne upd_same le_sumTo)
open Tp (MoveRe Term Ld)
variable{α:Type}{C:Cfg α}
section
variable{all:List α}{gs gs':Array Goroutine}{w w':World}{t u:Trace}{D D':Nat->Pd α}{cj cr cj' cr':Bool}{sent rcvd sent' rcvd':Nat}{sl:Option (Nat×Nat)}
def Same(D' D:Nat->Pd α):Prop:=∀j,(D' j).X=(D j).X/\(D' j).v=(D j).v
def Inv.quiet(I:Inv C all gs w t D cj cr sent rcvd)(hS:Same D' D)(hu:Quiet u)(hok:∀j,j<C.n+4->(D' j=D j/\gs'[j]? =gs[j]?)∨Ok C t j gs'[j]? (D' j))(hsz:gs'.size<=C.n+4)(hw:∀j,j<C.n+4->Sees C w (D j)->Sees C w' (D j)) (hmain:(∃k,k<=3/\(D' 0).st=.live (.spawn k)/\gs'.size=C.n+k)∨((∃got,(D' 0).st=.live (.recvR got)∨(D' 0).st=.park (.recvR got))/\gs'.size=C.n+4)) (hJ:∃s r,w'.heap[C.N.J]? =some (.chan 0 #[] cj' s r false)) (hR:∃s r,w'.heap[C.N.R]? =some (.chan 0 #[] cr' s r false)) (hD:w'.heap[C.N.D]? =some (.chan 3 (Array.replicate (sent'-rcvd') C.N.dv) false sent' rcvd' false)) (pro:Pro C all (sts D') cj' cr' sent' rcvd'):Inv C all gs' w' (t++u) D' cj' cr' sent' rcvd':=⟨I.pos,λj hj=>by
 rcases hok j hj with⟨h1,h2⟩|h;rw[h1,h2];exact(I.ok j hj).trace C (hu.deaf t j);exact h.trace C (hu.deaf t j),hsz,λj hj=>by
 have:=hw j hj (I.sees j hj);unfold Sees at this|-;rw[(hS j).1,(hS j).2];exact this,λj k hj hk hjk b hbj hbk=>I.disj j k hj hk hjk b (by rw[<-(hS j).1];exact hbj) (by rw[<-(hS k).1];exact hbk),hmain,hJ,hR,hD,I.ne,pro⟩
def Inv.zero(I:Inv C all gs w t D cj cr sent rcvd):∀c,(D 0).st≠.unborn c:=λc e=>by rcases I.main with⟨_,_,h,_⟩|⟨⟨_,h|h⟩,_⟩<;>rw[h]at e<;>cases e
def Tr.quiet(I:Inv C all gs w t D cj cr sent rcvd)(T:Tr C t D sent rcvd)(hS:Same D' D)(hu:Quiet u)(hun:∀j c,(D j).st=.unborn c->∃c',(D' j).st=.unborn c')(ho:∀j r q,(D j).st=.old r q->∃r' q',(D' j).st=.old r' q') (hs:∀j q,j<C.n+4->(D' j).st=.old 1 q->SaidAt C (t++u) j sent' rcvd') (hsh:∀q,(D' (C.n+3)).st=.old 2 q->∃q',(D (C.n+3)).st=.old 2 q'):Tr C (t++u) D' sent' rcvd':=T.mute (λop hop=>(hu op hop).1) (λj=>(hS j).1) (λj _ hc=>.inl λc e=>by obtain⟨c',h⟩:=hun j c e;exact hc c' h) I.zero (λj _ hc=>⟨λr q e=>by obtain⟨r',q',h⟩:=ho j r q e;exact hc r' q' h,hu.deaf t j⟩) hs (λq e=>by obtain⟨q',h⟩:=hsh q e;exact(T.shut q' h).app λop hop _ _=>(hu op hop).1) (λj _=>hu.deaf t j)
def sts_upd D i(d:Pd α):sts (upd D i d)=upd (sts D) i d.st:=by funext j;by_cases hji:j=i;subst hji;show(upd D j d j).st=_;rw[upd_same,upd_same];show(upd D i d j).st=_;rw[upd_ne D d hji,upd_ne _ _ hji];rfl
def Pd.to(d:Pd α)(s:St α)(g:Goroutine):Pd α:=⟨s,g,d.v,d.X⟩
def same_upd D i(s:St α) g:Same (upd D i ((D i).to s g)) D:=λj=>by by_cases hji:j=i;subst hji;rw[upd_same];exact⟨rfl,rfl⟩;rw[upd_ne D _ hji];exact⟨rfl,rfl⟩
def same_upd2 D i j(s s':St α) g g':Same (upd (upd D i ((D i).to s g)) j ((D j).to s' g')) D:=λk=>by by_cases hkj:k=j;subst hkj;rw[upd_same];exact⟨rfl,rfl⟩;rw[upd_ne _ _ hkj];exact same_upd D i s g k
def quiet_nil:Quiet (#[]:Trace):=λop hop=>by simp at hop
def born_step{P E}(hB:Bod P E){f fn}(hF:E.F f)(hf:P.funcs[f]? =some fn) a b w:stepG P b (bornOf P {target:=.fn (.func f) a,args:=#[]}) w=.go {frame:=Frame.enter P f a .deferred,callers:=[base P],status:=.running,dying:=none} w #[]:=by
 obtain⟨h1,h2⟩:=hB f fn hF hf;have e1:stepG P b (bornOf P {target:=.fn (.func f) a,args:=#[]}) w=callDeferred P (base P) [] none {target:=.fn (.func f) a,args:=#[]} w:=rfl;rw[e1];unfold callDeferred;have hrun:(invoke (.fn (.func f) a) #[]).runT P w #[]=(.ok (.enter f a) w,#[]):=by show(callFunc f (#[]++a)).runT P w #[]=_;rw[Array.empty_append];unfold callFunc;show Sem.runT P (match P.funcs[f]? with|none=>stuck "call: no such function" |some fn=>_) w #[]=_;rw[hf];simp only[h1,h2,Bool.false_eq_true,if_false];rfl
 simp only[hrun];rfl
def move_born(L:Law C)(I:Inv C all gs w t D cj cr sent rcvd)(T:Tr C t D sent rcvd){i}(hi:i<C.n+4){c}(hst:(D i).st=.born c):∃gs' w' u D',runT C.P (crowd gs w sl) i=(.next (crowd gs' w' sl),u)/\Inv C all gs' w' (t++u) D' cj cr sent rcvd/\Tr C (t++u) D' sent rcvd/\sts D'=upd (sts D) i (.live c)/\Kept C w w' D D':=by
 have hok:=I.ok i hi;unfold Ok at hok;rw[hst]at hok;obtain⟨hx,hR,hgr,hterm⟩:=hok;have hlt:i<gs.size:=(Array.getElem?_eq_some_iff.1 hx).1;have hrl:=I.pro.role i hi;have hcr:c.role=C.rl i:=by have:(D i).st.role=C.rl i:=hrl;rw[hst]at this;exact this
 have hc:c=.recvJ/\cr=false∨∃rem,c=.feed rem/\cj=false/\cr=false/\rcvd=0:=by have:=I.pro.stage i hi;rw[show sts D i=.born c from hst]at this;cases c<;>first|exact .inl ⟨rfl,this⟩|exact .inr ⟨_,rfl,this⟩|exact this.elim
 have hpos:C.n<=i:=by
  have h1:c.role=1∨c.role=2:=by rcases hc with⟨rfl,_⟩|⟨_,rfl,_⟩<;>simp[Ctl.role]
  unfold Cfg.rl at hcr;apply Classical.byContradiction;intro hn;by_cases h0:i=0;rw[if_pos h0]at hcr;omega;rw[if_neg h0,if_pos (by omega)]at hcr;omega
 have hi0:=I.pos;obtain⟨hF,fn,hf⟩:=L.started i hpos hi;have hstep:=born_step (P:=C.P) L.bodied hF hf (C.a i) (i==0) w;have hrun:=runT_crowd_go (P:=C.P) (sl:=sl) hx hstep;rw[I.woken I.chJ I.chR ⟨_,_,_,I.chD⟩]at hrun;have hu:MemOp.ofEvents i (bornOf C.P (C.d i)).frame.fn (bornOf C.P (C.d i)).frame.place #[]=#[]:=rfl;rw[hu]at hrun;have hS:=same_upd D i (.live c) (D i).g;refine⟨_,w,#[],_,hrun,I.quiet hS quiet_nil (λj hj=>?_) (by simpa using I.size) (λ_ _ h=>h) ?_ I.chJ I.chR I.chD ?_,T.quiet I hS quiet_nil (λj c' e=>?_) (λj r q e=>?_) (λj q hj e=>?_) (λq e=>?_),sts_upd _ _ _,kept_eq (λj=>(hS j).1) rfl rfl rfl rfl⟩;by_cases hji:j=i;subst hji;refine .inr ?_;rw[upd_same,Array.getElem?_setIfInBounds_self_of_lt hlt];exact⟨_,rfl,hgr,hterm⟩;exact .inl ⟨upd_ne D _ hji,Array.getElem?_setIfInBounds_ne (Ne.symm hji)⟩;rw[upd_ne D _ (by omega),Array.size_setIfInBounds];exact I.main;rw[sts_upd];have e1:sts D i=.born c:=hst;refine I.pro.one hi _ (by rw[e1];rfl) (λp=>by rw[e1];rfl) (by rw[e1];rfl) ?_ (λc e=>by cases e);rcases hc with⟨rfl,h⟩|⟨rem,rfl,h⟩<;>exact h;by_cases hji:j=i;subst hji;rw[hst]at e;cases e;exact⟨c',by rw[upd_ne D _ hji];exact e⟩;by_cases hji:j=i;subst hji;rw[hst]at e;cases e;exact⟨r,q,by rw[upd_ne D _ hji];exact e⟩;by_cases hji:j=i;subst hji;rw[upd_same]at e;cases e;rw[upd_ne D _ hji]at e;rw[Array.append_empty];exact T.said j q hj e;by_cases hji:C.n+3=i;rw[hji,upd_same]at e;cases e;rw[upd_ne D _ hji]at e;exact⟨q,e⟩
def gr_clear{P E X R g g'}(h:GR P E X R g g'):GR P E X R g {g' with status:=.running,offers:=none}:=⟨⟨h.run.1,rfl⟩,h.dy,h.frame,h.callers⟩
def move_park(L:Law C)(I:Inv C all gs w t D cj cr sent rcvd)(T:Tr C t D sent rcvd){i}(hi:i<C.n+4){c0 c}(hst:(D i).st=.live c0)(hA:C.N.A c (D i).g (D i).v)(htalk:c.talks=true)(hrole:c.role=c0.role)(htok:∀p,c.tok p=c0.tok p) (hno:∀cc∈C.N.cases c,NoWays w (gs.setIfInBounds i ph) cc) (hstage:Stage cj cr rcvd (.park c)) (h1:c=.recvJ->∀j a rem,j<C.n+4->(D j).st≠.park (.sendJ a rem)) (h2:∀a rem,c=.sendJ a rem->∀j,j<C.n+4->(D j).st≠.park .recvJ) (h3:∀a,c=.sendR a->∀j g,j<C.n+4->(D j).st≠.park (.recvR g)) (h4:∀g,c=.recvR g->∀j a,j<C.n+4->(D j).st≠.park (.sendR a)) (h5:∀k,c=.recvD k->sent=rcvd) (hmain:i=0->∃got,c0=.recvR got/\c=.recvR got):∃gs' w' u D',runT C.P (crowd gs w sl) i=(.next (crowd gs' w' sl),u)/\Inv C all gs' w' (t++u) D' cj cr sent rcvd/\Tr C (t++u) D' sent rcvd/\sts D'=upd (sts D) i (.park c)/\Kept C w w' D D':=by have hok:=I.ok i hi;unfold Ok at hok;rw[hst]at hok;obtain⟨g',hx,hgr,_⟩:=hok;have hlt:i<gs.size:=(Array.getElem?_eq_some_iff.1 hx).1;have hact:=L.act c _ _ _ _ _ htalk hA hgr (i==0) w;have hrun:=crowd_waits (P:=C.P) (sl:=sl) hx hact hno;have hu:MemOp.ofEvents i g'.frame.fn g'.frame.place #[]=#[]:=rfl;rw[hu]at hrun;have hS:=same_upd D i (.park c) (D i).g;refine⟨_,w,#[],_,hrun,I.quiet hS quiet_nil (λj hj=>?_) (by simpa using I.size) (λ_ _ h=>h) ?_ I.chJ I.chR I.chD ?_,T.quiet I hS quiet_nil (λj c' e=>?_) (λj r q e=>?_) (λj q hj e=>?_) (λq e=>?_),sts_upd _ _ _,kept_eq (λj=>(hS j).1) rfl rfl rfl rfl⟩;by_cases hji:j=i;subst hji;refine .inr ?_;rw[upd_same,Array.getElem?_setIfInBounds_self_of_lt hlt];exact⟨_,rfl,gr_clear hgr,hA⟩;exact .inl ⟨upd_ne D _ hji,Array.getElem?_setIfInBounds_ne (Ne.symm hji)⟩;rw[Array.size_setIfInBounds];by_cases h0:i=0;subst h0;obtain⟨got,rfl,rfl⟩:=hmain rfl;rw[upd_same];rcases I.main with⟨_,_,h,_⟩|⟨_,h⟩;rw[hst]at h;cases h;exact .inr ⟨⟨got,.inr rfl⟩,h⟩;rw[upd_ne D _ (Ne.symm h0)];exact I.main;rw[sts_upd];have e1:sts D i=.live c0:=hst;exact I.pro.park hi c (by rw[e1];exact hrole) (λp=>by rw[e1];exact htok p) (by rw[e1];rfl) hstage h1 h2 h3 h4 h5;by_cases hji:j=i;subst hji;rw[hst]at e;cases e;exact⟨c',by rw[upd_ne D _ hji];exact e⟩;by_cases hji:j=i;subst hji;rw[hst]at e;cases e;exact⟨r,q,by rw[upd_ne D _ hji];exact e⟩;by_cases hji:j=i;subst hji;rw[upd_same]at e;cases e;rw[upd_ne D _ hji]at e;rw[Array.append_empty];exact T.said j q hj e;by_cases hji:C.n+3=i;rw[hji,upd_same]at e;cases e;rw[upd_ne D _ hji]at e;exact⟨q,e⟩
def quiet_send i j fn fn' pos pos' c s r cap:Quiet #[{g:=i,fn:=fn,pos:=pos,act:=.send c s},{g:=j,fn:=fn',pos:=pos',act:=.recv c r cap},{g:=i,fn:=fn,pos:=pos,act:=.sendDone c s},{g:=j,fn:=fn',pos:=pos',act:=.recvDone c r}]:=by intro op hop;simp at hop;rcases hop with rfl|rfl|rfl|rfl<;>exact⟨rfl,λm=>by simp⟩
def meet(I:Inv C all gs w t D cj cr sent rcvd)(T:Tr C t D sent rcvd){i j}(hi:i<C.n+4)(hj:j<C.n+4)(hij:i≠j){xi xj} ci cj'{gi gj} (hgi:gs'[i]? =some xi) (hgj:gs'[j]? =some xj) (hgo:∀k,k≠i->k≠j->gs'[k]? =gs[k]?) (hsz:gs'.size=gs.size) (hoi:GR C.P C.E (D i).X (C.R i) gi xi/\Term C.P (C.N.Stop ci) gi (D i).v) (hoj:GR C.P C.E (D j).X (C.R j) gj xj/\Term C.P (C.N.Stop cj') gj (D j).v) (hu:Quiet u) (hw:∀k,k<C.n+4->Sees C w (D k)->Sees C w' (D k)) (hJ:∃s r,w'.heap[C.N.J]? =some (.chan 0 #[] cj s r false)) (hR:∃s r,w'.heap[C.N.R]? =some (.chan 0 #[] cr s r false)) (hD:w'.heap[C.N.D]? =some (.chan 3 (Array.replicate (sent-rcvd) C.N.dv) false sent rcvd false)) (hlive:(∀r q,(D i).st≠.old r q)/\(∀r q,(D j).st≠.old r q)/\(∀c,(D i).st≠.unborn c)/\∀c,(D j).st≠.unborn c) (hmain:(0=i->∃got,ci=.recvR got)/\(0=j->∃got,cj'=.recvR got)/\(0=i∨0=j->gs.size=C.n+4)) (pro:Pro C all (upd (upd (sts D) i (.live ci)) j (.live cj')) cj cr sent rcvd):Inv C all gs' w' (t++u) (upd (upd D i ((D i).to (.live ci) gi)) j ((D j).to (.live cj') gj)) cj cr sent rcvd/\Tr C (t++u) (upd (upd D i ((D i).to (.live ci) gi)) j ((D j).to (.live cj') gj)) sent rcvd:=by
 have hS:=same_upd2 D i j (.live ci) (.live cj') gi gj;have hval:∀k,upd (upd D i ((D i).to (.live ci) gi)) j ((D j).to (.live cj') gj) k=if k=j then(D j).to (.live cj') gj else if k=i then(D i).to (.live ci) gi else D k:=λk=>rfl
 have hne:∀k,k≠i->k≠j->upd (upd D i ((D i).to (.live ci) gi)) j ((D j).to (.live cj') gj) k=D k:=λk h1 h2=>by rw[hval,if_neg h2,if_neg h1]
 have hvi:upd (upd D i ((D i).to (.live ci) gi)) j ((D j).to (.live cj') gj) i=(D i).to (.live ci) gi:=by rw[hval,if_neg hij,if_pos rfl]
 have hvj:upd (upd D i ((D i).to (.live ci) gi)) j ((D j).to (.live cj') gj) j=(D j).to (.live cj') gj:=by rw[hval,if_pos rfl]
 have hsts:sts (upd (upd D i ((D i).to (.live ci) gi)) j ((D j).to (.live cj') gj))=upd (upd (sts D) i (.live ci)) j (.live cj'):=by rw[sts_upd,sts_upd];rfl
 have hold:∀k r q,(upd (upd D i ((D i).to (.live ci) gi)) j ((D j).to (.live cj') gj) k).st=.old r q->k≠i/\k≠j/\(D k).st=.old r q:=λk r q e=>by by_cases h1:k=i;subst h1;rw[hvi]at e;cases e;by_cases h2:k=j;subst h2;rw[hvj]at e;cases e;rw[hne k h1 h2]at e;exact⟨h1,h2,e⟩
 refine⟨I.quiet hS hu (λk hk=>?_) (by rw[hsz];exact I.size) hw ?_ hJ hR hD (by rw[hsts];exact pro),T.quiet I hS hu (λk c' e=>?_) (λk r q e=>?_) (λk q hk e=>?_) (λq e=>?_)⟩;by_cases h1:k=i;subst h1;refine .inr ?_;rw[hvi,hgi];exact⟨_,rfl,hoi.1,hoi.2⟩;by_cases h2:k=j;subst h2;refine .inr ?_;rw[hvj,hgj];exact⟨_,rfl,hoj.1,hoj.2⟩;exact .inl ⟨hne k h1 h2,hgo k h1 h2⟩;by_cases h1:0=i;obtain⟨got,hgot⟩:=hmain.1 h1;refine .inr ⟨⟨got,.inl ?_⟩,by rw[hsz];exact hmain.2.2 (.inl h1)⟩;rw[h1,hvi,hgot];rfl;by_cases h2:0=j;obtain⟨got,hgot⟩:=hmain.2.1 h2;refine .inr ⟨⟨got,.inl ?_⟩,by rw[hsz];exact hmain.2.2 (.inr h2)⟩;rw[h2,hvj,hgot];rfl;rw[hne 0 h1 h2,hsz];exact I.main;by_cases h1:k=i;subst h1;exact absurd e (hlive.2.2.1 c');by_cases h2:k=j;subst h2;exact absurd e (hlive.2.2.2 c');exact⟨c',by rw[hne k h1 h2];exact e⟩;by_cases h1:k=i;subst h1;exact absurd e (hlive.1 r q);by_cases h2:k=j;subst h2;exact absurd e (hlive.2.1 r q);exact⟨r,q,by rw[hne k h1 h2];exact e⟩;obtain⟨_,_,h3⟩:=hold k 1 q e;exact(T.said k q hk h3).app (λop hop _=>(hu op hop).1) (Nat.le_refl _);obtain⟨_,_,h3⟩:=hold _ 2 q e;exact⟨q,h3⟩
end
end Ph
namespace Ph
open Go.Conc Rn
open Go.ConcN (sumTo upd sumTo_upd upd_ne upd_same le_sumTo)
open Tp (MoveRe Term Ld)
variable{α:Type}{C:Cfg α}
def evs(C:Cfg α)(s:Nat->St α):Nat:=sumTo (C.n+4) λi=>(s i).ev
def ups(C:Cfg α)(s:Nat->St α):Nat:=sumTo (C.n+4) λi=>(s i).up
def Less(C:Cfg α)(D' D:Nat->Pd α):Prop:=evs C (sts D')<evs C (sts D)∨(evs C (sts D')=evs C (sts D)/\(ups C (sts D')<ups C (sts D)∨(ups C (sts D')=ups C (sts D)/\RelN (Dn C.P C.N) (C.n+4) D' D)))
def Goes(C:Cfg α)(all:List α)(gs:Array Goroutine)(w:World)(sl:Option (Nat×Nat))(t:Trace)(D:Nat->Pd α)(i:Nat):Prop:=∃gs' w' u D' cj' cr' sent' rcvd',runT C.P (crowd gs w sl) i=(.next (crowd gs' w' sl),u)/\Inv C all gs' w' (t++u) D' cj' cr' sent' rcvd'/\Tr C (t++u) D' sent' rcvd'/\Less C D' D/\Kept C w w' D D'
def evs_one{s i}(hi:i<C.n+4) x:evs C (upd s i x)+(s i).ev=evs C s+x.ev:=sumTo_upd s x (λy=>y.ev) hi
def ups_one{s i}(hi:i<C.n+4) x:ups C (upd s i x)+(s i).up=ups C s+x.up:=sumTo_upd s x (λy=>y.up) hi
def evs_two{s i j}(hi:i<C.n+4)(hj:j<C.n+4)(hij:i≠j) x y:evs C (upd (upd s i x) j y)+(s i).ev+(s j).ev=evs C s+x.ev+y.ev:=by have a:=evs_one (C:=C) (s:=upd s i x) hj y;have b:=evs_one (C:=C) (s:=s) hi x;rw[upd_ne s x (Ne.symm hij)]at a;omega
section
variable{all:List α}{gs gs':Array Goroutine}{w w':World}{t u:Trace}{D D':Nat->Pd α}{cj cr cj' cr':Bool}{sent rcvd sent' rcvd':Nat}{sl:Option (Nat×Nat)}
def scase_inj{c c' v v' z z'}(h:(#[scase c v z]:Array CommCase)=#[scase c' v' z']):c=c'/\v=v':=by
 have:scase c v z=scase c' v' z':=by simpa using h
 unfold scase at this;injection this with h1 h2 h3;injection h1 with h1;injection h1 with h1;injection h2 with h2;exact⟨h1,h2⟩
def rcase_inj{c c' z z'}(h:(#[rcase c z]:Array CommCase)=#[rcase c' z']):c=c':=by
 have:rcase c z=rcase c' z':=by simpa using h
 unfold rcase at this;injection this with h1 h2 h3;injection h1 with h1;injection h1 with h1
def rcase_scase{c c' v z z'}(h:(#[rcase c z]:Array CommCase)=#[scase c' v z']):False:=by
 have:rcase c z=scase c' v z':=by simpa using h
 unfold rcase scase at this;injection this with h1 h2 h3;cases h2
def Inv.parked(I:Inv C all gs w t D cj cr sent rcvd){j gj cs sh}(hj:gs[j]? =some (parked gj cs sh)):j<C.n+4/\∃c,(D j).st=.park c/\cs=C.N.cases c/\sh=C.N.shape c/\GR C.P C.E (D j).X (C.R j) (D j).g {gj with status:=.running,offers:=none}/\C.N.A c (D j).g (D j).v:=by obtain⟨hlt,hst⟩:=I.status hj;refine⟨hlt,?_⟩;rcases hst with hst|⟨c,hc⟩;rcases hst with e|e<;>cases e;have:=I.ok j hlt;unfold Ok at this;rw[hc]at this;obtain⟨g',h1,h2,h3⟩:=this;rw[hj]at h1;have h4:=Option.some.inj h1;unfold Go.Conc.parked at h4;injection h4 with e1 e2 e3 e4 e5;injection e5 with e5;injection e5 with e6 e7;refine⟨c,hc,e6,e7,⟨⟨h2.run.1,rfl⟩,⟨h2.dy.1,?_⟩,?_,?_⟩,h3⟩;show gj.dying=none;rw[e4];exact h2.dy.2;show FrR _ _ _ _ gj.frame;rw[e1];exact h2.frame;show∃cs cs',_/\gj.callers=_/\_;rw[e2];exact h2.callers
def gr_served{P E X R g gj}(h:GR P E X R g {gj with status:=.running,offers:=none}){v v'}(hv:V E X v v'):GR P E X R (Go.Conc.served g v) (Go.Conc.served gj v'):=⟨⟨rfl,rfl⟩,h.dy,h.frame.finish hv,h.callers⟩
def rl_inj(hp:0<C.n){i j}(hi:i<C.n+4)(hj:j<C.n+4)(h:C.rl i=C.rl j)(h2:C.rl i=2∨C.rl i=3):i=j:=by unfold Cfg.rl at h h2;split at h<;>split at h<;>(repeat' split at h)<;>(repeat' split at h2)<;>omega
def V.pair{E X v}(h:Rn.Clean v) b:V E X (.tuple #[v,.bool b]) (.tuple #[v,.bool b]):=V.ofTuple ((VA.one (h.self X)).push (.bool b))
def pass_job(L:Law C)(I:Inv C all gs w t D cj cr sent rcvd)(T:Tr C t D sent rcvd){i j}(hi:i<C.n+4)(hj:j<C.n+4){a rem xi xj} (hsi:(∃r,(D i).st=.live (.feed r)/\r.Perm (a::rem))∨(D i).st=.park (.sendJ a rem)) (hsj:(D j).st=.live .recvJ∨(D j).st=.park .recvJ) (hAi:C.N.A (.sendJ a rem) (D i).g (D i).v) (hAj:C.N.A .recvJ (D j).g (D j).v) (hgi:gs'[i]? =some (Go.Conc.served xi undef)) (hgj:gs'[j]? =some (Go.Conc.served xj (.tuple #[C.N.jv a,.bool true]))) (hgo:∀k,k≠i->k≠j->gs'[k]? =gs[k]?) (hsz:gs'.size=gs.size) (hri:GR C.P C.E (D i).X (C.R i) (D i).g {xi with status:=.running,offers:=none}) (hrj:GR C.P C.E (D j).X (C.R j) (D j).g {xj with status:=.running,offers:=none}) (hu:Quiet u) {s r d} (hc:w.heap[C.N.J]? =some (.chan 0 #[] cj s r false)):∃D',Inv C all gs' (World.setChan (w.at d) C.N.J 0 #[] cj (s+1) (r+1) false) (t++u) D' cj cr sent rcvd/\Tr C (t++u) D' sent rcvd/\Less C D' D/\∀k,(D' k).X=(D k).X:=by
 have hri2:(sts D i).role=2:=by show(D i).st.role=2;rcases hsi with⟨r,h,_⟩|h<;>rw[h]<;>rfl
 have hrj2:(sts D j).role=1:=by show(D j).st.role=1;rcases hsj with h|h<;>rw[h]<;>rfl
 have hij:i≠j:=λe=>by subst e;omega
 have hst:cj=false/\cr=false/\rcvd=0:=by have:=I.pro.stage i hi;rcases hsi with⟨r,h,_⟩|h;rw[show sts D i=_ from h]at this;exact this;rw[show sts D i=_ from h]at this;exact this
 have htoki:∀p,(sts D i).tok p=(a::rem).countP p:=λp=>by rcases hsi with⟨r,h,hp⟩|h;rw[show sts D i=_ from h];exact hp.countP_eq p;rw[show sts D i=_ from h];rfl
 have hevi:(sts D i).ev=7+2*(rem.length+1):=by rcases hsi with⟨r,h,hp⟩|h;rw[show sts D i=_ from h];show 7+2*r.length=_;rw[hp.length_eq];rfl;rw[show sts D i=_ from h];rfl
 have htokj:∀p,(sts D j).tok p=0:=λp=>by rcases hsj with h|h<;>rw[show sts D j=_ from h]<;>rfl
 have hevj:(sts D j).ev=2:=by rcases hsj with h|h<;>rw[show sts D j=_ from h]<;>rfl
 have hsdi:(sts D i).said=0:=by rcases hsi with⟨r,h,hp⟩|h<;>rw[show sts D i=_ from h]<;>rfl
 have hsdj:(sts D j).said=0:=by rcases hsj with h|h<;>rw[show sts D j=_ from h]<;>rfl
 have h0:=I.pos;have hm:=meet (gs':=gs') (w':=World.setChan (w.at d) C.N.J 0 #[] cj (s+1) (r+1) false) (u:=u) I T hi hj hij (.feed rem) (.sendR a) hgi hgj hgo hsz
  ⟨gr_served hri (V.ofTuple (VA.empty _)),L.nSendJ a rem _ _ hAi⟩ ⟨gr_served hrj (V.pair (L.vals.1 a) true),L.nRecvJ a _ _ hAj (L.tx a rem _ _ hAi)⟩ hu
  (λk hk h=>by
   have:=(h.drawn C d).chan C (c:=C.N.J) (by exact hc) (.chan 0 #[] cj (s+1) (r+1) false) d
   exact this)
  ⟨s+1,r+1,by
   have hlt:C.N.J<w.heap.size:=(Array.getElem?_eq_some_iff.1 hc).1;show(w.heap.setIfInBounds C.N.J _)[C.N.J]? =_;rw[Array.getElem?_setIfInBounds_self_of_lt hlt]⟩
  (by
   obtain⟨s2,r2,h2⟩:=I.chR;exact⟨s2,r2,by show(w.heap.setIfInBounds C.N.J _)[C.N.R]? =_;rw[Array.getElem?_setIfInBounds_ne I.ne.1];exact h2⟩)
  (by show(w.heap.setIfInBounds C.N.J _)[C.N.D]? =_;rw[Array.getElem?_setIfInBounds_ne I.ne.2.1];exact I.chD)
  ⟨λr q e=>(by rcases hsi with⟨_,h,_⟩|h<;>rw[h]at e<;>cases e),λr q e=>(by rcases hsj with h|h<;>rw[h]at e<;>cases e),λc e=>(by rcases hsi with⟨_,h,_⟩|h<;>rw[h]at e<;>cases e),λc e=>(by rcases hsj with h|h<;>rw[h]at e<;>cases e)⟩
  ⟨λe=>(by subst e;have:=I.pro.role 0 hi;rw[hri2]at this;simp[Cfg.rl]at this),λe=>(by subst e;have:=I.pro.role 0 hj;rw[hrj2]at this;simp[Cfg.rl]at this),λe=>by
   rcases e with e|e<;>subst e
   ·have:=I.pro.role 0 hi;rw[hri2]at this;simp[Cfg.rl]at this
   ·have:=I.pro.role 0 hj;rw[hrj2]at this;simp[Cfg.rl]at this⟩
  (I.pro.two hi hj hij (.live (.feed rem)) (.live (.sendR a)) (by rw[hri2];rfl) (by rw[hrj2];rfl) (λp=>by
    rw[htoki,htokj];show rem.countP p+[a].countP p=_;rw[List.countP_cons,List.countP_cons,List.countP_nil];omega) (by rw[hsdi,hsdj];rfl) I.pro.le (λk hk _ _=>I.pro.stage k hk) hst hst.2.1 (λc e=>(by cases e)) (λc e=>(by cases e)) (λk q hk _ _ h=>I.pro.p3 k q hk h))
 refine⟨_,hm.1,hm.2,.inl ?_,λk=>(same_upd2 D i j _ _ _ _ k).1⟩;rw[sts_upd,sts_upd];have:=evs_two (C:=C) (s:=sts D) hi hj hij (.live (.feed rem)) (.live (.sendR a));have e1:(St.live (Ctl.feed rem):St α).ev=7+2*rem.length:=rfl;have e2:(St.live (Ctl.sendR a):St α).ev=3:=rfl;show evs C (upd (upd (sts D) i (.live (.feed rem))) j (.live (.sendR a)))<_;omega
def sumTo_two{f m i j}(hi:i<m)(hj:j<m)(hij:i≠j):f i+f j<=sumTo m f:=by have h1:=sumTo_one (f:=upd f i 0) (g:=f) (m:=m) (i:=i) hi (λk hk=>(upd_ne f 0 hk).symm);have h2:=le_sumTo (f:=upd f i 0) hj;rw[upd_same]at h1;rw[upd_ne f 0 (Ne.symm hij)]at h2;omega
def pass_res(L:Law C)(I:Inv C all gs w t D cj cr sent rcvd)(T:Tr C t D sent rcvd){i j}(hi:i<C.n+4)(hj:j<C.n+4){a got xi xj} (hsi:(D i).st=.live (.sendR a)∨(D i).st=.park (.sendR a)) (hsj:(D j).st=.live (.recvR got)∨(D j).st=.park (.recvR got)) (hAi:C.N.A (.sendR a) (D i).g (D i).v) (hAj:C.N.A (.recvR got) (D j).g (D j).v) (hgi:gs'[i]? =some (Go.Conc.served xi undef)) (hgj:gs'[j]? =some (Go.Conc.served xj (.tuple #[C.N.fv a,.bool true]))) (hgo:∀k,k≠i->k≠j->gs'[k]? =gs[k]?) (hsz:gs'.size=gs.size) (hri:GR C.P C.E (D i).X (C.R i) (D i).g {xi with status:=.running,offers:=none}) (hrj:GR C.P C.E (D j).X (C.R j) (D j).g {xj with status:=.running,offers:=none}) (hu:Quiet u) {s r d} (hc:w.heap[C.N.R]? =some (.chan 0 #[] cr s r false)):∃D',Inv C all gs' (World.setChan (w.at d) C.N.R 0 #[] cr (s+1) (r+1) false) (t++u) D' cj cr sent rcvd/\Tr C (t++u) D' sent rcvd/\Less C D' D/\∀k,(D' k).X=(D k).X:=by
 have hri2:(sts D i).role=1:=by show(D i).st.role=1;rcases hsi with h|h<;>rw[h]<;>rfl
 have hrj2:(sts D j).role=3:=by show(D j).st.role=3;rcases hsj with h|h<;>rw[h]<;>rfl
 have hij:i≠j:=λe=>by subst e;omega
 have h0:=I.pos;have hj0:j=0:=by have h1:=I.pro.role j hj;have h2:=I.pro.role 0 (by omega);refine rl_inj h0 hj (by omega) ?_ (.inr (by rw[<-h1,hrj2]));rw[<-h1,hrj2];simp[Cfg.rl]
 have hcr:cr=false:=by have:=I.pro.stage i hi;rcases hsi with h|h;rw[show sts D i=_ from h]at this;exact this;rw[show sts D i=_ from h]at this;exact this
 have htoki:∀p,(sts D i).tok p=[a].countP p:=λp=>by rcases hsi with h|h<;>rw[show sts D i=_ from h]<;>rfl
 have hevi:(sts D i).ev=3:=by rcases hsi with h|h<;>rw[show sts D i=_ from h]<;>rfl
 have htokj:∀p,(sts D j).tok p=got.countP p:=λp=>by rcases hsj with h|h<;>rw[show sts D j=_ from h]<;>rfl
 have hevj:(sts D j).ev=0:=by rcases hsj with h|h<;>rw[show sts D j=_ from h]<;>rfl
 have hsdi:(sts D i).said=0:=by rcases hsi with h|h<;>rw[show sts D i=_ from h]<;>rfl
 have hsdj:(sts D j).said=0:=by rcases hsj with h|h<;>rw[show sts D j=_ from h]<;>rfl
 have hfull:gs.size=C.n+4:=by rcases I.main with⟨k,_,h,_⟩|⟨_,h⟩;subst hj0;rcases hsj with h'|h'<;>rw[h']at h<;>cases h;exact h
 have htop:(a::got).length<=C.top:=by have h1:=I.pro.tok (λ_=>true);have h2:=sumTo_two (f:=λi=>(sts D i).tok (λ_=>true)) hi hj hij;simp only[h1,htoki,htokj,List.countP_true]at h2;have:=I.pro.fits;simp only[List.length_cons,List.length_nil]at h2|-;omega
 have hm:=meet (gs':=gs') (w':=World.setChan (w.at d) C.N.R 0 #[] cr (s+1) (r+1) false) (u:=u) I T hi hj hij .recvJ (.recvR (a::got)) hgi hgj hgo hsz
  ⟨gr_served hri (V.ofTuple (VA.empty _)),L.nSendR a _ _ hAi⟩ ⟨gr_served hrj (V.pair (L.vals.2.1 a) true),L.nRecvR a got _ _ htop hAj⟩ hu
  (λk hk h=>by
   have:=(h.drawn C d).chan C (c:=C.N.R) (by exact hc) (.chan 0 #[] cr (s+1) (r+1) false) d
   exact this)
  (by
   obtain⟨s2,r2,h2⟩:=I.chJ;exact⟨s2,r2,by show(w.heap.setIfInBounds C.N.R _)[C.N.J]? =_;rw[Array.getElem?_setIfInBounds_ne (Ne.symm I.ne.1)];exact h2⟩)
  ⟨s+1,r+1,by
   have hlt:C.N.R<w.heap.size:=(Array.getElem?_eq_some_iff.1 hc).1;show(w.heap.setIfInBounds C.N.R _)[C.N.R]? =_;rw[Array.getElem?_setIfInBounds_self_of_lt hlt]⟩
  (by show(w.heap.setIfInBounds C.N.R _)[C.N.D]? =_;rw[Array.getElem?_setIfInBounds_ne I.ne.2.2];exact I.chD)
  ⟨λr q e=>(by rcases hsi with h|h<;>rw[h]at e<;>cases e),λr q e=>(by rcases hsj with h|h<;>rw[h]at e<;>cases e),λc e=>(by rcases hsi with h|h<;>rw[h]at e<;>cases e),λc e=>(by rcases hsj with h|h<;>rw[h]at e<;>cases e)⟩
  ⟨λe=>(by subst e;exact absurd hj0.symm hij),λ_=>⟨_,rfl⟩,λ_=>hfull⟩
  (I.pro.two hi hj hij (.live .recvJ) (.live (.recvR (a::got))) (by rw[hri2];rfl) (by rw[hrj2];rfl) (λp=>by
    rw[htoki,htokj];show 0+(a::got).countP p=_;rw[List.countP_cons,List.countP_cons,List.countP_nil];omega) (by rw[hsdi,hsdj];rfl) I.pro.le (λk hk _ _=>I.pro.stage k hk) hcr trivial (λc e=>(by cases e)) (λc e=>(by cases e)) (λk q hk _ _ h=>I.pro.p3 k q hk h))
 refine⟨_,hm.1,hm.2,.inl ?_,λk=>(same_upd2 D i j _ _ _ _ k).1⟩;rw[sts_upd,sts_upd];have:=evs_two (C:=C) (s:=sts D) hi hj hij (.live .recvJ) (.live (.recvR (a::got)));have e1:(St.live Ctl.recvJ:St α).ev=2:=rfl;have e2:(St.live (Ctl.recvR (a::got)):St α).ev=0:=rfl;show evs C (upd (upd (sts D) i (.live .recvJ)) j (.live (.recvR (a::got))))<_;omega
def less_park{i}(hi:i<C.n+4){c0 c}(hst:(D i).st=.live c0)(hev:c.ev=c0.ev)(h:sts D'=upd (sts D) i (.park c)):Less C D' D:=by
 refine .inr ⟨?_,.inl ?_⟩;rw[h];have:=evs_one (C:=C) (s:=sts D) hi (.park c);have e1:(sts D i).ev=c0.ev:=by rw[show sts D i=_ from hst];rfl
 have e2:(St.park c).ev=c.ev:=rfl;omega;rw[h];have:=ups_one (C:=C) (s:=sts D) hi (.park c);have e1:(sts D i).up=1:=by rw[show sts D i=_ from hst];rfl
 have e2:(St.park c).up=0:=rfl;omega
def get2(gs:Array Goroutine){i j}(hij:j≠i)(hi:i<gs.size)(hj:j<gs.size) x y:((gs.setIfInBounds j y).setIfInBounds i x)[i]? =some x/\((gs.setIfInBounds j y).setIfInBounds i x)[j]? =some y/\(∀k,k≠i->k≠j->((gs.setIfInBounds j y).setIfInBounds i x)[k]? =gs[k]?)/\((gs.setIfInBounds j y).setIfInBounds i x).size=gs.size:=by refine⟨by rw[Array.getElem?_setIfInBounds_self_of_lt (by simpa using hi)],?_,λk h1 h2=>?_,by simp⟩;rw[Array.getElem?_setIfInBounds_ne (Ne.symm hij),Array.getElem?_setIfInBounds_self_of_lt hj];rw[Array.getElem?_setIfInBounds_ne (Ne.symm h1),Array.getElem?_setIfInBounds_ne (Ne.symm h2)]
def ofEvents_nil i fn pos:MemOp.ofEvents i fn pos #[]=#[]:=rfl
def at_of(L:Law C)(I:Inv C all gs w t D cj cr sent rcvd){i}(hi:i<C.n+4){c0}(hst:(D i).st=.live c0):∃g',gs[i]? =some g'/\i<gs.size/\GR C.P C.E (D i).X (C.R i) (D i).g g':=by have hok:=I.ok i hi;unfold Ok at hok;rw[hst]at hok;obtain⟨g',hx,hgr,_⟩:=hok;exact⟨g',hx,(Array.getElem?_eq_some_iff.1 hx).1,hgr⟩
def move_recvJ(L:Law C)(I:Inv C all gs w t D cj cr sent rcvd)(T:Tr C t D sent rcvd){i}(hi:i<C.n+4)(hst:(D i).st=.live .recvJ)(hA:C.N.A .recvJ (D i).g (D i).v)(hnt:cj=true->Goes C all gs w sl t D i):Goes C all gs w sl t D i:=by
 obtain⟨g',hx,hlt,hgr⟩:=at_of L I hi hst;have hact:=L.act .recvJ _ _ _ _ _ rfl hA hgr (i==0) w;obtain⟨s,r,hc⟩:=I.chJ;cases hcj:cj with
 |true=>exact hnt hcj|false=>
 subst hcj;by_cases hp:partners (gs.setIfInBounds i ph) C.N.J true=[];have hno:∀j a rem,j<C.n+4->(D j).st≠.park (.sendJ a rem):=λj a rem hj e=>by
  have hok:=I.ok j hj;unfold Ok at hok;rw[e]at hok;obtain⟨g2,hg2,_⟩:=hok;have hji:j≠i:=λe2=>by subst e2;rw[hst]at e;cases e
  have:(j,0)∈partners (gs.setIfInBounds i ph) C.N.J true:=mem_partners.2 ⟨_,(by rw[Array.getElem?_setIfInBounds_ne (Ne.symm hji)];exact hg2),by rw[offers_parked];simp[Net.chan]⟩;rw[hp]at this;cases this
 have hcr:cr=false:=by have:=I.pro.stage i hi;rw[show sts D i=_ from hst]at this;exact this
 obtain⟨gs',w',u,D',h1,h2,h3,h4⟩:=move_park (sl:=sl) L I T hi hst hA rfl rfl (λ_=>rfl) (λcc hcc=>by
 have:cc=rcase C.N.J C.N.zJ:=by simpa[Net.cases]using hcc
 subst this;exact ways_recv_none hc hp) ⟨rfl,hcr⟩ (λ_=>hno) (λa rem e=>by cases e) (λa e=>by cases e) (λa e=>by cases e) (λa e=>by cases e) (λe=>by subst e;have:=I.pro.role 0 hi;rw[show sts D 0=_ from hst]at this;simp[Cfg.rl,St.role,Ctl.role]at this)
 exact⟨gs',w',u,D',_,_,_,_,h1,h2,h3,less_park hi hst rfl h4.1,h4.2⟩;have hall:∀j k,(j,k)∈partners (gs.setIfInBounds i ph) C.N.J true->k=0/\j≠i/\∃gj vj zj shj,gs[j]? =some (parked gj #[scase C.N.J vj zj] shj):=by intro j k hm;obtain⟨h1,h2,h3,c,g2,h4,h5,h6,_⟩:=I.partner hm;refine⟨h1,h2,?_⟩;cases c<;>simp only[Net.chan,Option.some.injEq,Prod.mk.injEq,Bool.false_eq_true,and_false,reduceCtorEq,and_true]at h5;exact absurd h5.symm I.ne.1;exact absurd h5.symm I.ne.2.1;exact⟨_,_,_,_,h6⟩
 obtain⟨j,gj,vj,zj,shj,d,hji,hgj,hrun⟩:=crowd_recv_meets_some (P:=C.P) (sl:=sl) hx hact hc hp hall;obtain⟨hjlt,c,hcst,hcs,hsh,hgrj,hAj⟩:=I.parked hgj;have hst2:=I.pro.stage j hjlt;rw[show sts D j=_ from hcst]at hst2;cases c with
 |sendJ a rem=>obtain⟨_,hv⟩:=scase_inj hcs;subst hv;subst hsh;simp only[Net.shape,finishComm_send,finishComm_recv,ofEvents_nil,Array.empty_append,recvd,if_true]at hrun;have hjs:j<gs.size:=(Array.getElem?_eq_some_iff.1 hgj).1;obtain⟨a1,a2,a3,a4⟩:=get2 gs hji hlt hjs (Go.Conc.served g' (.tuple #[C.N.jv a,.bool true])) (Go.Conc.served gj undef);obtain⟨D',b1,b2,b3,b4⟩:=pass_job (gs':=(gs.setIfInBounds j (Go.Conc.served gj undef)).setIfInBounds i (Go.Conc.served g' (.tuple #[C.N.jv a,.bool true]))) L I T hjlt hi (.inr hcst) (.inl hst) hAj hA a2 a1 (λk h1 h2=>a3 k h2 h1) a4 hgrj (gr_clear hgr) (quiet_send j i gj.frame.fn g'.frame.fn gj.frame.place g'.frame.place C.N.J s r 0) (d:=d) hc;exact⟨_,_,_,D',_,_,_,_,hrun,b1,b2,b3,kept_chan b4 (.inl rfl) rfl rfl rfl rfl⟩
 |recvJ=>exact(rcase_scase hcs.symm).elim|sendR a=>exact absurd (scase_inj hcs).1 I.ne.1
 |recvD k=>exact(rcase_scase hcs.symm).elim|recvR g=>exact(rcase_scase hcs.symm).elim
 |_=>exact hst2.elim
end
end Ph
namespace Ph
open Go.Conc Rn
open Go.ConcN (sumTo upd sumTo_upd upd_ne upd_same le_sumTo)
open Tp (MoveRe Term Ld)
variable{α:Type}{C:Cfg α}
section
variable{all:List α}{gs gs':Array Goroutine}{w w':World}{t u:Trace}{D D':Nat->Pd α}{cj cr cj' cr':Bool}{sent rcvd sent' rcvd':Nat}{sl:Option (Nat×Nat)}
def Inv.waits(I:Inv C all gs w t D cj cr sent rcvd){i ch b c0}(hst:(D i).st=.live c0)(hp:partners (gs.setIfInBounds i ph) ch b=[]){j}(hj:j<C.n+4){c}(hc:C.N.chan c=some (ch,b)):(D j).st≠.park c:=λe=>by
 have hok:=I.ok j hj;unfold Ok at hok;rw[e]at hok;obtain⟨g2,hg2,_⟩:=hok;have hji:j≠i:=λe2=>by subst e2;rw[hst]at e;cases e
 have:(j,0)∈partners (gs.setIfInBounds i ph) ch b:=mem_partners.2 ⟨_,(by rw[Array.getElem?_setIfInBounds_ne (Ne.symm hji)];exact hg2),by rw[offers_parked,if_pos hc];simp⟩;rw[hp]at this;cases this
def Inv.notzero(I:Inv C all gs w t D cj cr sent rcvd){i}(hi:i<C.n+4){c0}(hst:(D i).st=.live c0)(hr:c0.role≠3):i≠0:=λe=>by subst e;have:=I.pro.role 0 hi;rw[show sts D 0=_ from hst]at this;simp[Cfg.rl]at this;exact hr this
def move_sendJ(L:Law C)(I:Inv C all gs w t D cj cr sent rcvd)(T:Tr C t D sent rcvd){i}(hi:i<C.n+4){r0}(hst:(D i).st=.live (.feed r0)){a rem}(hperm:r0.Perm (a::rem))(hA:C.N.A (.sendJ a rem) (D i).g (D i).v):Goes C all gs w sl t D i:=by
 obtain⟨g',hx,hlt,hgr⟩:=at_of L I hi hst;have hact:=L.act (.sendJ a rem) _ _ _ _ _ rfl hA hgr (i==0) w;obtain⟨s,r,hc⟩:=I.chJ;have hstage:cj=false/\cr=false/\rcvd=0:=by have:=I.pro.stage i hi;rw[show sts D i=_ from hst]at this;exact this
 obtain⟨rfl,hcr⟩:=hstage;by_cases hp:partners (gs.setIfInBounds i ph) C.N.J false=[];obtain⟨gs',w',u,D',h1,h2,h3,h4⟩:=move_park (sl:=sl) L I T hi hst hA rfl rfl (λp=>(hperm.countP_eq p).symm) (λcc hcc=>by
 have:cc=scase C.N.J (C.N.jv a) (.tuple #[]):=by simpa[Net.cases]using hcc
 subst this;exact ways_send_none hc (by simp) hp) ⟨rfl,hcr⟩ (λe=>by cases e) (λa' rem' e j hj=>I.waits hst hp hj rfl) (λa e=>by cases e) (λa e=>by cases e) (λa e=>by cases e) (λe=>absurd e (I.notzero hi hst (by simp[Ctl.role])))
 exact⟨gs',w',u,D',_,_,_,_,h1,h2,h3,less_park hi hst (by show 7+2*(rem.length+1)=7+2*r0.length;rw[hperm.length_eq];rfl) h4.1,h4.2⟩;have hall:∀j k,(j,k)∈partners (gs.setIfInBounds i ph) C.N.J false->k=0/\j≠i/\∃gj zj shj,gs[j]? =some (parked gj #[rcase C.N.J zj] shj):=by intro j k hm;obtain⟨h1,h2,h3,c,g2,h4,h5,h6,_⟩:=I.partner hm;refine⟨h1,h2,?_⟩;cases c<;>simp only[Net.chan,Option.some.injEq,Prod.mk.injEq,and_false,reduceCtorEq,and_true]at h5;exact⟨_,_,_,h6⟩;exact absurd h5.symm I.ne.2.1;exact absurd h5.symm I.ne.1
 obtain⟨j,gj,zj,shj,d,hji,hgj,hrun⟩:=crowd_send_meets_some (P:=C.P) (sl:=sl) hx hact hc hp hall;obtain⟨hjlt,c,hcst,hcs,hsh,hgrj,hAj⟩:=I.parked hgj;have hst2:=I.pro.stage j hjlt;rw[show sts D j=_ from hcst]at hst2;cases c with
 |recvJ=>subst hsh;simp only[Net.shape,finishComm_send,finishComm_recv,ofEvents_nil,Array.empty_append,recvd,if_true]at hrun;have hjs:j<gs.size:=(Array.getElem?_eq_some_iff.1 hgj).1;obtain⟨a1,a2,a3,a4⟩:=get2 gs hji hlt hjs (Go.Conc.served g' undef) (Go.Conc.served gj (.tuple #[C.N.jv a,.bool true]));obtain⟨D',b1,b2,b3,b4⟩:=pass_job (gs':=(gs.setIfInBounds j (Go.Conc.served gj (.tuple #[C.N.jv a,.bool true]))).setIfInBounds i (Go.Conc.served g' undef)) L I T hi hjlt (.inl ⟨r0,hst,hperm⟩) (.inr hcst) hA hAj a1 a2 a3 a4 (gr_clear hgr) hgrj (quiet_send i j g'.frame.fn gj.frame.fn g'.frame.place gj.frame.place C.N.J s r 0) (d:=d) hc;exact⟨_,_,_,D',_,_,_,_,hrun,b1,b2,b3,kept_chan b4 (.inl rfl) rfl rfl rfl rfl⟩
 |sendJ a rem=>exact(rcase_scase hcs).elim|sendR a=>exact(rcase_scase hcs).elim
 |recvD k=>exact absurd (rcase_inj hcs) I.ne.2.1|recvR g=>exact absurd (rcase_inj hcs) I.ne.1
 |_=>exact hst2.elim
def move_sendR(L:Law C)(I:Inv C all gs w t D cj cr sent rcvd)(T:Tr C t D sent rcvd){i}(hi:i<C.n+4){a}(hst:(D i).st=.live (.sendR a))(hA:C.N.A (.sendR a) (D i).g (D i).v):Goes C all gs w sl t D i:=by
 obtain⟨g',hx,hlt,hgr⟩:=at_of L I hi hst;have hact:=L.act (.sendR a) _ _ _ _ _ rfl hA hgr (i==0) w;obtain⟨s,r,hc⟩:=I.chR;have hcr:cr=false:=by have:=I.pro.stage i hi;rw[show sts D i=_ from hst]at this;exact this
 subst hcr;by_cases hp:partners (gs.setIfInBounds i ph) C.N.R false=[];obtain⟨gs',w',u,D',h1,h2,h3,h4⟩:=move_park (sl:=sl) L I T hi hst hA rfl rfl (λp=>rfl) (λcc hcc=>by
 have:cc=scase C.N.R (C.N.fv a) (.tuple #[]):=by simpa[Net.cases]using hcc
 subst this;exact ways_send_none hc (by simp) hp) rfl (λe=>by cases e) (λa' rem' e=>by cases e) (λa' e j g hj=>I.waits hst hp hj rfl) (λa e=>by cases e) (λa e=>by cases e) (λe=>absurd e (I.notzero hi hst (by simp[Ctl.role])))
 exact⟨gs',w',u,D',_,_,_,_,h1,h2,h3,less_park hi hst rfl h4.1,h4.2⟩;have hall:∀j k,(j,k)∈partners (gs.setIfInBounds i ph) C.N.R false->k=0/\j≠i/\∃gj zj shj,gs[j]? =some (parked gj #[rcase C.N.R zj] shj):=by intro j k hm;obtain⟨h1,h2,h3,c,g2,h4,h5,h6,_⟩:=I.partner hm;refine⟨h1,h2,?_⟩;cases c<;>simp only[Net.chan,Option.some.injEq,Prod.mk.injEq,and_false,reduceCtorEq,and_true]at h5;exact absurd h5 I.ne.1;exact absurd h5.symm I.ne.2.2;exact⟨_,_,_,h6⟩
 obtain⟨j,gj,zj,shj,d,hji,hgj,hrun⟩:=crowd_send_meets_some (P:=C.P) (sl:=sl) hx hact hc hp hall;obtain⟨hjlt,c,hcst,hcs,hsh,hgrj,hAj⟩:=I.parked hgj;have hst2:=I.pro.stage j hjlt;rw[show sts D j=_ from hcst]at hst2;cases c with
 |recvR got=>subst hsh;simp only[Net.shape,finishComm_send,finishComm_recv,ofEvents_nil,Array.empty_append,recvd,if_true]at hrun;have hjs:j<gs.size:=(Array.getElem?_eq_some_iff.1 hgj).1;obtain⟨a1,a2,a3,a4⟩:=get2 gs hji hlt hjs (Go.Conc.served g' undef) (Go.Conc.served gj (.tuple #[C.N.fv a,.bool true]));obtain⟨D',b1,b2,b3,b4⟩:=pass_res (gs':=(gs.setIfInBounds j (Go.Conc.served gj (.tuple #[C.N.fv a,.bool true]))).setIfInBounds i (Go.Conc.served g' undef)) L I T hi hjlt (.inl hst) (.inr hcst) hA hAj a1 a2 a3 a4 (gr_clear hgr) hgrj (quiet_send i j g'.frame.fn gj.frame.fn g'.frame.place gj.frame.place C.N.R s r 0) (d:=d) hc;exact⟨_,_,_,D',_,_,_,_,hrun,b1,b2,b3,kept_chan b4 (.inr (.inl rfl)) rfl rfl rfl rfl⟩
 |sendJ a rem=>exact(rcase_scase hcs).elim|sendR a=>exact(rcase_scase hcs).elim
 |recvD k=>exact absurd (rcase_inj hcs) I.ne.2.2|recvJ=>exact absurd (rcase_inj hcs).symm I.ne.1
 |_=>exact hst2.elim
def move_recvR(L:Law C)(I:Inv C all gs w t D cj cr sent rcvd)(T:Tr C t D sent rcvd){i}(hi:i<C.n+4){got}(hst:(D i).st=.live (.recvR got))(hA:C.N.A (.recvR got) (D i).g (D i).v)(hcr:cr=false):Goes C all gs w sl t D i:=by
 obtain⟨g',hx,hlt,hgr⟩:=at_of L I hi hst;have hact:=L.act (.recvR got) _ _ _ _ _ rfl hA hgr (i==0) w;obtain⟨s,r,hc⟩:=I.chR;subst hcr;by_cases hp:partners (gs.setIfInBounds i ph) C.N.R true=[];obtain⟨gs',w',u,D',h1,h2,h3,h4⟩:=move_park (sl:=sl) L I T hi hst hA rfl rfl (λp=>rfl) (λcc hcc=>by
 have:cc=rcase C.N.R C.N.zR:=by simpa[Net.cases]using hcc
 subst this;exact ways_recv_none hc hp) rfl (λe=>by cases e) (λa' rem' e=>by cases e) (λa' e=>by cases e) (λg e j a hj=>I.waits hst hp hj rfl) (λa e=>by cases e) (λe=>⟨got,rfl,rfl⟩)
 exact⟨gs',w',u,D',_,_,_,_,h1,h2,h3,less_park hi hst rfl h4.1,h4.2⟩;have hall:∀j k,(j,k)∈partners (gs.setIfInBounds i ph) C.N.R true->k=0/\j≠i/\∃gj vj zj shj,gs[j]? =some (parked gj #[scase C.N.R vj zj] shj):=by intro j k hm;obtain⟨h1,h2,h3,c,g2,h4,h5,h6,_⟩:=I.partner hm;refine⟨h1,h2,?_⟩;cases c<;>simp only[Net.chan,Option.some.injEq,Prod.mk.injEq,Bool.false_eq_true,and_false,reduceCtorEq,and_true]at h5;exact⟨_,_,_,_,h6⟩;exact absurd h5.symm I.ne.2.2;exact absurd h5 I.ne.1
 obtain⟨j,gj,vj,zj,shj,d,hji,hgj,hrun⟩:=crowd_recv_meets_some (P:=C.P) (sl:=sl) hx hact hc hp hall;obtain⟨hjlt,c,hcst,hcs,hsh,hgrj,hAj⟩:=I.parked hgj;have hst2:=I.pro.stage j hjlt;rw[show sts D j=_ from hcst]at hst2;cases c with
 |sendR a=>obtain⟨_,hv⟩:=scase_inj hcs;subst hv;subst hsh;simp only[Net.shape,finishComm_send,finishComm_recv,ofEvents_nil,Array.empty_append,recvd,if_true]at hrun;have hjs:j<gs.size:=(Array.getElem?_eq_some_iff.1 hgj).1;obtain⟨a1,a2,a3,a4⟩:=get2 gs hji hlt hjs (Go.Conc.served g' (.tuple #[C.N.fv a,.bool true])) (Go.Conc.served gj undef);obtain⟨D',b1,b2,b3,b4⟩:=pass_res (gs':=(gs.setIfInBounds j (Go.Conc.served gj undef)).setIfInBounds i (Go.Conc.served g' (.tuple #[C.N.fv a,.bool true]))) L I T hjlt hi (.inr hcst) (.inl hst) hAj hA a2 a1 (λk h1 h2=>a3 k h2 h1) a4 hgrj (gr_clear hgr) (quiet_send j i gj.frame.fn g'.frame.fn gj.frame.place g'.frame.place C.N.R s r 0) (d:=d) hc;exact⟨_,_,_,D',_,_,_,_,hrun,b1,b2,b3,kept_chan b4 (.inr (.inl rfl)) rfl rfl rfl rfl⟩
 |sendJ a rem=>exact absurd (scase_inj hcs).1.symm I.ne.1|recvJ=>exact(rcase_scase hcs.symm).elim
 |recvD k=>exact(rcase_scase hcs.symm).elim|recvR g=>exact(rcase_scase hcs.symm).elim
 |_=>exact hst2.elim
end
end Ph
namespace Ph
open Go.Conc Rn
open Go.ConcN (sumTo upd sumTo_upd upd_ne upd_same le_sumTo)
open Tp (MoveRe Term Ld)
variable{α:Type}{C:Cfg α}
section
variable{all:List α}{gs gs':Array Goroutine}{w w':World}{t u:Trace}{D D':Nat->Pd α}{cj cr cj' cr':Bool}{sent rcvd sent' rcvd':Nat}{sl:Option (Nat×Nat)}
def SaidAt.recv{j}(h:SaidAt C t j sent rcvd){u z}(hg:z.g=C.n+3)(hz:z.act=.recvDone C.N.D rcvd)(hd:Deaf t (C.n+3)=0)(hu:Quiet u)(hle:rcvd<=sent):SaidAt C (t++(u++#[z])) j sent (rcvd+1):=by
 have hq:∀op∈u++#[z],op.g=j->op.act.touch? =none:=by
  intro op hop _;rcases Array.mem_append.1 hop with h1|h1;exact(hu op h1).1;have:op=z:=by simpa using h1
  subst this;rw[hz];rfl
 obtain⟨s,k,y,h1,h2,h3,h4,h5,h6,h7⟩:=h;have hlt:=lt_size_of_getElem? h1;obtain⟨s',k',y',g1,g2,g3,g4,g5,g6,g7⟩:=SaidAt.app (C:=C) (t:=t) (u:=u++#[z]) (i:=j) (sent':=sent) ⟨s,k,y,h1,h2,h3,h4,h5,h6,h7⟩ hq (Nat.le_refl _);have hs1:(t++(u++#[z]))[s]? =some y:=by rw[getElem?_append_old hlt];exact h1
 refine⟨s,k,y,hs1,h2,h3,h4,(heard_old hlt).2 h5,λp y2 a hp hy ha=>?_,λhk=>?_⟩;rcases getElem?_append_cases hp with⟨_,hp'⟩|⟨_,hyu⟩;exact h6 p y2 a hp' hy ha;rw[hq y2 hyu hy]at ha;cases ha;by_cases hkr:k<rcvd;exact(h7 hkr).app _;have hkk:k=rcvd:=by omega
 subst hkk;have hpos:(t++(u++#[z]))[t.size+u.size]? =some z:=by rw[<-Array.append_assoc,Array.getElem?_append_right (by simp)];simp
 have hh:(t++(u++#[z])).heard (t.size+u.size):=by
  refine⟨C.n+3,by rw[Trace.g?,hpos];simp[hg],?_⟩;rw[<-Array.append_assoc];have:t.size+u.size=(t++u).size:=by simp
  rw[this,deaf_old (Nat.le_refl _)];exact(hu.deaf t (C.n+3)).trans hd
 refine⟨t.size+u.size,z,hpos,hg,.inr (.single (.inr ⟨.handOver (c:=C.N.D) (k:=k) (by rw[act?_of hs1,h3]) (by rw[act?_of hpos,hz]),(heard_old hlt).2 h5,hh⟩))⟩
def solo1(I:Inv C all gs w t D cj cr sent rcvd)(T:Tr C t D sent rcvd){i}(hi:i<C.n+4)(h0:i≠0){c0}(hst:(D i).st=.live c0){xi} ci{gi} (hgi:gs'[i]? =some xi) (hgo:∀k,k≠i->gs'[k]? =gs[k]?) (hsz:gs'.size=gs.size) (hoi:GR C.P C.E (D i).X (C.R i) gi xi/\Term C.P (C.N.Stop ci) gi (D i).v) (hu:Quiet u) (hw:∀k,k<C.n+4->Sees C w (D k)->Sees C w' (D k)) (hJ:∃s r,w'.heap[C.N.J]? =some (.chan 0 #[] cj' s r false)) (hR:∃s r,w'.heap[C.N.R]? =some (.chan 0 #[] cr' s r false)) (hD:w'.heap[C.N.D]? =some (.chan 3 (Array.replicate (sent'-rcvd') C.N.dv) false sent' rcvd' false)) (hs:∀k q,k<C.n+4->(D k).st=.old 1 q->SaidAt C (t++u) k sent' rcvd') (pro:Pro C all (upd (sts D) i (.live ci)) cj' cr' sent' rcvd') (hev:ci.ev<c0.ev):∃D',Inv C all gs' w' (t++u) D' cj' cr' sent' rcvd'/\Tr C (t++u) D' sent' rcvd'/\Less C D' D/\∀k,(D' k).X=(D k).X:=by
 have hS:=same_upd D i (.live ci) gi;have hsts:=sts_upd D i ((D i).to (.live ci) gi);refine⟨_,I.quiet hS hu (λk hk=>?_) (by rw[hsz];exact I.size) hw ?_ hJ hR hD (by rw[hsts];exact pro),T.quiet I hS hu (λk c' e=>?_) (λk r q e=>?_) (λk q hk e=>?_) (λq e=>?_),.inl ?_,λk=>(hS k).1⟩;by_cases h1:k=i;subst h1;refine .inr ?_;rw[upd_same,hgi];exact⟨_,rfl,hoi.1,hoi.2⟩;exact .inl ⟨upd_ne D _ h1,hgo k h1⟩;rw[upd_ne D _ (Ne.symm h0),hsz];exact I.main;by_cases h1:k=i;subst h1;rw[hst]at e;cases e;exact⟨c',by rw[upd_ne D _ h1];exact e⟩;by_cases h1:k=i;subst h1;rw[hst]at e;cases e;exact⟨r,q,by rw[upd_ne D _ h1];exact e⟩;by_cases h1:k=i;subst h1;rw[upd_same]at e;cases e;rw[upd_ne D _ h1]at e;exact hs k q hk e;by_cases h1:C.n+3=i;rw[h1,upd_same]at e;cases e;rw[upd_ne D _ h1]at e;exact⟨q,e⟩;rw[hsts];have:=evs_one (C:=C) (s:=sts D) hi (.live ci);have e1:(sts D i).ev=c0.ev:=by rw[show sts D i=_ from hst];rfl
 have e2:(St.live ci).ev=ci.ev:=rfl;show evs C (upd (sts D) i (.live ci))<_;omega
def move_endJ(L:Law C)(I:Inv C all gs w t D cj cr sent rcvd)(T:Tr C t D sent rcvd){i}(hi:i<C.n+4)(hst:(D i).st=.live .recvJ)(hA:C.N.A .recvJ (D i).g (D i).v)(hcj:cj=true):Goes C all gs w sl t D i:=by
 obtain⟨g',hx,hlt,hgr⟩:=at_of L I hi hst;have hact:=L.act .recvJ _ _ _ _ _ rfl hA hgr (i==0) w;obtain⟨s,r,hc⟩:=I.chJ;have hcr:cr=false:=by have:=I.pro.stage i hi;rw[show sts D i=_ from hst]at this;exact this
 subst hcj;subst hcr;have hp:partners (gs.setIfInBounds i ph) C.N.J true=[]:=I.nopartner λj c hj hc e=>by have hstage:=I.pro.stage j hj;rw[show sts D j=_ from hc]at hstage;cases c<;>simp only[Net.chan,Option.some.injEq,Prod.mk.injEq,Bool.false_eq_true,and_false,reduceCtorEq,and_true]at e;exact I.ne.1 e.symm;exact hstage.elim;exact absurd hstage.1 (by simp)
 have hrun:=crowd_recv_closed (P:=C.P) (sl:=sl) hx hact hc hp;simp only[Net.shape,finishComm_recv,ofEvents_nil,Array.empty_append,recvd,if_true]at hrun;have e1:sts D i=.live .recvJ:=hst;obtain⟨D',b1,b2,b3,b4⟩:=solo1 (gs':=gs.setIfInBounds i (Go.Conc.served g' (.tuple #[C.N.zJ,.bool false]))) (w':=w) (u:=#[{g:=i,fn:=g'.frame.fn,pos:=g'.frame.place,act:=.recvClosed C.N.J}]) (cj':=true) (cr':=false) (sent':=sent) (rcvd':=rcvd) I T hi (I.notzero hi hst (by simp[Ctl.role])) hst .sendD
  (by rw[Array.getElem?_setIfInBounds_self_of_lt hlt]) (λk hk=>Array.getElem?_setIfInBounds_ne (Ne.symm hk)) (by simp)
  ⟨gr_served (gr_clear hgr) (V.pair L.vals.2.2.2.1 false),L.nEndJ _ _ hA⟩
  (λop hop=>by simp at hop;subst hop;exact⟨rfl,λm=>by simp⟩) (λ_ _ h=>h) I.chJ I.chR I.chD
  (λk q hk e=>(T.said k q hk e).app (λop hop _=>by simp at hop;subst hop;rfl) (Nat.le_refl _))
  (I.pro.one hi _ (by rw[e1];rfl) (λp=>by rw[e1];rfl) (by rw[e1];rfl) ⟨rfl,rfl⟩ (λc e=>by cases e)) (by simp[Ctl.ev])
 exact⟨_,_,_,D',_,_,_,_,hrun,b1,b2,b3,kept_eq b4 rfl rfl rfl rfl⟩
def move_recvD(L:Law C)(I:Inv C all gs w t D cj cr sent rcvd)(T:Tr C t D sent rcvd){i}(hi:i<C.n+4){k}(hst:(D i).st=.live (.recvD k))(hA:C.N.A (.recvD k) (D i).g (D i).v):Goes C all gs w sl t D i:=by
 obtain⟨g',hx,hlt,hgr⟩:=at_of L I hi hst;have hact:=L.act (.recvD k) _ _ _ _ _ rfl hA hgr (i==0) w;have hc:=I.chD;have hstage:cj=true/\cr=false/\rcvd=k/\k<3:=by have:=I.pro.stage i hi;rw[show sts D i=_ from hst]at this;exact this
 obtain⟨rfl,rfl,rfl,hk3⟩:=hstage;have e1:sts D i=.live (.recvD rcvd):=hst;have hi3:i=C.n+3:=by
  have h1:=I.pro.role i hi;have h2:C.rl (C.n+3)=2:=by unfold Cfg.rl;rw[if_neg (by omega),if_neg (by omega),if_neg (by omega)]
  refine rl_inj I.pos hi (by omega) ?_ (.inl ?_);rw[h2,<-h1,e1];rfl;rw[<-h1,e1];rfl
 have hp:partners (gs.setIfInBounds i ph) C.N.D true=[]:=I.nopartner λj c hj hc e=>by have hstage:=I.pro.stage j hj;rw[show sts D j=_ from hc]at hstage;cases c<;>simp only[Net.chan,Option.some.injEq,Prod.mk.injEq,Bool.false_eq_true,and_false,reduceCtorEq,and_true]at e;exact I.ne.2.2 e;exact hstage.elim;exact I.ne.2.1 e
 by_cases hs:sent=rcvd;subst hs;obtain⟨gs',w',u,D',h1,h2,h3,h4⟩:=move_park (sl:=sl) L I T hi hst hA rfl rfl (λp=>rfl) (λcc hcc=>by
 have:cc=rcase C.N.D C.N.zD:=by simpa[Net.cases]using hcc
 subst this;refine ways_recv_none (cap:=3) (s:=sent) (r:=sent) (tm:=false) ?_ hp;rw[hc];simp) ⟨rfl,rfl,rfl,hk3⟩ (λe=>by cases e) (λa' rem' e=>by cases e) (λa' e=>by cases e) (λg e=>by cases e) (λk e=>rfl) (λe=>absurd e (I.notzero hi hst (by simp[Ctl.role])))
 exact⟨gs',w',u,D',_,_,_,_,h1,h2,h3,less_park hi hst rfl h4.1,h4.2⟩;have hle:=I.pro.le;have hsz:0< (Array.replicate (sent-rcvd) C.N.dv).size:=by simp;omega
 have hrun:=crowd_recv_buf (P:=C.P) (sl:=sl) hx hact hc hsz hp;have hget:(Array.replicate (sent-rcvd) C.N.dv).getD 0 undef=C.N.dv:=by rw[Array.getD_eq_getD_getElem?,Array.getElem?_replicate,if_pos (by omega)];rfl
 have hext:(Array.replicate (sent-rcvd) C.N.dv).extract 1 (Array.replicate (sent-rcvd) C.N.dv).size=Array.replicate (sent-(rcvd+1)) C.N.dv:=by rw[Array.extract_replicate];congr 1;simp;omega
 simp only[Net.shape,finishComm_recv,ofEvents_nil,Array.empty_append,hget,hext]at hrun;have hrc:recvd false C.N.dv true=C.N.dv:=rfl;rw[hrc]at hrun;have hlt2:C.N.D<w.heap.size:=(Array.getElem?_eq_some_iff.1 hc).1;have hnext:∃ci:Ctl α,Term C.P (C.N.Stop ci) (Go.Conc.served (D i).g C.N.dv) (D i).v/\ci.role=2/\(∀p,ci.tok p=0)/\StageC true false (rcvd+1) ci/\Stage true false (rcvd+1) (.live ci)/\ci.ev<5-rcvd:=by by_cases h2:rcvd=2;subst h2;exact⟨.closeR,L.nRecvD2 _ _ hA,rfl,λ_=>rfl,⟨rfl,rfl,rfl⟩,⟨rfl,rfl,rfl⟩,by simp[Ctl.ev]⟩;refine⟨.recvD (rcvd+1),L.nRecvD rcvd _ _ (by omega) hA,rfl,λ_=>rfl,⟨rfl,rfl,rfl,by omega⟩,⟨rfl,rfl,rfl,by omega⟩,?_⟩;show 5-(rcvd+1)<5-rcvd;omega
 obtain⟨ci,c1,c2,c3,c4,c5,c6⟩:=hnext;have hu:Quiet #[{g:=i,fn:=g'.frame.fn,pos:=g'.frame.place,act:=.recv C.N.D rcvd 3},{g:=i,fn:=g'.frame.fn,pos:=g'.frame.place,act:=.recvDone C.N.D rcvd}]:=by intro op hop;simp at hop;rcases hop with rfl|rfl<;>exact⟨rfl,λm=>by simp⟩
 have hgrp:C.grp i:=I.grp hi (by rw[hst];exact role_pos (α:=α) (.recvD rcvd));have hother:∀j,j<C.n+4->j≠i->Stage true false (rcvd+1) (sts D j)/\(∀q,sts D j=.park (.recvD q)->False):=by
  intro j hj hji;have h1:=I.pro.stage j hj;have h2:=I.pro.role j hj;have hr2:C.rl j≠2:=λe=>hji (rl_inj I.pos hj hi (by rw[e,<-I.pro.role i hi,e1];rfl) (.inl e));cases hsj:sts D j with
  |old r q=>
   rw[hsj]at h1 h2;refine⟨?_,λq e=>by cases e⟩;match r,h1,h2 with
   |0,_,_=>exact trivial
   |1,h1,_=>exact h1
   |2,_,h2=>exact absurd h2.symm hr2
   |r+3,_,_=>exact trivial
  |unborn c=>rw[hsj]at h1 h2;refine⟨?_,λq e=>by cases e⟩;cases c<;>first|exact h1|exact absurd h2.symm hr2
  |born c=>rw[hsj]at h1 h2;refine⟨?_,λq e=>by cases e⟩;cases c<;>first|exact h1|exact absurd h2.symm hr2
  |live c=>rw[hsj]at h1 h2;refine⟨?_,λq e=>by cases e⟩;cases c<;>first|exact h1|exact absurd h2.symm hr2
  |park c=>rw[hsj]at h1 h2;refine⟨?_,λq e=>by cases e;exact absurd h2.symm hr2⟩;cases c<;>first|exact h1|exact absurd h2.symm hr2
 obtain⟨D',b1,b2,b3,b4⟩:=solo1 (gs':=gs.setIfInBounds i (Go.Conc.served g' C.N.dv)) (w':=World.setChan w C.N.D 3 (Array.replicate (sent-(rcvd+1)) C.N.dv) false sent (rcvd+1) false) (u:=#[{g:=i,fn:=g'.frame.fn,pos:=g'.frame.place,act:=.recv C.N.D rcvd 3},{g:=i,fn:=g'.frame.fn,pos:=g'.frame.place,act:=.recvDone C.N.D rcvd}]) (cj':=true) (cr':=false) (sent':=sent) (rcvd':=rcvd+1) I T hi (I.notzero hi hst (by simp[Ctl.role])) hst ci
  (by rw[Array.getElem?_setIfInBounds_self_of_lt hlt]) (λk hk=>Array.getElem?_setIfInBounds_ne (Ne.symm hk)) (by simp)
  ⟨gr_served (gr_clear hgr) (L.vals.2.2.1.self _),c1⟩ hu
  (λk hk h=>by
   have:=h.chan C (c:=C.N.D) hc (.chan 3 (Array.replicate (sent-(rcvd+1)) C.N.dv) false sent (rcvd+1) false) w.drawn;exact this)
  (by obtain⟨s2,r2,h2⟩:=I.chJ;exact⟨s2,r2,by show(w.heap.setIfInBounds C.N.D _)[C.N.J]? =_;rw[Array.getElem?_setIfInBounds_ne (Ne.symm I.ne.2.1)];exact h2⟩)
  (by obtain⟨s2,r2,h2⟩:=I.chR;exact⟨s2,r2,by show(w.heap.setIfInBounds C.N.D _)[C.N.R]? =_;rw[Array.getElem?_setIfInBounds_ne (Ne.symm I.ne.2.2)];exact h2⟩)
  (by show(w.heap.setIfInBounds C.N.D _)[C.N.D]? =_;rw[Array.getElem?_setIfInBounds_self_of_lt hlt2])
  (λj q hj e=>by
   have hd:Deaf t i=0:=T.deaf i hgrp λr q e=>by rw[hst]at e;cases e
   have:=(T.said j q hj e).recv (z:={g:=i,fn:=g'.frame.fn,pos:=g'.frame.place,act:=.recvDone C.N.D rcvd}) (u:=#[{g:=i,fn:=g'.frame.fn,pos:=g'.frame.place,act:=.recv C.N.D rcvd 3}]) hi3 rfl (by rw[<-hi3];exact hd) (λop hop=>by simp at hop;subst hop;exact⟨rfl,λm=>by simp⟩) (by omega)
   simpa using this)
  (I.pro.unpark (λj hj=>by
    by_cases hji:j=i
    ·subst hji;rw[upd_same,e1];exact c2
    ·rw[upd_ne _ _ hji]) (λp=>by
    have:=sumTo_upd (sts D) (.live ci) (λy=>y.tok p) hi
    have e2:(sts D i).tok p=0:=by rw[e1];rfl
    have e3:(St.live ci).tok p=0:=c3 p;omega) (by omega) (by
    have:=sumTo_upd (sts D) (.live ci) (λy=>y.said) hi
    have e2:(sts D i).said=0:=by rw[e1];rfl
    have e3:(St.live ci).said=0:=rfl;have e4:=I.pro.said;omega) (λj hj=>by
    by_cases hji:j=i
    ·subst hji;rw[upd_same];exact c5
    ·rw[upd_ne _ _ hji];exact(hother j hj hji).1) (λj c hj e=>by
    by_cases hji:j=i
    ·subst hji;rw[upd_same]at e;cases e
    ·rw[upd_ne _ _ hji]at e;exact e) (λj q hj e=>by
    by_cases hji:j=i
    ·subst hji;rw[upd_same]at e;cases e
    ·rw[upd_ne _ _ hji]at e;exact((hother j hj hji).2 q e).elim)) c6
 exact⟨_,_,_,D',_,_,_,_,hrun,b1,b2,b3,kept_chan b4 (.inr (.inr rfl)) rfl rfl rfl rfl⟩
end
end Ph
namespace Ph
open Go.Conc Rn
open Go.ConcN (sumTo upd sumTo_upd upd_ne upd_same le_sumTo)
open Tp (MoveRe Term Ld)
variable{α:Type}{C:Cfg α}
section
variable{all:List α}{gs gs':Array Goroutine}{w w':World}{t u:Trace}{D D':Nat->Pd α}{cj cr cj' cr':Bool}{sent rcvd sent' rcvd':Nat}{sl:Option (Nat×Nat)}
def sum_workers(hp:0<C.n):sumTo (C.n+4) (λi=>if C.rl i=1 then 1 else 0)=3:=by
 have h0:∀m,m<=C.n->sumTo m (λi=>if C.rl i=1 then 1 else 0)=0:=by
  intro m;induction m with
  |zero=>intro _;rfl|succ m ih=>
  intro hm;show sumTo m _+(if C.rl m=1 then 1 else 0)=0;rw[ih (by omega)];have:C.rl m≠1:=by unfold Cfg.rl;split;omega;rw[if_pos (by omega)];omega
  rw[if_neg this]
 have h1:∀j,j<3->C.rl (C.n+j)=1:=λj hj=>by unfold Cfg.rl;rw[if_neg (by omega),if_neg (by omega),if_pos (by omega)]
 have h3:C.rl (C.n+3)≠1:=by unfold Cfg.rl;rw[if_neg (by omega),if_neg (by omega),if_neg (by omega)];omega
 show sumTo C.n _+(if C.rl C.n=1 then 1 else 0)+(if C.rl (C.n+1)=1 then 1 else 0)+(if C.rl (C.n+2)=1 then 1 else 0)+(if C.rl (C.n+3)=1 then 1 else 0)=3;rw[h0 C.n (Nat.le_refl _),if_pos (show C.rl C.n=1 from h1 0 (by omega)),if_pos (h1 1 (by omega)),if_pos (h1 2 (by omega)),if_neg h3]
def said_le(s:St α):s.said<=if s.role=1 then 1 else 0:=by
 cases s with
 |old r q=>
  match r with
  |0=>exact Nat.zero_le _
  |1=>exact Nat.le_refl _
  |r+2=>exact Nat.zero_le _
 |_=>exact Nat.zero_le _
def Pro.sent_lt{s}(h:Pro C all s cj cr sent rcvd)(hp:0<C.n){i}(hi:i<C.n+4)(hr:(s i).role=1)(hs:(s i).said=0):sent<3:=by
 apply Classical.byContradiction;intro hn;have h1:=sum_workers (C:=C) hp;have h2:=sumTo_eq (f:=λi=>(s i).said) (g:=λi=>if C.rl i=1 then 1 else 0) (C.n+4) (λi hi=>by have:=said_le (s i);rwa[h.role i hi]at this) (by rw[h1,<-h.said];omega) i hi;replace h2:(s i).said=if C.rl i=1 then 1 else 0:=h2
 rw[<-h.role i hi,hr,hs]at h2;simp at h2
def said_new(T:Tr C t D sent rcvd){i}(hgrp:C.grp i)(hno:∀r q,(D i).st≠.old r q){z u}(hz:z.g=i)(ha:z.act=.send C.N.D sent)(hu:Quiet (#[z]++u))(hle:rcvd<=sent):SaidAt C (t++(#[z]++u)) i (sent+1) rcvd:=by
 have hpos:(t++(#[z]++u))[t.size]? =some z:=by rw[Array.getElem?_append_right (Nat.le_refl _),Nat.sub_self,Array.getElem?_append_left (by simp)];rfl
 refine⟨t.size,sent,z,hpos,hz,ha,by omega,⟨i,by rw[Trace.g?,hpos];simp[hz],?_⟩,λp y a hp hy hya=>?_,λhk=>by omega⟩;rw[deaf_old (Nat.le_refl _)];exact T.deaf i hgrp hno;rcases getElem?_append_cases hp with⟨h1,_⟩|⟨_,hyu⟩;exact h1;rw[(hu y hyu).1]at hya;cases hya
def rl_worker(I:Inv C all gs w t D cj cr sent rcvd){i}(hi:i<C.n+4)(hr:(sts D i).role=1):C.R i=C.R i/\C.n<=i:=by refine⟨rfl,?_⟩;have:=I.pro.role i hi;rw[hr]at this;unfold Cfg.rl at this;apply Classical.byContradiction;intro hn;by_cases h0:i=0;rw[if_pos h0]at this;omega;rw[if_neg h0,if_pos (by omega)]at this;omega
def Pro.next{s}(h:Pro C all s true false sent rcvd)(hp:0<C.n){i}(hi:i<C.n+4)(hri:(s i).role=2) k:∀j,j<C.n+4->j≠i->Stage true false k (s j)/\(∀q,s j=.park (.recvD q)->False):=by
 intro j hj hji;have h1:=h.stage j hj;have h2:=h.role j hj;have hr2:C.rl j≠2:=λe=>hji (rl_inj hp hj hi (by rw[e,<-h.role i hi,hri]) (.inl e));cases hsj:s j with
 |old r q=>
  rw[hsj]at h1 h2;refine⟨?_,λq e=>by cases e⟩;match r,h1,h2 with
  |0,_,_=>exact trivial
  |1,h1,_=>exact h1
  |2,_,h2=>exact absurd h2.symm hr2
  |r+3,_,_=>exact trivial
 |unborn c=>rw[hsj]at h1 h2;refine⟨?_,λq e=>by cases e⟩;cases c<;>first|exact h1|exact absurd h2.symm hr2
 |born c=>rw[hsj]at h1 h2;refine⟨?_,λq e=>by cases e⟩;cases c<;>first|exact h1|exact absurd h2.symm hr2
 |live c=>rw[hsj]at h1 h2;refine⟨?_,λq e=>by cases e⟩;cases c<;>first|exact h1|exact absurd h2.symm hr2
 |park c=>rw[hsj]at h1 h2;refine⟨?_,λq e=>by cases e;exact absurd h2.symm hr2⟩;cases c<;>first|exact h1|exact absurd h2.symm hr2
def next_recvD(L:Law C){k g v}(hk:k<3)(hA:C.N.A (.recvD k) g v):∃ci:Ctl α,Term C.P (C.N.Stop ci) (Go.Conc.served g C.N.dv) v/\ci.role=2/\(∀p,ci.tok p=0)/\Stage true false (k+1) (.live ci)/\ci.ev<5-k:=by by_cases h2:k=2;subst h2;exact⟨.closeR,L.nRecvD2 _ _ hA,rfl,λ_=>rfl,⟨rfl,rfl,rfl⟩,by simp[Ctl.ev]⟩;refine⟨.recvD (k+1),L.nRecvD k _ _ (by omega) hA,rfl,λ_=>rfl,⟨rfl,rfl,rfl,by omega⟩,?_⟩;show 5-(k+1)<5-k;omega
def move_sendD(L:Law C)(hbase:∀i,C.n<=i->i<C.n+4->C.R i=[base C.P])(I:Inv C all gs w t D cj cr sent rcvd)(T:Tr C t D sent rcvd){i}(hi:i<C.n+4)(hst:(D i).st=.live .sendD)(hA:C.N.A .sendD (D i).g (D i).v):Goes C all gs w sl t D i:=by
 obtain⟨g',hx,hlt,hgr⟩:=at_of L I hi hst;have hact:=L.act .sendD _ _ _ _ _ rfl hA hgr (i==0) w;have hc:=I.chD;have e1:sts D i=.live .sendD:=hst;have hstage:cj=true/\cr=false:=by have:=I.pro.stage i hi;rw[e1]at this;exact this
 obtain⟨rfl,rfl⟩:=hstage;have hni:=(rl_worker I hi (by rw[e1];rfl)).2;have hi0:i≠0:=I.notzero hi hst (by simp[Ctl.role]);have hgrp:C.grp i:=.inr ⟨hni,hi⟩;have hno:∀r q,(D i).st≠.old r q:=λr q e=>by rw[hst]at e;cases e
 have hd0:Deaf t i=0:=T.deaf i hgrp hno;have hle:=I.pro.le;have hs3:sent<3:=I.pro.sent_lt I.pos hi (by rw[e1];rfl) (by rw[e1];rfl);rw[hbase i hni hi]at hgr;obtain⟨q,hq⟩:=L.nSendD _ _ _ _ hA hgr;have hlt2:C.N.D<w.heap.size:=(Array.getElem?_eq_some_iff.1 hc).1;by_cases hp:partners (gs.setIfInBounds i ph) C.N.D false=[];have hroom:(Array.replicate (sent-rcvd) C.N.dv).size<3:=by simp;omega
 have hrun:=crowd_send_room (P:=C.P) (sl:=sl) hx hact hc hroom hp;have hpush:(Array.replicate (sent-rcvd) C.N.dv).push C.N.dv=Array.replicate (sent+1-rcvd) C.N.dv:=by rw[show sent+1-rcvd=(sent-rcvd)+1 by omega,Array.replicate_succ]
 simp only[Net.shape,finishComm_send,ofEvents_nil,Array.empty_append,hpush]at hrun;have hu:Quiet (#[{g:=i,fn:=g'.frame.fn,pos:=g'.frame.place,act:=.send C.N.D sent}]++#[{g:=i,fn:=g'.frame.fn,pos:=g'.frame.place,act:=.sendDone C.N.D sent}]):=by intro op hop;simp at hop;rcases hop with rfl|rfl<;>exact⟨rfl,λm=>by simp⟩
 have hS:=same_upd D i (.old 1 q) (D i).g;have hsts:=sts_upd D i ((D i).to (.old 1 q) (D i).g);have hnopark:∀j k,j<C.n+4->sts D j≠.park (.recvD k):=λj k hj=>I.waits hst hp hj rfl;refine⟨_,_,_,upd D i ((D i).to (.old 1 q) (D i).g),true,false,sent+1,rcvd,hrun,I.quiet hS hu (λj hj=>?_) (by simpa using I.size) (λj hj h=>?_) ?_ ?_ ?_ ?_ ?_,T.quiet I hS hu (λj c' e=>?_) (λj r q' e=>?_) (λj q' hj e=>?_) (λq' e=>?_),.inl ?_,kept_chan (λk=>(hS k).1) (.inr (.inr rfl)) rfl rfl rfl rfl⟩;by_cases hji:j=i;subst hji;refine .inr ?_;rw[upd_same,Array.getElem?_setIfInBounds_self_of_lt hlt];exact⟨⟨_,rfl,by rw[hd0];exact hq⟩,λe=>by cases e⟩;exact .inl ⟨upd_ne D _ hji,Array.getElem?_setIfInBounds_ne (Ne.symm hji)⟩;exact h.chan C (c:=C.N.D) hc (.chan 3 (Array.replicate (sent+1-rcvd) C.N.dv) false (sent+1) rcvd false) w.drawn;rw[upd_ne D _ (Ne.symm hi0),Array.size_setIfInBounds];exact I.main;obtain⟨s2,r2,h2⟩:=I.chJ;exact⟨s2,r2,by show(w.heap.setIfInBounds C.N.D _)[C.N.J]? =_;rw[Array.getElem?_setIfInBounds_ne (Ne.symm I.ne.2.1)];exact h2⟩;obtain⟨s2,r2,h2⟩:=I.chR;exact⟨s2,r2,by show(w.heap.setIfInBounds C.N.D _)[C.N.R]? =_;rw[Array.getElem?_setIfInBounds_ne (Ne.symm I.ne.2.2)];exact h2⟩;show(w.heap.setIfInBounds C.N.D _)[C.N.D]? =_;rw[Array.getElem?_setIfInBounds_self_of_lt hlt2];rw[hsts];refine I.pro.unpark (λj hj=>?_) (λp=>?_) (by omega) ?_ (λj hj=>?_) (λj c hj e=>?_) (λj k hj e=>?_);by_cases hji:j=i;subst hji;rw[upd_same,e1];rfl;rw[upd_ne _ _ hji];have:=sumTo_upd (sts D) (.old 1 q) (λy=>y.tok p) hi;have e2:(sts D i).tok p=0:=by rw[e1];rfl
 have e3:(St.old 1 q:St α).tok p=0:=rfl;show sumTo (C.n+4) (λi_1=>St.tok p (upd (sts D) i (.old 1 q) i_1))=_;omega;have:=sumTo_upd (sts D) (.old 1 q) (λy=>y.said) hi;have e2:(sts D i).said=0:=by rw[e1];rfl
 have e3:(St.old 1 q:St α).said=1:=rfl;have e4:=I.pro.said;show _=sumTo (C.n+4) (λi_1=>St.said (upd (sts D) i (.old 1 q) i_1));omega;by_cases hji:j=i;subst hji;rw[upd_same];exact rfl;rw[upd_ne _ _ hji];exact I.pro.stage j hj;by_cases hji:j=i;subst hji;rw[upd_same]at e;cases e;rw[upd_ne _ _ hji]at e;exact e;by_cases hji:j=i;subst hji;rw[upd_same]at e;cases e;rw[upd_ne _ _ hji]at e;exact absurd e (hnopark j k hj);by_cases hji:j=i;subst hji;rw[hst]at e;cases e;exact⟨c',by rw[upd_ne D _ hji];exact e⟩;by_cases hji:j=i;subst hji;rw[hst]at e;cases e;exact⟨r,q',by rw[upd_ne D _ hji];exact e⟩;by_cases hji:j=i;subst hji;exact said_new T hgrp hno rfl rfl hu hle;rw[upd_ne D _ hji]at e;exact(T.said j q' hj e).app (λop hop _=>(hu op hop).1) (by omega);by_cases hji:C.n+3=i;rw[hji,upd_same]at e;cases e;rw[upd_ne D _ hji]at e;exact⟨q',e⟩;rw[hsts];have:=evs_one (C:=C) (s:=sts D) hi (.old 1 q);have e2:(sts D i).ev=1:=by rw[e1];rfl
 have e3:(St.old 1 q:St α).ev=0:=rfl;show evs C (upd (sts D) i (.old 1 q))<_;omega;have hall:∀j k,(j,k)∈partners (gs.setIfInBounds i ph) C.N.D false->k=0/\j≠i/\∃gj zj shj,gs[j]? =some (parked gj #[rcase C.N.D zj] shj):=by intro j k hm;obtain⟨h1,h2,h3,c,g2,h4,h5,h6,_⟩:=I.partner hm;refine⟨h1,h2,?_⟩;cases c<;>simp only[Net.chan,Option.some.injEq,Prod.mk.injEq,and_false,reduceCtorEq,and_true]at h5;exact absurd h5 I.ne.2.1;exact⟨_,_,_,h6⟩;exact absurd h5 I.ne.2.2
 obtain⟨j,gj,zj,shj,d,hji,hgj,hrun⟩:=crowd_send_meets_some (P:=C.P) (sl:=sl) hx hact hc hp hall;obtain⟨hjlt,c,hcst,hcs,hsh,hgrj,hAj⟩:=I.parked hgj;have hst2:=I.pro.stage j hjlt;rw[show sts D j=_ from hcst]at hst2;cases c with
 |recvD k=>
 obtain⟨_,_,hrk,hk3⟩:_/\_/\rcvd=k/\k<3:=hst2;subst hrk;have e2:sts D j=.park (.recvD rcvd):=hcst;have hsr:sent=rcvd:=I.pro.p3 j rcvd hjlt e2;subst hsr;have hj3:j=C.n+3:=by
  have h1:=I.pro.role j hjlt;have h2:C.rl (C.n+3)=2:=by unfold Cfg.rl;rw[if_neg (by omega),if_neg (by omega),if_neg (by omega)]
  refine rl_inj I.pos hjlt (by omega) ?_ (.inl ?_);rw[h2,<-h1,e2];rfl;rw[<-h1,e2];rfl
 subst hsh;have hrc:recvd false C.N.dv true=C.N.dv:=rfl;simp only[Net.shape,finishComm_send,finishComm_recv,ofEvents_nil,Array.empty_append,hrc]at hrun;have hsv:Go.Conc.served {g' with status:=.running,offers:=none} undef=Go.Conc.served g' undef:=rfl;rw[hsv]at hrun;have hjs:j<gs.size:=(Array.getElem?_eq_some_iff.1 hgj).1;have hj0:j≠0:=by have:=I.pos;omega
 have hgrpj:C.grp j:=.inr ⟨by omega,hjlt⟩;have hnoj:∀r q,(D j).st≠.old r q:=λr q e=>by rw[hcst]at e;cases e
 have hdj:Deaf t (C.n+3)=0:=by rw[<-hj3];exact T.deaf j hgrpj hnoj
 obtain⟨ci,c1,c2,c3,c5,c6⟩:=next_recvD L hk3 hAj;obtain⟨a1,a2,a3,a4⟩:=get2 gs hji hlt hjs (Go.Conc.served g' undef) (Go.Conc.served gj C.N.dv);have hS:=same_upd2 D i j (.old 1 q) (.live ci) (D i).g (Go.Conc.served (D j).g C.N.dv);have hval:∀k,upd (upd D i ((D i).to (.old 1 q) (D i).g)) j ((D j).to (.live ci) (Go.Conc.served (D j).g C.N.dv)) k=if k=j then(D j).to (.live ci) (Go.Conc.served (D j).g C.N.dv)else if k=i then(D i).to (.old 1 q) (D i).g else D k:=λk=>rfl
 generalize hD':upd (upd D i ((D i).to (.old 1 q) (D i).g)) j ((D j).to (.live ci) (Go.Conc.served (D j).g C.N.dv))=D' at hS hval;have hsts:sts D'=upd (upd (sts D) i (.old 1 q)) j (.live ci):=by rw[<-hD',sts_upd,sts_upd];rfl
 have hvj:D' j=(D j).to (.live ci) (Go.Conc.served (D j).g C.N.dv):=by rw[hval,if_pos rfl]
 have hvi:D' i=(D i).to (.old 1 q) (D i).g:=by rw[hval,if_neg (Ne.symm hji),if_pos rfl]
 have hvo:∀k,k≠i->k≠j->D' k=D k:=λk h1 h2=>by rw[hval,if_neg h2,if_neg h1]
 have hsval:∀k,sts D' k=if k=j then .live ci else if k=i then .old 1 q else sts D k:=λk=>by rw[hsts];rfl
 let z:MemOp:={g:=i,fn:=g'.frame.fn,pos:=g'.frame.place,act:=.send C.N.D sent};let z1:MemOp:={g:=j,fn:=gj.frame.fn,pos:=gj.frame.place,act:=.recv C.N.D sent 3};let z2:MemOp:={g:=i,fn:=g'.frame.fn,pos:=g'.frame.place,act:=.sendDone C.N.D sent};let z3:MemOp:={g:=j,fn:=gj.frame.fn,pos:=gj.frame.place,act:=.recvDone C.N.D sent};have hq1:Quiet #[z]:=λop hop=>by
  have:op=z:=by simpa using hop
  subst this;exact⟨rfl,λm=>by simp[z]⟩
 have hq2:Quiet #[z1,z2]:=λop hop=>by
  have:op=z1∨op=z2:=by simpa using hop
  rcases this with rfl|rfl<;>exact⟨rfl,λm=>by simp[z1,z2]⟩
 have hu:Quiet #[z,z1,z2,z3]:=quiet_send i j g'.frame.fn gj.frame.fn g'.frame.place gj.frame.place C.N.D sent sent 3;have hsplit:t++#[z,z1,z2,z3]=t++#[z]++(#[z1,z2]++#[z3]):=by simp
 have hdj1:Deaf (t++#[z]) (C.n+3)=0:=(hq1.deaf t (C.n+3)).trans hdj;refine⟨_,_,_,D',true,false,sent+1,sent+1,hrun,I.quiet hS hu (λk hk=>?_) (by rw[a4];exact I.size) (λk hk h=>?_) ?_ ?_ ?_ ?_ ?_,T.quiet I hS hu (λk c' e=>?_) (λk r q' e=>?_) (λk q' hk e=>?_) (λq' e=>?_),.inl ?_,kept_chan (λk=>(hS k).1) (.inr (.inr rfl)) rfl rfl rfl rfl⟩;by_cases h1:k=i;subst h1;refine .inr ?_;rw[hvi,a1];exact⟨⟨_,rfl,by rw[hd0];exact hq⟩,λe=>by cases e⟩;by_cases h2:k=j;subst h2;refine .inr ?_;rw[hvj,a2];exact⟨_,rfl,gr_served hgrj (L.vals.2.2.1.self _),c1⟩;exact .inl ⟨hvo k h1 h2,a3 k h1 h2⟩;have:=(h.drawn C d).chan C (c:=C.N.D) (by exact hc) (.chan 3 (Array.replicate (sent-sent) C.N.dv) false (sent+1) (sent+1) false) d;exact this;rw[hvo 0 (Ne.symm hi0) (Ne.symm hj0),a4];exact I.main;obtain⟨s2,r2,h2⟩:=I.chJ;exact⟨s2,r2,by show(w.heap.setIfInBounds C.N.D _)[C.N.J]? =_;rw[Array.getElem?_setIfInBounds_ne (Ne.symm I.ne.2.1)];exact h2⟩;obtain⟨s2,r2,h2⟩:=I.chR;exact⟨s2,r2,by show(w.heap.setIfInBounds C.N.D _)[C.N.R]? =_;rw[Array.getElem?_setIfInBounds_ne (Ne.symm I.ne.2.2)];exact h2⟩;show(w.heap.setIfInBounds C.N.D _)[C.N.D]? =_;rw[Array.getElem?_setIfInBounds_self_of_lt hlt2,Nat.sub_self,Nat.sub_self];rw[hsts];refine I.pro.two hi hjlt (Ne.symm hji) (.old 1 q) (.live ci) (by rw[e1];rfl) (by rw[e2];exact c2) (λp=>?_) ?_ (Nat.le_refl _) (λk hk h1 h2=>(I.pro.next I.pos hjlt (by rw[e2];rfl) (sent+1) k hk h2).1) rfl c5 (λc e=>by cases e) (λc e=>by cases e) (λk q' hk h1 h2 e=>((I.pro.next I.pos hjlt (by rw[e2];rfl) (sent+1) k hk h2).2 q' e).elim);rw[e1,e2];show 0+ci.tok p=0+0;rw[c3];rw[e1,e2];show 1+0+sent=0+0+(sent+1);omega;by_cases h1:k=i;subst h1;rw[hst]at e;cases e;by_cases h2:k=j;subst h2;rw[hcst]at e;cases e;exact⟨c',by rw[hvo k h1 h2];exact e⟩;by_cases h1:k=i;subst h1;rw[hst]at e;cases e;by_cases h2:k=j;subst h2;rw[hcst]at e;cases e;exact⟨r,q',by rw[hvo k h1 h2];exact e⟩;show SaidAt C (t++#[z,z1,z2,z3]) k (sent+1) (sent+1);rw[hsplit];have h1:SaidAt C (t++#[z]) k (sent+1) sent:=by
  by_cases h1:k=i;subst h1;have:=said_new (u:=#[]) T hgrp hno (z:=z) rfl rfl (by rw[Array.append_empty];exact hq1) hle;rwa[Array.append_empty]at this;have h2:k≠j:=λe3=>by subst e3;rw[hvj]at e;cases e
  rw[hvo k h1 h2]at e;exact(T.said k q' hk e).app (λop hop _=>(hq1 op hop).1) (by omega)
 exact h1.recv (z:=z3) (u:=#[z1,z2]) hj3 rfl hdj1 hq2 (by omega);by_cases h2:C.n+3=j;rw[h2,hvj]at e;cases e;exact absurd hj3.symm h2;rw[hsts];have:=evs_two (C:=C) (s:=sts D) hi hjlt (Ne.symm hji) (.old 1 q) (.live ci);have f1:(sts D i).ev=1:=by rw[e1];rfl
 have f2:(St.old 1 q:St α).ev=0:=rfl;have f3:(sts D j).ev=5-sent:=by rw[e2];rfl
 have f4:(St.live ci).ev=ci.ev:=rfl;omega
 |sendJ a rem=>exact(rcase_scase hcs).elim|sendR a=>exact(rcase_scase hcs).elim
 |recvJ=>exact absurd (rcase_inj hcs).symm I.ne.2.1|recvR g=>exact absurd (rcase_inj hcs).symm I.ne.2.2
 |_=>exact hst2.elim
end
end Ph
namespace Ph
open Go.Conc Rn
open Go.ConcN (sumTo upd sumTo_upd upd_ne upd_same le_sumTo)
open Tp (MoveRe Term Ld)
variable{α:Type}{C:Cfg α}
section
variable{all:List α}{gs gs':Array Goroutine}{w w':World}{t u:Trace}{D D':Nat->Pd α}{cj cr cj' cr':Bool}{sent rcvd sent' rcvd':Nat}{sl:Option (Nat×Nat)}
def wake(k:Ctl α->Bool):St α->St α
 |.park c=>if k c then .live c else .park c|s=>s
def wake_park k(c:Ctl α):wake k (.park c)=if k c=true then .live c else .park c:=rfl
def wake_role k(s:St α):(wake k s).role=s.role:=by cases s with|park c=>rw[wake_park];split<;>rfl|_=>rfl
def wake_tok k(s:St α) p:(wake k s).tok p=s.tok p:=by cases s with|park c=>rw[wake_park];split<;>rfl|_=>rfl
def wake_said k(s:St α):(wake k s).said=s.said:=by cases s with|park c=>rw[wake_park];split<;>rfl|_=>rfl
def wake_ev k(s:St α):(wake k s).ev=s.ev:=by cases s with|park c=>rw[wake_park];split<;>rfl|_=>rfl
def noMark_deaf{u}(h:∀op∈u,∀m,op.act≠.mark m) t g:Deaf (t++u) g=Deaf t g:=by
 obtain⟨l⟩:=u;rw[Deaf_append];generalize Deaf t g=d;induction l with
 |nil=>rfl|cons y l ih=>
 have e:deafStep g d y=d:=by have:=h y (by simp);unfold deafStep;split;rename_i hh;exact absurd hh (this _);rename_i hh;exact absurd hh (this _);rfl
 rw[List.foldl_cons,e];exact ih (λop hop=>h op (by simp at hop|-;exact .inr hop))
def closeOps(i fn:Nat)(pos:String)(ch:Nat):Trace:=#[{g:=i,fn:=fn,pos:=pos,act:=.access ⟨.obj ch,false,true⟩},{g:=i,fn:=fn,pos:=pos,act:=.close ch}]
def ofEvents_close i fn pos ch:MemOp.ofEvents i fn pos #[⟨.obj ch,false,true⟩,⟨.obj ch,true,true⟩]=closeOps i fn pos ch:=by unfold MemOp.ofEvents closeOps;simp[MemAct.ofEvent]
def closeOps_mem{i fn pos ch op}(h:op∈closeOps i fn pos ch):op.g=i/\(∀m,op.act≠.mark m)/\(op.act.touch? =none∨op.act.touch? =some ⟨.obj ch,false,.atomic⟩):=by unfold closeOps at h;simp at h;rcases h with rfl|rfl;exact⟨rfl,λm=>by simp,.inr rfl⟩;exact⟨rfl,λm=>by simp,.inl rfl⟩
def Tr.close(T:Tr C t D sent rcvd){i fn ch:Nat}{pos:String}(hg:C.grp i)(hch:ch=C.N.J∨ch=C.N.R)(hno:∀g,C.grp g->ch∉ (D g).X)(hnu:∀c,(D i).st≠.unborn c) (hX:∀g,(D' g).X=(D g).X) (hun:∀j c,(D j).st=.unborn c->∃c',(D' j).st=.unborn c') (ho:∀j r q,(D j).st=.old r q->∃r' q',(D' j).st=.old r' q') (hs:∀j q,(D' j).st=.old 1 q->j≠i/\(D j).st=.old 1 q) (hsh:∀q,(D' (C.n+3)).st=.old 2 q->ShutAt C (t++closeOps i fn pos ch)):Tr C (t++closeOps i fn pos ch) D' sent rcvd where
 clean:=λsaid=>noRace_append (T.clean said) (λop hop=>(closeOps_mem hop).1) λp a ha op hop b hb hc=>by rcases(closeOps_mem hop).2.2 with h|h;rw[h]at hb;cases hb;rw[h]at hb;cases hb;have hw:a.write=true:=hc.2.2.1.resolve_right (by simp);rcases T.touch p a ha hc.2.1 with hk|⟨o,h1,h2,h3|h3⟩;exact hk i hg hnu;rw[hc.1]at h3;exact absurd h3.1 (hno o.g h2);rw[hw]at h3;cases h3.1
 touch:=λp a ha hm=>by obtain⟨x,hx,hxa⟩:=touch_of ha;rcases getElem?_append_cases hx with⟨hp,hx'⟩|⟨_,hxu⟩;rcases T.touch p a (by rw[touchAt_of hx'];exact hxa) hm with hk|⟨op,h1,h2,h3⟩;exact .inl λj hj hc=>(hk j hj λc e=>by obtain⟨c',h⟩:=hun j c e;exact hc c' h).app _;refine .inr ⟨op,by rw[getElem?_append_old hp];exact h1,h2,?_⟩;unfold Mine at h3|-;rw[hX];exact h3;obtain⟨e1,_,e3⟩:=closeOps_mem hxu;refine .inr ⟨x,hx,by rw[e1];exact hg,.inr ?_⟩;rcases e3 with h|h;rw[h]at hxa;cases hxa;rw[h]at hxa;cases hxa;exact⟨rfl,by rcases hch with e|e<;>rw[e]<;>simp⟩
 deaf:=λj hj hc=>by rw[noMark_deaf (λop hop=>(closeOps_mem hop).2.1)];exact T.deaf j hj λr q e=>by obtain⟨r',q',h⟩:=ho j r q e;exact hc r' q' h
 said:=λj q hj e=>by obtain⟨h1,h2⟩:=hs j q e;exact(T.said j q hj h2).app (λop hop hgj=>absurd ((closeOps_mem hop).1.symm.trans hgj) (Ne.symm h1)) (Nat.le_refl _)
 shut:=hsh;above:=λj hj=>(noMark_deaf (λop hop=>(closeOps_mem hop).2.1) t j).trans (T.above j hj)
def Stage.wake{k}{s:St α}(h1:∀c,s=.park c->k c=true->Stage cj cr rcvd (.live c))(h2:(∀c,s=.park c->k c=false)->Stage cj cr rcvd s):Stage cj cr rcvd (wake k s):=by
 cases s with
 |park c=>rw[wake_park];cases hk:k c with|true=>rw[if_pos rfl];exact h1 c rfl hk|false=>rw[if_neg (by simp)];exact h2 λc' e=>by cases e;exact hk
 |_=>exact h2 λc e=>by cases e
def close_at(L:Law C)(I:Inv C all gs w t D cj cr sent rcvd){i}(hi:i<C.n+4)(h0:i≠0){c:Ctl α}{ch:Nat}{g'}(hx:gs[i]? =some g')(hmay:mayWake C.P g'=true) k d'(hd:d'.X=(D i).X/\d'.v=(D i).v) v (hD':D'=λj=>if j=i then d' else(D j).to (wake k (D j).st) (D j).g) (hok:Ok C t i (some (doneG g' v)) d') {w1} (hw:∀j,j<C.n+4->Sees C w (D j)->Sees C w1 (D j)) (hwoke:∀j c g2,j<C.n+4->j≠i->(D j).st=.park c->k c=true->(parked g2 (C.N.cases c) (C.N.shape c)).again w1={parked g2 (C.N.cases c) (C.N.shape c)with status:=.running}/\C.N.Stop c=C.N.A c) (hslept:∀j c g2,j<C.n+4->j≠i->(D j).st=.park c->k c=false->(parked g2 (C.N.cases c) (C.N.shape c)).again w1=parked g2 (C.N.cases c) (C.N.shape c)) (hk3:∀c,k c=true->∀n,c≠.spawn n) (hJ:∃s r,w1.heap[C.N.J]? =some (.chan 0 #[] cj' s r false)) (hR:∃s r,w1.heap[C.N.R]? =some (.chan 0 #[] cr' s r false)) (hDD:w1.heap[C.N.D]? =some (.chan 3 (Array.replicate (sent-rcvd) C.N.dv) false sent rcvd false)) {u} (hu:∀op∈u,∀m,op.act≠.mark m) (pro:Pro C all (sts D') cj' cr' sent rcvd):Inv C all ((gs.map (woken C.P g' (doneG g' v) w1)).setIfInBounds i (doneG g' v)) w1 (t++u) D' cj' cr' sent rcvd:=by
 have hlt:i<gs.size:=(Array.getElem?_eq_some_iff.1 hx).1;have hXv:∀j,(D' j).X=(D j).X/\(D' j).v=(D j).v:=λj=>by rw[hD'];dsimp only;by_cases hji:j=i;subst hji;rw[if_pos rfl];exact hd;rw[if_neg hji];exact⟨rfl,rfl⟩
 have hne:∀j,j≠i->D' j=(D j).to (wake k (D j).st) (D j).g:=λj hj=>by rw[hD'];exact if_neg hj
 have hdeaf:=noMark_deaf hu t;refine⟨I.pos,λj hj=>?_,by simpa using I.size,λj hj=>?_,λj l hj hl hjl b hbj hbl=>I.disj j l hj hl hjl b (by rw[<-(hXv j).1];exact hbj) (by rw[<-(hXv l).1];exact hbl),?_,hJ,hR,hDD,I.ne,pro⟩;refine Ok.trace C ?_ (hdeaf j);by_cases hji:j=i;subst hji;rw[Array.getElem?_setIfInBounds_self_of_lt (by simpa using hlt),hD'];dsimp only;rw[if_pos rfl];exact hok;rw[Array.getElem?_setIfInBounds_ne (Ne.symm hji),Array.getElem?_map,hne j hji];have hokj:=I.ok j hj;have hwk:∀x,woken C.P g' (doneG g' v) w1 x=x.again w1:=λx=>by unfold woken;rw[hmay];rfl
 unfold Ok at hokj;unfold Ok Pd.to;dsimp only;cases hs:(D j).st with
 |old r q=>rw[hs]at hokj;obtain⟨⟨y,h1,h2⟩,h3⟩:=hokj;rw[h1,Option.map_some,hwk,again_running _ h2.status];exact⟨⟨y,rfl,h2⟩,h3⟩
 |unborn c=>rw[hs]at hokj;rw[hokj.1];exact⟨rfl,hokj.2⟩|born c=>rw[hs]at hokj;rw[hokj.1,Option.map_some,hwk,again_running _ (.inl rfl)];exact⟨rfl,hokj.2⟩
 |live c=>rw[hs]at hokj;obtain⟨g2,h1,h2,h3⟩:=hokj;rw[h1,Option.map_some,hwk,again_running _ (.inl h2.run.2)];exact⟨g2,rfl,h2,h3⟩
 |park c=>
  rw[hs]at hokj;obtain⟨g2,h1,h2,h3⟩:=hokj;rw[h1,Option.map_some,hwk];cases hkc:k c with
  |true=>obtain⟨h4,h5⟩:=hwoke j c g2 hj hji hs hkc;rw[h4];show Ok C t j _ ⟨wake k (.park c),_,_,_⟩;rw[wake_park,if_pos hkc];exact⟨_,rfl,⟨⟨h2.run.1,rfl⟩,h2.dy,h2.frame,h2.callers⟩,.stop (by rw[h5];exact h3)⟩
  |false=>rw[hslept j c g2 hj hji hs hkc];show Ok C t j _ ⟨wake k (.park c),_,_,_⟩;rw[wake_park,if_neg (by rw[hkc];simp)];exact⟨g2,rfl,h2,h3⟩
 have:=hw j hj (I.sees j hj);unfold Sees at this|-;rw[(hXv j).1,(hXv j).2];exact this;rw[hne 0 (Ne.symm h0)];rw[Array.size_setIfInBounds,Array.size_map];show(∃n,n<=3/\wake k (D 0).st=_/\_)∨((∃got,wake k (D 0).st=_∨wake k (D 0).st=_)/\_);rcases I.main with⟨n,h1,h2,h3⟩|⟨⟨got,h|h⟩,h3⟩;exact .inl ⟨n,h1,by rw[h2];rfl,h3⟩;exact .inr ⟨⟨got,.inl (by rw[h];rfl)⟩,h3⟩;refine .inr ⟨⟨got,?_⟩,h3⟩;rw[h,wake_park];split;exact .inl rfl;exact .inr rfl
end
end Ph
namespace Ph
open Go.Conc Rn
open Go.ConcN (sumTo upd sumTo_upd upd_ne upd_same le_sumTo)
open Tp (MoveRe Term Ld)
variable{α:Type}{C:Cfg α}
section
variable{all:List α}{gs gs':Array Goroutine}{w w':World}{t u:Trace}{D D':Nat->Pd α}{cj cr cj' cr':Bool}{sent rcvd sent' rcvd':Nat}{sl:Option (Nat×Nat)}
def kJ:Ctl α->Bool
 |.recvJ=>true|_=>false
def kR:Ctl α->Bool
 |.recvR _=>true|_=>false
def sts_wake k i(d':Pd α) D:sts (λj=>if j=i then d' else(D j).to (wake k (D j).st) (D j).g)=upd (λj=>wake k (sts D j)) i d'.st:=by funext j;by_cases hji:j=i;subst hji;show(if j=j then _ else _:Pd α).st=_;rw[if_pos rfl,upd_same];show(if j=i then _ else _:Pd α).st=_;rw[if_neg hji,upd_ne _ _ hji];rfl
def feeder_is(I:Inv C all gs w t D cj cr sent rcvd){i}(hi:i<C.n+4)(hr:(sts D i).role=2):i=C.n+3:=by
 have h1:=I.pro.role i hi;have h2:C.rl (C.n+3)=2:=by unfold Cfg.rl;rw[if_neg (by omega),if_neg (by omega),if_neg (by omega)]
 refine rl_inj I.pos hi (by omega) ?_ (.inl ?_);rw[h2,<-h1,hr];rw[<-h1,hr]
def close_pro(I:Inv C all gs w t D cj cr sent rcvd){i}(hi:i<C.n+4) k x(hxr:x.role=(sts D i).role)(hxt:∀p,x.tok p=(sts D i).tok p)(hxs:x.said=(sts D i).said)(hxp:∀c,x≠.park c)(hstx:Stage cj' cr' rcvd x) (hst:∀j,j<C.n+4->j≠i->Stage cj' cr' rcvd (wake k (sts D j))) (hr2:(sts D i).role=2):Pro C all (upd (λj=>wake k (sts D j)) i x) cj' cr' sent rcvd:=by
 have hpark:∀j c,j<C.n+4->upd (λj=>wake k (sts D j)) i x j=.park c->j≠i/\sts D j=.park c:=λj c hj e=>by
  by_cases hji:j=i;subst hji;rw[upd_same]at e;exact absurd e (hxp c);rw[upd_ne _ _ hji]at e;refine⟨hji,?_⟩;cases hs:sts D j with
  |park c'=>rw[hs,wake_park]at e;split at e;cases e;exact e
  |_=>rw[hs]at e;cases e
 refine I.pro.unpark (λj hj=>?_) (λp=>?_) I.pro.le ?_ (λj hj=>?_) (λj c hj e=>(hpark j c hj e).2) (λj q hj e=>?_);by_cases hji:j=i;subst hji;rw[upd_same];exact hxr;rw[upd_ne _ _ hji];exact wake_role k _;have h1:=sumTo_upd (λj=>wake k (sts D j)) x (λy=>y.tok p) hi;have h2:sumTo (C.n+4) (λa=>(wake k (sts D a)).tok p)=sumTo (C.n+4) (λa=>(sts D a).tok p):=sumTo_congr _ λj _=>wake_tok k _ p;have h3:=hxt p;have h4:=wake_tok k (sts D i) p;omega;have h1:=sumTo_upd (λj=>wake k (sts D j)) x (λy=>y.said) hi;have h2:sumTo (C.n+4) (λa=>(wake k (sts D a)).said)=sumTo (C.n+4) (λa=>(sts D a).said):=sumTo_congr _ λj _=>wake_said k _;have h4:=wake_said k (sts D i);have h5:=I.pro.said;omega;by_cases hji:j=i;subst hji;rw[upd_same];exact hstx;rw[upd_ne _ _ hji];exact hst j hj hji;obtain⟨h1,h2⟩:=hpark j _ hj e;have:=I.pro.role j hj;rw[h2]at this;exact absurd (rl_inj I.pos hj hi (by rw[<-this,<-I.pro.role i hi,hr2];rfl) (.inl this.symm)) h1
def close_less(I:Inv C all gs w t D cj cr sent rcvd){i}(hi:i<C.n+4) k x(hev:x.ev< (sts D i).ev)(hD':sts D'=upd (λj=>wake k (sts D j)) i x):Less C D' D:=by refine .inl ?_;rw[hD'];have h1:evs C (upd (λj=>wake k (sts D j)) i x)+(wake k (sts D i)).ev=evs C (λj=>wake k (sts D j))+x.ev:=evs_one hi x;have h2:evs C (λj=>wake k (sts D j))=evs C (sts D):=sumTo_congr _ λj _=>wake_ev k _;have h3:=wake_ev k (sts D i);omega
def move_closeJ(L:Law C)(I:Inv C all gs w t D cj cr sent rcvd)(T:Tr C t D sent rcvd){i}(hi:i<C.n+4)(hst:(D i).st=.live (.feed []))(hA:C.N.A .closeJ (D i).g (D i).v):Goes C all gs w sl t D i:=by
 obtain⟨g',hx,hlt,hgr⟩:=at_of L I hi hst;obtain⟨s,r,hc⟩:=I.chJ;have e1:sts D i=.live (.feed []):=hst;have hstage:cj=false/\cr=false/\rcvd=0:=by have:=I.pro.stage i hi;rw[e1]at this;exact this
 obtain⟨rfl,rfl,rfl⟩:=hstage;obtain⟨hmay,hact⟩:=L.actClose .closeJ C.N.J _ _ _ _ _ (.inl ⟨rfl,rfl⟩) hA hgr;have hstep:=hact (i==0) w s r hc;have hi0:i≠0:=I.notzero hi hst (by simp[Ctl.role]);have hi3:=feeder_is I hi (by rw[e1];rfl);have hgrp:C.grp i:=I.grp hi (by rw[hst];exact role_pos (α:=α) (.feed []));have hrun:=runT_crowd_go (P:=C.P) (sl:=sl) hx hstep;rw[ofEvents_close]at hrun;have hlt2:C.N.J<w.heap.size:=(Array.getElem?_eq_some_iff.1 hc).1;have hJ1:(w.heap.setIfInBounds C.N.J (.chan 0 #[] true s r false))[C.N.J]? =some (.chan 0 #[] true s r false):=Array.getElem?_setIfInBounds_self_of_lt hlt2;have hR1:∃s2 r2,(w.heap.setIfInBounds C.N.J (.chan 0 #[] true s r false))[C.N.R]? =some (.chan 0 #[] false s2 r2 false):=by obtain⟨s2,r2,h2⟩:=I.chR;exact⟨s2,r2,by rw[Array.getElem?_setIfInBounds_ne I.ne.1];exact h2⟩
 have hD1:(w.heap.setIfInBounds C.N.J (.chan 0 #[] true s r false))[C.N.D]? =_:=(Array.getElem?_setIfInBounds_ne I.ne.2.1).trans I.chD;obtain⟨s2,r2,hR2⟩:=hR1;have hother:∀j,j<C.n+4->j≠i->(D j).st.role≠2:=λj hj hji e=>hji ((feeder_is I hj e).trans hi3.symm);have hsts:=sts_wake kJ i ((D i).to (.live (.recvD 0)) (doneG (D i).g (.tuple #[]))) D;have hpro:=close_pro (cj':=true) (cr':=false) I hi kJ (.live (.recvD 0)) (by rw[e1];rfl) (λp=>by rw[e1];rfl) (by rw[e1];rfl) (λc e=>by cases e) ⟨rfl,rfl,rfl,by omega⟩ (λj hj hji=>by
 have h1:=I.pro.stage j hj;have h2:=hother j hj hji;refine Stage.wake (λc e hk=>?_) (λhk=>?_);cases c<;>first|exact(Bool.noConfusion hk)|exact rfl
 change (sts D j).role≠2 at h2;cases hs:sts D j with
 |old r q=>
  rw[hs]at h1 h2;match r,h1,h2 with
  |0,_,_=>exact trivial
  |1,_,_=>exact rfl
  |2,_,h2=>exact absurd rfl h2
  |r+3,_,_=>exact trivial
 |unborn c=>rw[hs]at h1 h2;cases c<;>first|exact h1|exact absurd rfl h2
 |born c=>rw[hs]at h1 h2;cases c<;>first|exact h1|exact absurd rfl h2
 |live c=>rw[hs]at h1 h2;cases c<;>first|exact h1|exact absurd rfl h2|exact⟨rfl,rfl⟩
 |park c=>
 rw[hs]at h1 h2;cases c<;>first|exact absurd rfl h2|exact h1|skip
 exact absurd (hk _ hs) (by simp[kJ])) (by rw[e1];rfl)
 have hno:∀g,C.grp g->C.N.J∉ (D g).X:=λg hg hm=>(I.sees g (I.grp_lt hg)).nochan C hm hc;refine⟨_,_,_,λj=>if j=i then(D i).to (.live (.recvD 0)) (doneG (D i).g (.tuple #[]))else(D j).to (wake kJ (D j).st) (D j).g,true,false,sent,0,hrun,?_,?_,close_less I hi kJ (.live (.recvD 0)) (by rw[e1];show(5-0:Nat)<7+2*0;omega) hsts,kept_chan (λl=>(by split<;>first|(rename_i e;subst e;rfl)|rfl)) (.inl rfl) rfl rfl rfl rfl⟩;refine close_at (c:=.closeJ) (ch:=C.N.J) L I hi hi0 hx hmay kJ ((D i).to (.live (.recvD 0)) (doneG (D i).g (.tuple #[]))) ⟨rfl,rfl⟩ (.tuple #[]) rfl ⟨_,rfl,gr_finish hgr (V.ofTuple (VA.empty _)) rfl rfl,L.nCloseJ _ _ hA⟩ (λj hj h=>?_) (λj c g2 hj hji e hk=>?_) (λj c g2 hj hji e hk=>?_) (λc hk n e=>by subst e;cases hk) ⟨s,r,hJ1⟩ ⟨s2,r2,hR2⟩ hD1 (λop hop=>(closeOps_mem hop).2.1) (by rw[hsts];exact hpro);exact h.chan C hc (.chan 0 #[] true s r false) w.drawn;cases c<;>first|exact(Bool.noConfusion hk)|skip
 exact⟨again_recv_closed hJ1,rfl⟩;have h1:=I.pro.stage j hj;rw[show sts D j=_ from e]at h1;have h2:=hother j hj hji;rw[e]at h2;cases c with
 |recvJ=>cases hk
 |sendR a=>exact again_send_open hR2|recvR got=>exact again_recv_open hR2
 |sendJ a rem=>exact absurd rfl h2|recvD k=>exact absurd rfl h2
 |_=>exact h1.elim
 refine T.close hgrp (.inl rfl) hno (λc e=>by rw[hst]at e;cases e) (λg=>?_) (λj c e=>?_) (λj r q e=>?_) (λj q e=>?_) (λq e=>?_);split;rename_i hg;subst hg;rfl;rfl;refine⟨c,?_⟩;rw[if_neg (λhji=>by subst hji;rw[hst]at e;cases e)];show wake kJ (D j).st=_;rw[e];rfl;refine⟨r,q,?_⟩;rw[if_neg (λhji=>by subst hji;rw[hst]at e;cases e)];show wake kJ (D j).st=_;rw[e];rfl;split at e;cases e;rename_i hji;refine⟨hji,?_⟩;change wake kJ (D j).st=_ at e;cases hs:(D j).st with
 |park c=>rw[hs,wake_park]at e;split at e<;>cases e
 |_=>rw[hs]at e;exact e
 rw[if_pos hi3.symm]at e;cases e
end
end Ph
