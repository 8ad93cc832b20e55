import Derived.Test.YtlpcjiollnnmgabGreatDoorM04
set_option maxRecDepth 100000
set_option maxHeartbeats 8000000
set_option linter.all false
namespace Go.Proofs.YtlpcjiollnnmgabGreatDoor
namespace Ph
open Go.Conc Rn
open Tp (iT Term Ld jk iw iQ kY mL Fit ji iU m5)
def cl:Code->Code
 |.seq x _=>x|c=>c
def cr:Code->Code
 |.seq _ y=>y|c=>c
def ci:Code->Code
 |.block _ c=>c|.loop c=>c|c=>c
def co:Code->Array Oper
 |.region _ o _=>o|_=>#[]
def cb(f:Func):Code:=f.body.getD .skip
def nD(v:World)(l:List Obj):Prop:=∀(i:Nat)(o:Obj),l[i]? =some o->v.heap[i]? =some o
def nD.alloc{v l}(h:nD v l) o:nD (v.alloc o) l:=λi x hx=>by have h1:=h i x hx;have gV:=(ae.1 h1).1;show(v.heap.push o)[i]? =some x;rw[bQ gV];rw[Array.getElem?_eq_getElem gV]at h1;exact h1
def nD.mk l v(h:v.heap=l.toArray):nD v l:=λi o ho=>by rw[h];simpa using ho
def nD.keep{v w l}(h:nD v l)(hk:∀b,b<l.length->w.heap[b]? =v.heap[b]?):nD w l:=λi o ho=>by rw[hk i (aB.1 ho).1];exact h i o ho
def nD.le{v l}(h:nD v l):l.length<=v.heap.size:=by rcases eI v.heap.size l.length with gV|hge;have:=h v.heap.size l[v.heap.size] (ag gV);rw[aI ν]at this;cases this;exact hge
def lH:Obj:=.cells #[] 0 (0,0)
def fz(c:List Value)(t:TypeId):Obj:=.cells c.toArray t (0,c.length)
def nD.row{v l}(h:nD v l){i c t}(hi:l[i]? =some (fz c t)) j:v.cell? ⟨i,j,none⟩=c[j]?:=by have h1:=h i _ hi;unfold World.cell?;simp only[h1,fz];simp
def adx:Item->Bool
 |.code _|.inBlock _|.inLoop _|.inRegion _ _=>true|_=>false
def GQ{l}(h:l.all adx=true):iU l:=λit hi=>by rw[List.all_eq_true]at h;have:=h it hi;cases it<;>first|trivial|cases this
def Zw:m5 [wall]:=λc hc=>by rw[cn]at hc;subst hc;exact GQ rfl
def Zy{fr}(h:fr.todo.all adx=true):ji none fr [wall]:=⟨GQ h,Zw,λhd=>by cases hd⟩
section
variable{P:Program}{Stop:Goroutine->World->Prop}{b:Frame}{a:Act}{k:List Item}{cs:List Frame}{v w w':World}
def jY(hB:iT P)(hS:∀g w τ n,Stop g w->Stop g (w.re τ n)){fr}(hf:fr.todo.all adx=true)(h:∀τ n,jk P Stop fr [wall] (v.re τ n)):Term P Stop (mL fr [wall]) v:=Tp.y6 hB hS ⟨rfl,aHU,Zy hf⟩ rfl (Tp.iW h)
def amc{c}(h:c.wp P (Tp.uH λa' w'=>jk P Stop (b.at a' k) cs w') a w):jk P Stop (b.at a (.code c::k)) cs w:=by obtain⟨e,a',w',q,r⟩:=h b k cs;have he:=Tp.sZ _ _ _ q;subst he;exact kY r q
def An{ops l r}(h:wpOps P ops (Tp.uH λa' w'=>jk P Stop (b.at a' (.inRegion ops r::k)) cs w') l a w):jk P Stop (b.at a (.inRegion ops (l++r)::k)) cs w:=by obtain⟨a',w',q,hs⟩:=Tp.sY Tp.sZ l a w h r b k cs;exact kY hs q
def P8{id s r ops}(hr:List.range ops.size=List.range s++r)(h:wpOps P ops (Tp.uH λa' w'=>jk P Stop (b.at a' (.inRegion ops r::k)) cs w') (List.range s) a w):jk P Stop (b.at a (.code (.region id ops false)::k)) cs w:=by obtain⟨a',w',q,hs⟩:=Tp.Np (id:=id) hr Tp.sZ h b k cs;exact kY hs q
def ahU{S id s o ops}(hm:P.follows .mixedOrders=true)(hl:Tp.sr ops (Tp.lastB s) ops.size (Array.replicate ops.size false) []=true)(hg:Tp.nj ops=true)(ho:ops[s]? =some o) (h:wpAnyH P .any (Tp.oy ops s) (Tp.uH λa' w'=>jk P Stop (b.at a' (.inRegion ops [s]::k)) cs w') S (Tp.oy ops s).size (Array.replicate (Tp.oy ops s).size false) a {w with drawn:=w.drawn+1}):jk P Stop (b.at a (.code (.region id ops true)::k)) cs w:=by obtain⟨a',w',q,hs⟩:=Tp.Fc (id:=id) hm hl hg ho Tp.sZ h b k cs;exact kY hs q
def gH{c x y}(h:c=.seq x y)(h':jk P Stop (b.at a (.code x::.code y::k)) cs w):jk P Stop (b.at a (.code c::k)) cs w:=by subst h;exact Tp.ahT h'
def jf{c x id}(h:c=.block id x)(h':jk P Stop (b.at a (.code x::.inBlock id::k)) cs w):jk P Stop (b.at a (.code c::k)) cs w:=by subst h;exact Tp.ZT h'
def nZ{c x}(h:c=.loop x)(h':jk P Stop (b.at a (.code x::.inLoop x::k)) cs w):jk P Stop (b.at a (.code c::k)) cs w:=by subst h;exact Tp.aeg h'
def ix{c x y q t}(h:c=.cond q x y)(hc:a.eval q=.bool t)(h':jk P Stop (b.at a (.code (if t then x else y)::k)) cs w):jk P Stop (b.at a (.code c::k)) cs w:=by subst h;exact Tp.aej hc h'
def jz{c}(h:c=.skip)(h':jk P Stop (b.at a k) cs w):jk P Stop (b.at a (.code c::k)) cs w:=by subst h;exact Tp.aee h'
def n5{c id}(h:c=.exit id){k'}(hk:exitTo id k=some k')(h':jk P Stop (b.at a k') cs w):jk P Stop (b.at a (.code c::k)) cs w:=by subst h;exact Tp.aeh hk h'
def ib{c c'}(e:c=c')(h:c'.wp P (Tp.uH λa' w'=>jk P Stop (b.at a' k) cs w') a w):jk P Stop (b.at a (.code c::k)) cs w:=by subst e;exact amc h
def Ci{c id s r ops}(e:c=.region id ops false)(hr:List.range ops.size=List.range s++r)(h:wpOps P ops (Tp.uH λa' w'=>jk P Stop (b.at a' (.inRegion ops r::k)) cs w') (List.range s) a w):jk P Stop (b.at a (.code c::k)) cs w:=by subst e;exact P8 hr h
theorem kH{ops Q}:∀l os,l.map (λi=>ops[i]?)=os.map some->∀a w,wpList P ops Q os a w->wpOps P ops Q l a w
 |[],os,h,a,w,hw=>by
  have:os=[]:=by simpa using h.symm
  subst this;exact hw|i::l,os,h,a,w,hw=>by cases os with|nil=>simp at h|cons o os=>simp only[List.map_cons,List.cons.injEq]at h;unfold wpList at hw;simp only[wpOps,h.1];split at hw;rename_i hg;rw[if_pos hg];exact hw.imp (λx=>Oper.wp_mono (λa' w' h'=>kH l os h.2 a' w' h') x) id;rename_i hg;rw[if_neg hg];exact kH l os h.2 _ _ hw
def yw{L:List Oper} n(h:n<=L.length):(List.range n).map (λi=>L.toArray[i]?)=(L.take n).map some:=by apply b9;intro i;by_cases hi:i<n;simp[hi,aM hi,ag (show i<L.length by omega)];simp[hi];omega
def m3{c id} s r{L:List Oper}(e:c=.region id L.toArray false)(hr:List.range L.length=List.range s++r)(hs:s<=L.length)(h:wpList P L.toArray (Tp.uH λa' w'=>jk P Stop (b.at a' (.inRegion L.toArray r::k)) cs w') (L.take s) a w):jk P Stop (b.at a (.code c::k)) cs w:=by subst e;exact P8 (by simpa using hr) (kH _ _ (yw s hs) _ _ h)
def aei{c S id s o ops fo}(e:c=.region id ops true)(hm:P.follows .mixedOrders=true)(hl:Tp.sr ops (Tp.lastB s) ops.size (Array.replicate ops.size false) []=true)(hg:Tp.nj ops=true)(ho:ops[s]? =some o)(hf:Tp.oy ops s=fo) (h:wpAnyH P .any fo (Tp.uH λa' w'=>jk P Stop (b.at a' (.inRegion ops [s]::k)) cs w') S fo.size (Array.replicate fo.size false) a {w with drawn:=w.drawn+1}):jk P Stop (b.at a (.code c::k)) cs w:=by subst e;subst hf;exact ahU hm hl hg ho h
def nR{ops i r o}(ho:ops[i]? =some o) x:Go.Conc.served (mL (b.at a (.inRegion ops (i::r)::k)) cs) x=mL (b.at (a.put o.dst x) (.inRegion ops r::k)) cs:=by unfold Go.Conc.served;dsimp only;rw[Frame.finish_at,ho];rfl
def G0{ops i r o}(ho:ops[i]? =some o) x:ks (mL (b.at a (.inRegion ops (i::r)::k)) cs) x=mL (b.at (a.put o.dst x) (.inRegion ops r::k)) cs:=by unfold ks;dsimp only;rw[Frame.finish_at,ho];rfl
end
end Ph
namespace Rn
def Hi:Nat->Value->Bool
 |0,_=>false|n+1,v=>match v with
  |.bool _|.int _ _|.string _|.pointer none|.slice none _ _|.map none|.chan none|.nilFunc|.nilIface=>true
  |.agg a|.tuple a=>a.toList.all (Hi n)
  |_=>false
theorem Ca:∀n v,Hi n v=true->Clean v
 |0,_,h=>by cases h
 |n+1,v,h=>by
  have key:∀a:Array Value,a.toList.all (Hi n)=true->∀(i:Nat) x,a[i]? =some x->Clean x:=λa ha i x hx=>by rw[List.all_eq_true]at ha;exact Ca n x (ha x (by have:=Array.mem_of_getElem? hx;simpa using this))
  cases v with
  |bool b=>exact .bool b|int k n=>exact .int k n
  |string s=>exact .string s|pointer a=>cases a with|none=>exact .ptrN|some a=>cases h
  |slice a n c=>cases a with|none=>exact .lW n c|some a=>cases h
  |map a=>cases a with|none=>exact .Gh|some a=>cases h
  |chan a=>cases a with|none=>exact .xV|some a=>cases h
  |nilFunc=>exact .nilFunc|nilIface=>exact .nilIface
  |agg a=>exact .agg a (key a h)|tuple a=>exact .tuple a (key a h)
  |_=>cases h
section
variable(P:Program)(fl:List Nat)
def I4(t:TypeId):Bool:=match P.info? t with
 |some i=>match i.zero with
  |some z=>Hi 100 z
  |none=>true
 |none=>true
def yV{t}(h:I4 P t=true):o9 P t:=λi z hi hz=>by unfold I4 at h;rw[hi]at h;dsimp only at h;rw[hz]at h;exact Ca _ _ h
def Px(t:TypeId):Bool:=match P.underlying t with
 |some (.slice e)=>I4 P e
 |_=>true
def GY{t}(h:Px P t=true):∀e,P.underlying t=some (.slice e)->o9 P e:=λe he=>by unfold Px at h;rw[he]at h;exact yV P h
def QT(t:TypeId):Bool:=match P.underlying t with
 |some (.struct fs)=>fs.toList.all λf=>match P.info? f.type with
  |some i=>i.size != 0
  |none=>true
 |_=>true
def X7{t}(h:QT P t=true):Mg P t:=λfs f i n hu hf hi=>by unfold QT at h;rw[hu]at h;dsimp only at h;rw[List.all_eq_true]at h;have:=h f aHx;rw[hi]at this;simpa using this
def adS(s d:TypeId):Bool:=match P.underlying d,P.underlying s with
 |some (.int _),some (.int _)=>true
 |some .string,some (.slice e)=>match P.underlying e with
  |some (.int .u8)=>true
  |_=>false
 |_,_=>false
def adR{s d}(h:adS P s d=true):Un P s d:=by unfold adS at h;split at h;rename_i k j h1 h2;exact .inl ⟨k,j,h1,h2⟩;rename_i e h1 h2;split at h;rename_i h3;exact .inr ⟨h1,e,h2,h3⟩;cases h;cases h
def agF(t:TypeId):Bool:=match P.underlying t with
 |some (.map k e)=>(match P.underlying k with|some .string=>true|_=>false)&&I4 P e
 |_=>false
def Vr{t}(h:agF P t=true):Qc P t:=by unfold agF at h;split at h;rename_i k e h1;rw[Bool.and_eq_true]at h;obtain⟨h2,h3⟩:=h;split at h2;rename_i h4;exact⟨k,e,h1,h4,yV P h3⟩;cases h2;cases h
def RB(t:TypeId):Bool:=match P.underlying t with
 |some (.map _ _)=>true
 |_=>false
def YA{t}(h:RB P t=true):∀d,P.underlying t=some d->∃k e,d=.map k e:=λd hd=>by unfold RB at h;rw[hd]at h;cases d<;>first|exact⟨_,_,rfl⟩|cases h
def ary:BinOp->Bool
 |.add|.sub|.mul|.and|.or|.xor|.shl|.shr|.lss|.geq=>true|_=>false
def ahP{op}(h:ary op=true):Ap op:=by cases op<;>first|exact trivial|cases h
def aky(t:TypeId):Bool:=match P.underlying t with
 |some (.map _ _)|some (.chan _ _)=>false
 |_=>true
def agJ{t}(h:aky P t=true):∀d,P.underlying t=some d->(∀k e,d≠.map k e)/\∀a b,d≠.chan a b:=λd hd=>by unfold aky at h;rw[hd]at h;refine⟨λk e e1=>?_,λa b e1=>?_⟩<;>subst e1<;>cases h
def ame(t u:TypeId):Bool:=Px P t&&match P.underlying u with
 |some (.int _)=>false
 |some _=>true
 |none=>false
def ahW{t u}(h:ame P t u=true):Ws P t u:=by unfold ame at h;rw[Bool.and_eq_true]at h;refine⟨GY P h.1,?_⟩;have h2:=h.2;split at h2;cases h2;rename_i d iZ hd;exact⟨d,hd,λk e=>by subst e;exact iZ k rfl⟩;cases h2
def qB:Operand->Bool
 |.tmp _=>true|.const v=>Hi 100 v|.func f=>fl.contains f|.global _=>false
def vq{E}(hF:∀f∈fl,E.F f){x}(h:qB fl x=true):QX E x:=by cases x with|tmp t=>exact trivial|const v=>exact Ca _ _ h|func f=>exact hF f (by simpa[qB]using h)|global g=>cases h
def qoB:Option Operand->Bool
 |none=>true|some x=>qB fl x
def ad2(c:Call):Bool:=c.args.toList.all (qB fl)&&match c.callee with
 |.value f=>qB fl f
 |.builtin .len=>match c.argTypes.toList,c.args.toList with
  |[t],[_]=>aky P t
  |_,_=>false
 |.builtin .append=>match c.argTypes.toList,c.args.toList with
  |[t,u],[_,_]=>ame P t u
  |_,_=>false
 |_=>false
def Ml(o:Oper):Bool:=match o.op with
 |.move x|.assign x|.nilCheck x|.load _ x|.box _ x|.extract x _|.entry x=>qB fl x
 |.pick c a b=>qB fl c&&qB fl a&&qB fl b
 |.alloc e=>I4 P e
 |.build t l=>I4 P t&&l.toList.all λx=>qB fl x.2
 |.buildSlice t _ l=>Px P t&&l.toList.all λx=>qB fl x.2
 |.store _ a x=>qB fl a&&qB fl x
 |.binOp op _ x y _=>ary op&&qB fl x&&qB fl y
 |.convert s d x=>adS P s d&&qB fl x
 |.makeFunc (.func f) a c=>fl.contains f&&a.toList.all (qB fl)&&c.toList.all (qB fl)
 |.makeMap _ none=>true
 |.makeSlice t l c=>Px P t&&qB fl l&&qB fl c
 |.slice _ x a b c=>qB fl x&&qoB fl a&&qoB fl b&&qoB fl c
 |.fieldAddr t x _=>QT P t&&qB fl x
 |.indexAddr _ x i|.index _ x i=>qB fl x&&qB fl i
 |.lookup t x i _=>agF P t&&qB fl x&&qB fl i
 |.mapUpdate t m k x=>agF P t&&qB fl m&&qB fl k&&qB fl x
 |.range t x=>RB P t&&qB fl x
 |.next x s=> !s&&qB fl x
 |.call c=>ad2 P fl c
 |_=>false
def MI(o:Oper):Bool:=match o.op with
 |.send ch x=>qB fl ch&&qB fl x
 |.recv _ ch _=>qB fl ch
 |.call c=>(match c.callee with|.builtin .close=>true|_=>false)&&match c.args.toList with
  |[x]=>qB fl x
  |_=>false
 |.go c=>(match c.callee with|.value x=>qB fl x|_=>false)&&c.args.toList.isEmpty
 |_=>false
def aj5(o:Oper):Bool:=o.guard.isNone&& (Ml P fl o || MI fl o)
def rf:Code->Bool
 |.region _ ops _=>ops.toList.all (aj5 P fl)|.seq a b=>rf a&&rf b|.cond c a b=>qB fl c&&rf a&&rf b|.block _ b|.loop b=>rf b|.exit _|.ret|.skip|.refuse _=>true|_=>false
def ace{β a}{x:β}(h:a.toList=[x]):a=#[x]:=by apply Array.ext';simpa using h
def aiH{β a}{x y:β}(h:a.toList=[x,y]):a=#[x,y]:=by apply Array.ext';simpa using h
def LQ{E}(hF:∀f∈fl,E.F f){a:Array Operand}(h:a.toList.all (qB fl)=true):∀x∈a,QX E x:=λx hx=>by rw[List.all_eq_true]at h;exact vq fl hF (h x (by simpa using hx))
def JA{E}(hF:∀f∈fl,E.F f){a:Array (Nat×Operand)}(h:(a.toList.all λx=>qB fl x.2)=true):∀x∈a,QX E x.2:=λx hx=>by rw[List.all_eq_true]at h;exact vq fl hF (h x (by simpa using hx))
def RJ{E}(hF:∀f∈fl,E.F f){x}(h:qoB fl x=true):QO (QX E) x:=by cases x with|none=>exact trivial|some x=>exact vq fl hF h
def ad1{E}(hF:∀f∈fl,E.F f){c}(h:ad2 P fl c=true):Uo P (QX E) c:=by
 unfold ad2 at h;rw[Bool.and_eq_true]at h;obtain⟨h1,h2⟩:=h;refine⟨LQ fl hF h1,?_⟩;cases hc:c.callee with
 |value f=>rw[hc]at h2;exact vq fl hF h2|builtin b=>
  rw[hc]at h2;cases b with
  |len=>dsimp only at h2|-;split at h2;rename_i t x e1 e2;exact⟨t,x,ace e1,ace e2,agJ P h2⟩;cases h2
  |append=>dsimp only at h2|-;split at h2;rename_i t u x y e1 e2;exact⟨t,u,x,y,aiH e1,aiH e2,ahW P h2⟩;cases h2
  |_=>cases h2
 |invoke r n=>rw[hc]at h2;cases h2
def ako{E}(hF:∀f∈fl,E.F f){o}(h:Ml P fl o=true):ah4 P E (QX E) o:=by
 obtain⟨dst,op,type,pos,after,guard⟩:=o;have q:=λ{x:Operand} (h:qB fl x=true)=>vq (E:=E) fl hF h;cases op with
 |makeFunc fn a c=>cases fn with|func f=>simp only[Ml,Bool.and_eq_true]at h;exact⟨hF f (by simpa using h.1.1),LQ fl hF h.1.2,LQ fl hF h.2⟩|_=>cases h
 |makeMap t r=>cases r with|none=>exact trivial|some r=>cases h
 |call c=>exact ad1 P fl hF h|move x=>exact q h
 |assign x=>exact q h|nilCheck x=>exact q h
 |load t x=>exact q h|box t x=>exact q h
 |extract x i=>exact q h|entry x=>exact q h
 |pick c a b=>simp only[Ml,Bool.and_eq_true]at h;exact⟨q h.1.1,q h.1.2,q h.2⟩|alloc e=>exact yV P h
 |build t l=>simp only[Ml,Bool.and_eq_true]at h;exact⟨yV P h.1,JA fl hF h.2⟩|buildSlice t n l=>simp only[Ml,Bool.and_eq_true]at h;exact⟨GY P h.1,JA fl hF h.2⟩
 |store t a x=>simp only[Ml,Bool.and_eq_true]at h;exact⟨q h.1,q h.2⟩|binOp op t x y t2=>simp only[Ml,Bool.and_eq_true]at h;exact⟨ahP h.1.1,q h.1.2,q h.2⟩
 |convert s d x=>simp only[Ml,Bool.and_eq_true]at h;exact⟨adR P h.1,q h.2⟩|makeSlice t l c=>simp only[Ml,Bool.and_eq_true]at h;exact⟨GY P h.1.1,q h.1.2,q h.2⟩
 |slice t x a b c=>simp only[Ml,Bool.and_eq_true]at h;exact⟨q h.1.1.1,RJ fl hF h.1.1.2,RJ fl hF h.1.2,RJ fl hF h.2⟩|fieldAddr t x i=>simp only[Ml,Bool.and_eq_true]at h;exact⟨X7 P h.1,q h.2⟩
 |indexAddr t x i=>simp only[Ml,Bool.and_eq_true]at h;exact⟨q h.1,q h.2⟩|index t x i=>simp only[Ml,Bool.and_eq_true]at h;exact⟨q h.1,q h.2⟩
 |lookup t x i ok=>simp only[Ml,Bool.and_eq_true]at h;exact⟨Vr P h.1.1,q h.1.2,q h.2⟩|mapUpdate t m k x=>simp only[Ml,Bool.and_eq_true]at h;exact⟨Vr P h.1.1.1,q h.1.1.2,q h.1.2,q h.2⟩
 |range t x=>simp only[Ml,Bool.and_eq_true]at h;exact⟨YA P h.1,q h.2⟩|next x s=>simp only[Ml,Bool.and_eq_true]at h;exact⟨by simpa using h.1,q h.2⟩
 |_=>cases h
def aaV{E}(hF:∀f∈fl,E.F f){o}(h:MI fl o=true):aeq E o:=by
 obtain⟨dst,op,type,pos,after,guard⟩:=o;cases op with
 |send ch x=>simp only[MI,Bool.and_eq_true]at h;exact⟨vq fl hF h.1,vq fl hF h.2⟩|recv t ch ok=>exact vq fl hF h
 |call c=>simp only[MI,Bool.and_eq_true]at h;obtain⟨h1,h2⟩:=h;refine⟨?_,?_⟩;split at h1;rename_i e;exact e;cases h1;split at h2;rename_i x e;exact⟨x,ace e,vq fl hF h2⟩;cases h2
 |go c=>simp only[MI,Bool.and_eq_true]at h;obtain⟨h1,h2⟩:=h;refine⟨?_,by simpa using h2⟩;split at h1;rename_i x e;exact⟨x,e,vq fl hF h1⟩;cases h1
 |_=>cases h
theorem ns{E}(hF:∀f∈fl,E.F f):∀ {c:Code},rf P fl c=true->mO P E c
 |.region _ ops _,h=>λo ho=>by unfold rf at h;rw[List.all_eq_true]at h;have:=h o (by simpa using ho);unfold aj5 at this;rw[Bool.and_eq_true,dz]at this;exact⟨by simpa using this.1,this.2.imp (ako P fl hF) (aaV fl hF)⟩|.seq a b,h=>by unfold rf at h;rw[Bool.and_eq_true]at h;exact⟨ns hF h.1,ns hF h.2⟩|.cond c a b,h=>by unfold rf at h;rw[Bool.and_eq_true,Bool.and_eq_true]at h;exact⟨vq fl hF h.1.1,ns hF h.1.2,ns hF h.2⟩|.block _ b,h=>ns (c:=b) hF (by unfold rf at h;exact h)|.loop b,h=>ns (c:=b) hF (by unfold rf at h;exact h)|.exit _,_=>trivial|.ret,_=>trivial|.skip,_=>trivial|.refuse _,_=>trivial|.scope _,h=>by cases h
 |.label _,h=>by cases h
 |.goto _,h=>by cases h
 |.rangeFunc ..,h=>by cases h
end
end Rn
namespace Tp
section
variable{P:Program}
def TG k k2 k3 x y c sg:Pl P (Extern.RuntimeError.boundsError #[.agg #[.int k x,.int k2 y,.bool sg,.int k3 c]]):=by show Pl P (match(if sg&&x<0 then Extern.RuntimeError.boundsNegErrorFmts else Extern.RuntimeError.boundsErrorFmts)[c.toNat]? with|some fmt=>_|none=>_);split<;>exact trivial
def ZB a:Pl P (Extern.RuntimeError.boundsError a):=by
 obtain⟨l⟩:=a;rcases l with _|⟨x,_|⟨_,_⟩⟩;exact trivial;cases x with
 |agg b=>
  obtain⟨m⟩:=b;rcases m with _|⟨x,_|⟨y,_|⟨sg,_|⟨c,_|⟨_,_⟩⟩⟩⟩⟩;exact trivial;cases x<;>exact trivial;cases x<;>first|exact trivial|(cases y<;>exact trivial)
  cases x<;>first|exact trivial|(cases y<;>first|exact trivial|(cases sg<;>exact trivial))
  cases x with
  |int k x=>cases y with
   |int k2 y=>cases sg with
    |bool sg=>cases c with|int k3 c=>exact TG k k2 k3 x y c sg|_=>exact trivial
    |_=>exact trivial
   |_=>exact trivial
  |_=>exact trivial
  cases x<;>first|exact trivial|(cases y<;>first|exact trivial|(cases sg<;>first|exact trivial|(cases c<;>exact trivial)))
 |_=>exact trivial
 cases x<;>exact trivial
def qp v:Pl P (Extern.RuntimeError.described v):=by unfold Extern.RuntimeError.described;refine ud ?_;split;exact trivial;exact ia (ub _) λ_=>ia (iN _) λ_=>trivial;exact trivial
def Lz i:Pl P (Extern.RuntimeError.pkgpathOf i):=by unfold Extern.RuntimeError.pkgpathOf;split;exact trivial;refine ia (iN _) λ_=>?_;split<;>exact trivial;all_goals exact trivial
def ZC a:Pl P (Extern.RuntimeError.typeAssertionError a):=by
 unfold Extern.RuntimeError.typeAssertionError;refine ia (qD _) λa=>ia (wK _ _) λx=>ia (qp _) λd=>?_;refine ia (wK _ _) λx=>ia (qp _) λd=>ia (wK _ _) λx=>ia (qp _) λd=>?_
 (repeat' (first|exact trivial|with_reducible apply gU|with_reducible apply Lz|with_reducible apply rN|with_reducible exact wK _ _|refine ia ?_ (λ_=>?_)|with_reducible apply lY|split|intro _|dsimp only))
def GX t:Pl P (Extern.RuntimeError.unhashableTypeError #[.agg #[t]]):=by show Pl P (Extern.RuntimeError.described t >>= λx=>match x with|some t=>Extern.RuntimeError.text ("hash of unhashable type: " ++t.str)|_=>runtimePanic .nilDeref);refine ia (qp _) λx=>?_;split;exact trivial;exact gU _
def IU a:Pl P (Extern.RuntimeError.unhashableTypeError a):=by
 obtain⟨l⟩:=a;rcases l with _|⟨x,_|⟨_,_⟩⟩;exact trivial;cases x with
 |agg b=>obtain⟨m⟩:=b;rcases m with _|⟨x,_|⟨_,_⟩⟩;exact trivial;exact GX x;exact trivial
 |_=>exact trivial
 cases x<;>exact trivial
def aga:∀p∈Extern.RuntimeError.rows,∀args,Pl P (p.2 args):=by intro p hp args;unfold Extern.RuntimeError.rows at hp;simp only[List.mem_cons,List.not_mem_nil,or_false]at hp;rcases hp with rfl|rfl|rfl|rfl|rfl|rfl|rfl|rfl|rfl|rfl|rfl|rfl|rfl|rfl|rfl;exact ia (rN _) λ_=>trivial;exact ia (rN _) λ_=>trivial;exact ia (FO _) λ_=>ia (rN _) λ_=>trivial;exact ia (FO _) λ_=>ia (ni _) λ_=>trivial;exact ZB _;exact ZC _;exact trivial;exact IU _;all_goals exact trivial
def agN:∀e,Extern.ReflectliteType.rows.lookup "(internal/abi.Kind).String" =some e->∀args,Pl P (e args):=by intro e he args;simp[Extern.ReflectliteType.rows,List.lookup]at he;subst he;exact ia (ni _) λ_=>trivial
end
def Eh:List String:=Extern.RuntimeError.rows.map (·.1)
def Yg:∀n∈Eh,Extern.allRows.lookup n=Extern.RuntimeError.rows.lookup n/\(Extern.allGenericRows.lookup n).isNone=true/\(Extern.allTypedRows.lookup n).isNone=true/\(Extern.RuntimeError.rows.lookup n).isSome=true:=by intro n hn;unfold Eh Extern.RuntimeError.rows at hn;simp only[List.map_cons,bP,List.mem_cons,List.not_mem_nil,or_false]at hn;rcases hn with rfl|rfl|rfl|rfl|rfl|rfl|rfl|rfl|rfl|rfl|rfl|rfl|rfl|rfl|rfl;all_goals (refine⟨?_,?_,?_,?_⟩<;>kernel_rfl)
def Oq:Extern.allRows.lookup "(internal/abi.Kind).String" =Extern.ReflectliteType.rows.lookup "(internal/abi.Kind).String" /\(Extern.allGenericRows.lookup "(internal/abi.Kind).String").isNone=true/\(Extern.allTypedRows.lookup "(internal/abi.Kind).String").isNone=true/\(Extern.ReflectliteType.rows.lookup "(internal/abi.Kind).String").isSome=true:=by refine⟨?_,?_,?_,?_⟩<;>kernel_rfl
def V5{fn n e0}(hn:fn.name=n)(h1:Extern.allGenericRows.lookup n=none)(h2:Extern.allTypedRows.lookup n=none)(h3:Extern.allRows.lookup n=some e0):Extern.find fn=some e0:=by unfold Extern.find;simp only[hn,h1,h2,h3];rfl
def arx(fn:Func):Bool:= !(fn.name== "runtime.NumGoroutine")&& (!fn.body.isNone ||((Extern.findNext fn).isNone&& ((Extern.find fn).isNone || Eh.contains fn.name || fn.name== "(internal/abi.Kind).String")))
theorem mI{β}:∀ {l:List (String×β)}{n:String}{e:β},l.lookup n=some e->∃m,(m,e)∈l
 |[],_,_,h=>by cases h
 |(m,b)::l,n,e,h=>by rw[dn]at h;split at h;cases h;exact⟨m,aH⟩;obtain⟨m',h'⟩:=mI h;exact⟨m',aF _ h'⟩
def ZN{P}(h:P.funcs.toList.all arx=true):iT P:=by
 intro f fn hf;rw[List.all_eq_true]at h;have:=h fn aHx;unfold arx at this;rw[Bool.and_eq_true,dz,Bool.and_eq_true,dz,dz]at this;obtain⟨h1,h2⟩:=this;refine⟨by simpa using h1,?_⟩;rcases h2 with h2|⟨h2,h3⟩;exact .inl aFR;refine .inr ⟨by simpa using h2,λe he args=>?_⟩;rcases h3 with(h3|h3)|h3;rw[he]at h3;cases h3;have hm:fn.name∈Eh:=by simpa using h3
 obtain⟨a1,a2,a3,a4⟩:=Yg _ hm;cases hl:Extern.RuntimeError.rows.lookup fn.name with
 |none=>rw[hl]at a4;cases a4
 |some e0=>have:=V5 (fn:=fn) rfl (by simpa using a2) (by simpa using a3) (a1.trans hl);rw[he]at this;cases this;obtain⟨m,BL⟩:=mI hl;exact aga _ BL args
 have hn:fn.name= "(internal/abi.Kind).String" :=by simpa using h3
 obtain⟨a1,a2,a3,a4⟩:=Oq;cases hl:Extern.ReflectliteType.rows.lookup "(internal/abi.Kind).String" with
 |none=>rw[hl]at a4;cases a4
 |some e0=>have:=V5 (fn:=fn) hn (by simpa using a2) (by simpa using a3) (a1.trans hl);rw[he]at this;cases this;exact agN _ hl args
end Tp
namespace Tp
def iy:iT Tryz.prog:=Tp.ZN κ
end Tp
namespace Tp
open Go.Conc
open Go.ConcN (sumTo upd sumTo_upd upd_ne upd_same)
def AtRet(P:Program)(R:Value->World->Prop)(g:Goroutine)(w:World):Prop:=g.callers=[]/\P.inits.idxOf? g.frame.fn=none/\∃v,g.frame.leaving P w (.returned v)/\R v w
def Ky{P fn tmps v w}(h:(results fn tmps).run P w=.ok v w):(∀τ n,(results fn tmps).run P (w.re τ n)=.ok v (w.re τ n))/\∃es,sx es/\(∀x,deafBehind x es=x)/\∀τ n,(results fn tmps).runT P (w.re τ n) #[]=(.ok v (w.re τ n),es):=by
 have h0:=h;rcases(FG (P:=P) fn tmps).run w #[]with⟨k,i⟩|⟨u,w',nM,hh⟩;have hr:(results fn tmps).runT P w #[]=(.ok v w,((results fn tmps).runT P w #[]).2):=by rw[Sem.runT_eq,h]
 have hk:k=0:=by have:=i.drawn;rw[hr]at this;have e:w.drawn=w.drawn+k:=this;omega
 subst hk;have hs:=λτ n=>i.same τ n (λ_ hh=>absurd hh (eg _));rw[hr]at hs;refine⟨λτ n=>?_,_,λe he m hm=>?_,λx=>?_,λτ n=>hs τ n⟩;have:=hs τ n;rw[Sem.runT_eq]at this;exact(Prod.mk.inj this).1;rcases i.low e (by rw[hr];exact he)with h1|h1;simp at h1;unfold uD at h1;rw[hm]at h1;exact h1;have:=i.bal (by rw[hr];trivial) x rfl;rw[hr]at this;exact this;exfalso;have hr:((results fn tmps).runT P w #[]).1=.ok v w:=by rw[Sem.runT_eq,h]
 rw[hh]at hr;cases hr
def SJ{P}{fr:Frame}{w v}(h:fr.leaving P w (.returned v)) τ n:fr.leaving P (w.re τ n) (.returned v):=by obtain⟨h1,h2,h3,fn,h4,h5⟩:=h;exact⟨h1,h2,h3,fn,h4,(Ky h5).1 τ n⟩
def YX{P g w v}(hr:g.status=.running)(hd:g.dying=none)(hc:g.callers=[])(hi:P.inits.idxOf? g.frame.fn=none)(h:g.frame.leaving P w (.returned v)):∃es,(∀x,deafBehind x es=x)/\stepG P true g w=.ended (.done v) w es:=by
 obtain⟨fr,cs,st,dy,off⟩:=g;dsimp only at hr hd hc hi h;subst hr;subst hd;subst hc;obtain⟨hm,hdf,hk,fn,hf,OF⟩:=h;obtain⟨_,es,h1,h2,h3⟩:=Ky OF;have h3:=h3 w.tape w.drawn;refine⟨seen P fr.fn es,λx=>(lJ P fr.fn h1 x).trans (h2 x),?_⟩;have e1:stepG P true ⟨fr,[],.running,none,off⟩ w=unwind P true fr [] none w:=by unfold stepG;simp only[hm]
 rw[e1];unfold unwind;have h3':(results fn fr.tmps).runT P w #[]=(.ok v w,es):=h3;simp only[hm,hdf,hf,h3'];unfold doReturn;simp only[hk,hi];simp[GStep.after]
def adz{P R}(hR:∀v w d,R v w->R v (w.at d)){a w}(h:Ih P (λg u=>Fit g/\AtRet P R g u) a w):∃N last o w' t',runNT P (N+1) (solo a w) #[]=(.ended o w',t')/\runN P N (solo a w)=.next last/\step P last=.ended o w'/\Go.Conc.Good P R last o w' t':=by
 obtain⟨N,gs,a',w',sl,t,q,jm,h0,hL,hP,ahh,hS⟩:=h #[a] none #[] (λ_=>0) rfl (leavers_one P a) YF;have hr:a'.status=.running:=ahh.1.run;have key:∀(M:Nat)(gs:Array Goroutine)(sl:Option (Nat×Nat))(t:Trace)(q:Nat->Nat)(e:Nat),sumTo gs.size q<=M->gs[0]? =some a'->Leavers P t gs q->ny t->
   ∃N last o w2 t',runNT P (N+1) (crowd gs (w'.at e) sl) t=(.ended o w2,t')/\runN P N (crowd gs (w'.at e) sl)=.next last/\step P last=.ended o w2/\Go.Conc.Good P R last o w2 t':=by
  have main:∀(gs:Array Goroutine)(sl vh:Option (Nat×Nat))(t:Trace)(q:Nat->Nat)(e d:Nat),gs[0]? =some a'->Leavers P t gs q->ny t->stepT P (crowd gs (w'.at e) sl)=runT P (crowd gs ((w'.at e).at d) vh) 0->
    ∃N last o w2 t',runNT P (N+1) (crowd gs (w'.at e) sl) t=(.ended o w2,t')/\runN P N (crowd gs (w'.at e) sl)=.next last/\step P last=.ended o w2/\Go.Conc.Good P R last o w2 t':=by
   intro gs sl vh t q e d h0 hL hP ig;obtain⟨hc,hi,v,hl,hv⟩:=hS;have Eo:a'.frame.leaving P ((w'.at e).at d) (.returned v):=SJ hl w'.tape d;obtain⟨es,IL,ahj⟩:=YX hr ahh.2 hc hi Eo;have acJ:=runT_many_ended (P:=P) (sl:=vh) (i:=0) h0 (show stepG P (0==0) a' ((w'.at e).at d)=_ from ahj);have iB:∀op∈MemOp.ofEvents 0 a'.frame.fn a'.frame.place es,op.g=0:=λop jy=>by obtain⟨e,_,rfl⟩:=Go.Conc.mem_ofEvents jy;rfl
   have Qp:=hP.app0 iB (po IL t);have hs:stepT P (crowd gs (w'.at e) sl)=(.ended (.done v) ((w'.at e).at d),MemOp.ofEvents 0 a'.frame.fn a'.frame.place es):=ig.trans acJ;refine⟨0,crowd gs (w'.at e) sl,.done v,(w'.at e).at d,t++MemOp.ofEvents 0 a'.frame.fn a'.frame.place es,?_,rfl,?_,v,rfl,hR _ _ _ (hR _ _ _ hv),Qp.clean,Qp.over,⟨λx hx=>?_,rfl⟩,λj x hx hj=>?_⟩
   ·simp only[runNT,hs]
   ·show(stepT P _).1=_;rw[hs]
   ·obtain⟨j,hj⟩:=List.mem_iff_getElem?.1 hx;rw[cM]at hj;exact⟨_,(hL.old (1+j) x ω (by simpa[crowd]using hj)).leaves⟩
   ·have hq:=hL.old j x ω hx
    refine⟨q j,?_⟩;have e:(t++MemOp.ofEvents 0 a'.frame.fn a'.frame.place es).deaf j (t++MemOp.ofEvents 0 a'.frame.fn a'.frame.place es).size=Deaf t j:=
     Deaf_other t (g:=j) (g':=0) ω _ iB
    rw[e];exact hq.hears _
  intro M;induction M with
  |zero=>
   intro gs sl t q e hM h0 hL hP;obtain⟨i,g,d,vh,hi,hg,ig⟩:=crowd_pick (P:=P) (w:=w'.at e) (sl:=sl) (xb hL h0 hr) ⟨0,a',h0,hr⟩;rcases cY i with rfl|pT
   ·exact main gs sl vh t q e d h0 hL hP ig
   ·obtain⟨gs',ops,q',c1,c2,c3,c4,c5,c6⟩:=slip (w:=(w'.at e).at d) (sl:=vh) hL hP h0 hr hi pT hg;omega
  |succ M ih=>
   intro gs sl t q e hM h0 hL hP;obtain⟨i,g,d,vh,hi,hg,ig⟩:=crowd_pick (P:=P) (w:=w'.at e) (sl:=sl) (xb hL h0 hr) ⟨0,a',h0,hr⟩;rcases cY i with rfl|pT
   ·exact main gs sl vh t q e d h0 hL hP ig
   ·obtain⟨gs',ops,q',c1,c2,c3,c4,c5,c6⟩:=slip (w:=(w'.at e).at d) (sl:=vh) hL hP h0 hr hi pT hg;obtain⟨N,last,o,w2,t2,r1,r2,r3,r4⟩:=ih gs' vh (t++ops) q' d ω c2 c4 c5
    have Gx:stepT P (crowd gs (w'.at e) sl)=(.next (crowd gs' (w'.at d) vh),ops):=ig.trans c1
    refine⟨N+1,last,o,w2,t2,?_,?_,r3,r4⟩
    ·rw[runNT];simp only[Gx];exact r1
    ·rw[runN];have:step P (crowd gs (w'.at e) sl)=.next (crowd gs' (w'.at d) vh):=by show(stepT P _).1=_;rw[Gx]
     simp only[this];exact r2
 obtain⟨N2,last,o,w2,t2,r1,r2,r3,r4⟩:=key _ gs sl t q w'.drawn ν h0 hL hP;have aiN:runNT P N (solo a w) #[]=(.next (crowd gs (w'.at w'.drawn) sl),t):=jm;have apu:runN P N (solo a w)=.next (crowd gs (w'.at w'.drawn) sl):=by rw[<-runNT_fst P N _ #[],aiN]
 refine⟨N+N2,last,o,w2,t2,?_,?_,r3,r4⟩;rw[aZ,runNT_add,aiN];exact r1;rw[runN_add,apu];exact r2
end Tp
namespace Tp
open Go.Conc
def Le(s t:Nat)(l:List Nat):Bool:=lastB t l&&lastB s l.dropLast&&s != t
def YZ{s t l}(h:Le s t l=true):∃l1,l=l1++[s,t]/\s∉l1/\t∉l1++[s]:=by unfold Le at h;simp only[Bool.and_eq_true,bne_iff_ne,ne_eq]at h;obtain⟨⟨h1,h2⟩,h3⟩:=h;obtain⟨l1,rfl,hn1⟩:=Gm h1;rw[List.dropLast_concat]at h2;obtain⟨l2,rfl,hn2⟩:=Gm h2;exact⟨l2,by rw[aL];rfl,hn2,hn1⟩
section
variable{P:Program}{ops:Array Oper}{Q:Exit->Act->World->Prop}
def No{S id s t o o'}(hm:P.follows .mixedOrders=true)(hl:sr ops (Le s t) ops.size (Array.replicate ops.size false) []=true)(hg:nj ops=true)(Ti:nj (oy ops s)=true)(ho:ops[s]? =some o)(ho':(oy ops s)[t]? =some o')(hQ:∀e a w,Q e a w->e=.normal){a w} (h:wpAnyH P .any (oy (oy ops s) t) Q S (oy (oy ops s) t).size (Array.replicate (oy (oy ops s) t).size false) a {w with drawn:=w.drawn+1}) (b:Frame) k cs:∃a' w',Q .normal a' w'/\Steps P (lone (b.at a (.code (.region id ops true)::k)) cs w) (lone (b.at a' (.inRegion ops [s,t]::k)) cs w'):=by have h1:=ED hm h (w.tape w.drawn (.order b.fn id));rw[yu hm (BV t) (yP t),yu hm (BV s) (yP s)]at h1;obtain⟨l,hls,hs,ht⟩:=YZ (Ji hm hl (w.tape w.drawn (.order b.fn id)));have ig:=step_region_draw (P:=P) (b:=b) (a:=a) (k:=k) (cs:=cs) (w:=w) (ops:=ops) (id:=id);rw[hls]at h1 ig;rw[show l++[s,t]=(l++[s])++[t]by rw[aL];rfl]at h1;have h2:=tN (vG hg) ho hQ l a _ hs (tN (vG Ti) ho' hQ (l++[s]) a _ ht h1);obtain⟨a',w',hq,h3⟩:=sY hQ l a _ h2 [s,t] b k cs;exact⟨a',w',hq,.head ig h3⟩
end
end Tp
namespace Ph
open Go.Conc
open Tp (jk iQ iw kY)
section
variable{P:Program}{Stop:Goroutine->World->Prop}{b:Frame}{a:Act}{k:List Item}{cs:List Frame}{w w':World}
def Kd{c S id s t o o' ops fo}(e:c=.region id ops true)(hm:P.follows .mixedOrders=true)(hl:Tp.sr ops (Tp.Le s t) ops.size (Array.replicate ops.size false) []=true)(hg:Tp.nj ops=true)(Ti:Tp.nj (Tp.oy ops s)=true)(ho:ops[s]? =some o)(ho':(Tp.oy ops s)[t]? =some o')(hf:Tp.oy (Tp.oy ops s) t=fo) (h:wpAnyH P .any fo (Tp.uH λa' w'=>jk P Stop (b.at a' (.inRegion ops [s,t]::k)) cs w') S fo.size (Array.replicate fo.size false) a {w with drawn:=w.drawn+1}):jk P Stop (b.at a (.code c::k)) cs w:=by subst e;subst hf;obtain⟨a',w',q,hs⟩:=Tp.No (id:=id) hm hl hg Ti ho ho' Tp.sZ h b k cs;exact kY hs q
def nt{f fn c cl}{R:Value->World->Prop}(hf:P.funcs[f]? =some fn)(hb:b.fn=f)(hk:b.kind=.normal)(h:c.wp P (bodyPost P fn λ|.returned v,w=>R v w|_,_=>False) a w) (K:∀v w',R v w'->jk P Stop (cl.finish v) cs w'):jk P Stop (b.at a [.code c]) (cl::cs) w:=by
 obtain⟨e,a',w',q,r⟩:=h b [] (cl::cs);subst hb;have ahj:∀(fr:Frame),fr.fn=b.fn->fr.kind=.normal->fr.mode=.returning->fr.defers=[]->∀v,(results fn fr.tmps).run P w'=.ok v w'->R v w'->jk P Stop fr (cl::cs) w':=λfr h1 h2 h3 h4 v hv hR=>iQ (step_leave_returned ⟨h3,h4,h2,fn,by rw[h1];exact hf,hv⟩) (K v w' hR);cases e with
 |normal=>obtain⟨hd,v,hv,hR⟩:=q;exact kY r (iQ step_end (ahj _ rfl hk rfl hd v hv hR))
 |ret=>obtain⟨hd,v,hv,hR⟩:=q;obtain⟨todo,hr⟩:=r;exact kY hr (ahj _ rfl hk rfl hd v hv hR)
 |exit id=>exact q.elim|goto l=>exact q.elim
 |panic ch=>exact q.2.elim|outgrown=>exact q.elim
end
end Ph
