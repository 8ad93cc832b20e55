import Derived.Test.YtlpcjiollnnmgabGreatDoorM07
import Derived.Sort.Walk0
import Derived.Maps.Ext
import Derived.DeepKeys4
set_option maxRecDepth 100000
set_option maxHeartbeats 8000000
set_option linter.all false
namespace Go.Proofs.YtlpcjiollnnmgabGreatDoor
open Go.Proofs.Tryz
section
open iz
open Go.RowKit
def wt(l:List (List UInt8)):List Value:=l.map λs=>Value.string (str s)
def nO l:(wt l).length=l.length:=by simp[wt]
def kh l:∀u∈wt l,u.oneCell'=true:=by exact t083
def u5 l i(h:i<l.length):(wt l)[i]? =some (.string (str (l.getD i []))):=by unfold wt;rw[aE,ab,ag h];rfl
def kZ l s:wt l++[.string (str s)]=wt (l++[s]):=by simp[wt]
def mZ:(prog.info? 9).map (λi=>(i.zero,i.size,i.bytes))=some (some (.string ByteArray.empty),1,16):=κ
end
def t0132{p:Prop}(h:p:=by rintro(h|h|h);exact .inr (.inl h);exact .inl h;exact .inr (.inr h)):p:=h
section
namespace Pl
abbrev B:=List UInt8
def vJ(a:B):¬a<a:=List.lt_irrefl a
def aca{a b c:B}(h:a<b)(k:b<c):a<c:=List.lt_trans h k
def ab9(a b:B):a<b∨a=b∨b<a:=by by_cases h:a<b;exact .inl h;by_cases k:b<a;exact .inr (.inr k);exact .inr (.inl (List.le_antisymm (List.not_lt.1 k) (List.not_lt.1 h)))
variable(key:B->B)
def at'(id:B):List B->Nat×Bool
 |[]=>(0,false)|x::l=>if key x<id then((at' id l).1+1,(at' id l).2)else(0,key x==id)
def Up(l:List B):Prop:=l.Pairwise λx y=>key x<key y
def ins(t:B)(l:List B):List B:=l.take (at' key (key t) l).1++[t]++l.drop (at' key (key t) l).1
def del(id:B)(l:List B):List B:=if(at' key id l).2 then l.take (at' key id l).1++l.drop ((at' key id l).1+1)else l
theorem aed id:∀l,(at' key id l).1<=l.length
 |[]=>ν|x::l=>by have:=aed id l;rw[at'];split;simp;omega;simp
theorem ajh id:∀l,(at' key id l).2=true->(at' key id l).1<l.length
 |[],h=>by simp[at']at h|x::l,h=>by rw[at']at h|-;by_cases hx:key x<id;rw[if_pos hx]at h|-;have:=ajh id l h;simp;omega;rw[if_neg hx];simp
theorem at_mem id:∀l,Up key l->((at' key id l).2=true↔ ∃t∈l,key t=id)
 |[],_=>by simp[at']|x::l,h=>by obtain⟨h1,h2⟩:=bI.1 h;rw[at'];by_cases hx:key x<id;rw[if_pos hx];dsimp only;rw[at_mem id l h2];constructor;rintro⟨t,ht,e⟩;exact⟨t,aF _ ht,e⟩;rintro⟨t,ht,e⟩;rcases List.mem_cons.1 ht with rfl|ht;rw[e]at hx;exact absurd hx (vJ _);exact⟨t,ht,e⟩;rw[if_neg hx];dsimp only;rw[beq_iff_eq];constructor;intro e;exact⟨x,aH,e⟩;rintro⟨t,ht,e⟩;rcases List.mem_cons.1 ht with rfl|ht;exact e;exact absurd (e▸h1 t ht) hx
def Vx t:ins key t []=[t]:=rfl
def zM t x l:ins key t (x::l)=if key x<key t then x::ins key t l else t::x::l:=by unfold ins;rw[at'];split;simp;simp
theorem La t:∀l x,x∈ins key t l↔x=t∨x∈l
 |[],x=>by simp[Vx]|y::l,x=>by rw[zM];split;rw[List.mem_cons,La t l,List.mem_cons];constructor;exact t0132;exact t0132;rw[List.mem_cons]
theorem Vy t:∀l,(ins key t l).length=l.length+1
 |[]=>rfl|x::l=>by rw[zM];split;simp[Vy t l];simp
theorem aco t:∀l,Up key l->(at' key (key t) l).2=false->Up key (ins key t l)
 |[],_,_=>by rw[Vx];exact List.pairwise_singleton _ _|x::l,h,hn=>by
  obtain⟨h1,h2⟩:=bI.1 h;rw[zM];rw[at']at hn;by_cases hx:key x<key t;rw[if_pos hx]at hn|-;refine bI.2 ⟨λy hy=>?_,aco t l h2 hn⟩;rcases(La key t l y).1 hy with rfl|hy;exact hx;exact h1 y hy;rw[if_neg hx]at hn|-;have iZ:key x≠key t:=by simpa using hn
  have gV:key t<key x:=by rcases ab9 (key x) (key t)with h|h|h;exact absurd h hx;exact absurd h iZ;exact h
  refine bI.2 ⟨λy hy=>?_,h⟩;rcases List.mem_cons.1 hy with rfl|hy;exact gV;exact aca gV (h1 y hy)
def adM id x l:del key id (x::l)=if key x<id then x::del key id l else if key x=id then l else x::l:=by unfold del;rw[at'];by_cases hx:key x<id;rw[if_pos hx,if_pos hx];dsimp only;cases(at' key id l).2<;>simp;rw[if_neg hx,if_neg hx];by_cases he:key x=id;rw[if_pos he];simp[he];rw[if_neg he];simp[he]
def Wc id l:(del key id l).Sublist l:=by
 unfold del;split;have h:l.take (at' key id l).1++l.drop (at' key id l).1=l:=List.take_append_drop _ _;conv=>rhs;rw[<-h]
 refine List.Sublist.append (List.Sublist.refl _) ?_;rw[<-dI];exact List.drop_sublist _ _;exact List.Sublist.refl _
def al6 id l(h:Up key l):Up key (del key id l):=List.Pairwise.sublist (Wc key id l) h
def agO l(h:Up key l):(l.map key).Pairwise (· < ·):=List.pairwise_map.2 h
end Pl
end
section
open iz
open Go.RowKit
namespace Mp
abbrev B:=List UInt8
def eqB:List Value->List UInt8->Bool
 |[],[]=>true|.int .u8 x::l,y::m=>decide (x=Y y)&&eqB l m|_,_=>false
theorem Pw:∀m,eqB (w8 m) m=true
 |[]=>rfl|y::m=>by show(decide (Y y=Y y)&&eqB (w8 m) m)=true;rw[Pw m];simp
theorem TH:∀l m,eqB l m=true->l=w8 m
 |[],[],_=>rfl|[],_::_,h=>by simp[eqB]at h|v::l,[],h=>by cases v<;>simp[eqB]at h
 |v::l,y::m,h=>by
  cases v<;>try(simp[eqB]at h;done)
  rename_i k x;cases k<;>try(simp[eqB]at h;done)
  simp only[eqB,Bool.and_eq_true,decide_eq_true_eq]at h;obtain⟨rfl,h2⟩:=h;rw[TH l m h2];rfl
def AH(v:Value):Option (DataW Unit×List MemPlace):=match v with
 |.agg a=>match a.toList with
  |.string s::l=>if eqB l (Mk.gC s.data.toList)then some (.lit (.string s.data.toList),[])else if s.data.toList.isEmpty&&eqB l (List.replicate 32 0)then some (.nil,[])else none
  |_=>none
 |_=>none
def aa2 t:(str t).data.toList=t:=by unfold str;simp
def ajL t:AH (Mi t)=some (.lit (.string t),[]):=by unfold AH Mi gD;simp only[aa2,Pw,if_true]
def Cn s:str s.data.toList=s:=by unfold str;simp
def Ko{v z}(h:AH v=some z):(∃t,v=Mi t/\z=(.lit (.string t),[]))∨(v=.agg j1.toArray/\z=(.nil,[])):=by
 unfold AH at h;cases v with
 |agg a=>
 dsimp only at h;split at h;rename_i s l hl;split at h;rename_i he;left;refine⟨s.data.toList,?_,(aA h).symm⟩;unfold Mi gD;rw[Cn,<-TH _ _ he,<-hl];split at h;rename_i he;simp only[Bool.and_eq_true,List.isEmpty_iff]at he;right;refine⟨?_,(aA h).symm⟩;have h1:s=str []:=by rw[<-Cn s,he.1]
 have h2:a.toList=j1:=by rw[hl,TH _ _ he.2,h1];rfl
 rw[<-h2];cases h;cases h
 |_=>cases h
def IA d:keyBytes (lits d)=d:=by
 unfold keyBytes lits;induction d with
 |nil=>rfl|cons x l ih=>
 rw[List.map_cons,List.flatMap_cons,ih];have:Lit.keyBytes (.int .u8 (Y x))=[x]:=by
  have e:(Y x % 2^IntKind.u8.bits).toNat=x.toNat:=by have:x.toNat<256:=x.toNat_lt;unfold Y;simp[IntKind.bits];omega
  show bytesBE (IntKind.u8.bits/8) (Y x % 2^IntKind.u8.bits).toNat=[x];rw[e];simp[bytesBE,bytesLE,IntKind.bits]
 rw[this];rfl
def BI d(h:d.length=32):keyOf prog 76 (.agg (w8 d).toArray)=some (.string d):=by obtain⟨n,hn⟩:∃n,prog.types.size+1=n+2:=⟨prog.types.size-1,by kernel_rfl⟩;unfold keyOf;simp only[fA,BQ d h,show prog.keyType 76=true by kernel_rfl,Bool.and_self,if_true];rw[hn,show(Value.agg (w8 d).toArray).cells.toList=w8 d by simp[Value.cells],yI n d h];simp only[Option.map_some,IA]
def vU(P:List B):List (Lit×DataW Unit):=P.map λt=>(Lit.string (Mk.gC t),DataW.lit (.string t))
def D(P:List B):DataW Unit:=.map (vU P)
theorem Hm:∀a b,bytesBefore a b=decide (a<b)
 |[],[]=>by simp[bytesBefore]|[],_::_=>by simp[bytesBefore]|_::_,[]=>by simp[bytesBefore]|a::r,b::s=>by rw[bytesBefore,Hm r s,cQ];simp[List.cons_lt_cons_iff]
def sK a b:(Lit.string a).sameKey (.string b)=(a==b):=by simp[Lit.sameKey]
def Pf P id(h:Pl.Up Mk.gC P):Maps.has (D P) (.string id)=(Pl.at' Mk.gC id P).2:=by rw[cQ,Pl.at_mem Mk.gC id P h];show(vU P).any _=true↔_;simp[vU,sK]
def AS P:Maps.size (D P)=P.length:=by show(vU P).length=_;simp[vU]
theorem Ou t:∀P,(∀y∈P,Mk.gC y≠Mk.gC t)->DataW.insert (Lit.string (Mk.gC t),DataW.lit (.string t)) (vU P)=vU (Pl.ins Mk.gC t P)
 |[],_=>rfl|y::l,h=>by have ih:=Ou t l λz hz=>h z (aF _ hz);have hy:=h y aH;rw[Pl.zM];show(if(Lit.string (Mk.gC t)).before (.string (Mk.gC y))then _ else _::DataW.insert _ (vU l))=_;rw[ih];have hb:(Lit.string (Mk.gC t)).before (.string (Mk.gC y))=decide (Mk.gC t<Mk.gC y):=Hm _ _;rw[hb];rcases Pl.ab9 (Mk.gC y) (Mk.gC t)with h1|h1|h1;have h2:¬Mk.gC t<Mk.gC y:=λh3=>Pl.vJ _ (Pl.aca h1 h3);rw[if_pos h1,if_neg aFR];rfl;exact absurd h1 hy;have h2:¬Mk.gC y<Mk.gC t:=λh3=>Pl.vJ _ (Pl.aca h1 h3);rw[if_neg h2,if_pos aFV];rfl
def abD t P(h:Pl.Up Mk.gC P)(hn:(Pl.at' Mk.gC (Mk.gC t) P).2=false):(D P).put (.string (Mk.gC t)) (.lit (.string t))=D (Pl.ins Mk.gC t P):=by
 have iZ:∀y∈P,Mk.gC y≠Mk.gC t:=λy hy e=>by rw[(Pl.at_mem Mk.gC (Mk.gC t) P h).2 ⟨y,hy,e⟩]at hn;cases hn
 show DataW.map (DataW.insert _ ((vU P).filter _))=_;rw[dQ.2 λp hp=>?_,Ou t P iZ];· rfl
 obtain⟨y,hy,rfl⟩:=List.mem_map.1 hp;simp[sK,iZ y hy]
theorem GS id:∀P,Pl.Up Mk.gC P->P.filter (λy=> !(Mk.gC y==id))=Pl.del Mk.gC id P
 |[],_=>rfl|y::l,h=>by
  obtain⟨h1,h2⟩:=bI.1 h;rw[Pl.adM];by_cases hy:Mk.gC y<id;have iZ:Mk.gC y≠id:=λe=>by rw[e]at hy;exact Pl.vJ _ hy
  rw[if_pos hy,List.filter_cons_of_pos (by simpa using iZ),GS id l h2];rw[if_neg hy];by_cases he:Mk.gC y=id;rw[if_pos he,List.filter_cons_of_neg aHB,dQ.2];intro z hz;have:=h1 z hz;have iZ:Mk.gC z≠id:=λe=>by rw[he,e]at this;exact Pl.vJ _ this
  simpa using iZ;rw[if_neg he,dQ.2];intro z hz;have iZ:Mk.gC z≠id:=λe=>by rcases List.mem_cons.1 hz with rfl|hz;exact he e;have:=h1 z hz;rw[e]at this;exact hy this
  simpa using iZ
def adL id P(h:Pl.Up Mk.gC P):(D P).del (.string id)=D (Pl.del Mk.gC id P):=by rw[<-GS id P h];show DataW.map ((vU P).filter _)=DataW.map (vU _);congr 1;unfold vU;rw[List.filter_map];congr 1
def aoL:laidOutB prog=true:=κ
def law:Maps.Keyed prog 76:=.of_law (deep_law_laid aoL (m:=2) ω (of_decide_eq_true κ) κ κ)
structure Map(w:World)(m:Nat)(P:List B):Prop where
 own:w.ownsMap prog 76 AH m 20 (D P)
 up:Pl.Up Mk.gC P
 le:P.length<=20
 short:∀t∈P,t.length<=610
end Mp
end
section
open iz
namespace Mk
def mS l:(gC l).length=32:=gP.kI _
def up:List (List UInt8)->List (List UInt8)
 |[]=>[]|[a]=>[gC (a++a)]|a::b::t=>gC (a++b)::up t
def Ik:List (List UInt8)->Bool
 |a::b::t=>a==b || Ik t|_=>false
theorem oQ:∀l,(up l).length=(l.length+1) / 2
 |[]=>rfl|[_]=>by simp[up]|a::b::t=>by simp[up,oQ t];omega
def run:Nat->List (List UInt8)->Bool->List UInt8×Bool
 |0,l,m=>(l.headD [],m)|n+1,l,m=>if l.length<=1 then(l.headD [],m)else run n (up l) (m || Ik l)
def EW:∀n k l m,l.length<=n->l.length<=k->run n l m=run k l m:=by
 intro n;induction n with
 |zero=>intro k l m h _;cases k with|zero=>rfl|succ k=>rw[run,run,if_pos ω]
 |succ n ih=>intro k l m hn hk;cases k with|zero=>rw[run,run,if_pos ω]|succ k=>rw[run,run];split;rfl;have:=oQ l;exact ih k _ _ ω ω
def root(l:List (List UInt8))(m:Bool):List UInt8×Bool:=run l.length l m
def abh l m(h:l.length<=1):root l m=(l.headD [],m):=by unfold root;rw[EW _ 1 _ _ ν h,run,if_pos h]
def KC l m(h:1<l.length):root l m=root (up l) (m || Ik l):=by have hl:=oQ l;unfold root;rw[EW _ (l.length-1+1) _ _ ν ω,run,if_neg ω];exact EW _ _ _ _ ω ν
def qq(l:List (List UInt8)) i(h:i<l.length):l.drop i=l.getD i []::l.drop (i+1):=by rw[bo h,ab,ag h];rfl
def Km(l:List (List UInt8)) i(h:i+1<l.length):up (l.drop i)=gC (l.getD i []++l.getD (i+1) [])::up (l.drop (i+2)):=by rw[qq l i ω,qq l (i+1) h];rfl
def ar5(l:List (List UInt8)) i(h:i+1=l.length):up (l.drop i)=gC (l.getD i []++l.getD i [])::up (l.drop (i+2)):=by rw[qq l i ω,bj ω,bj ω];rfl
def XR(l:List (List UInt8)) i(h:i+1<l.length):Ik (l.drop i)=(l.getD i []==l.getD (i+1) [] || Ik (l.drop (i+2))):=by rw[qq l i ω,qq l (i+1) h];rfl
def aaP(l:List (List UInt8)) i(h:l.length<=i+1):Ik (l.drop i)=false:=by by_cases hi:i<l.length;rw[qq l i hi,bj ω];rfl;rw[bj ω];rfl
theorem aaD:∀l,l.length % 2=1->up (l++[l.getD (l.length-1) []])=up l
 |[],h=>by simp at h|[a],_=>rfl|a::b::t,h=>by
  have ht:t.length % 2=1:=by simp at h;omega
  have h0:t.length-1+2=t.length+1:=ω;have e:(a::b::t).getD ((a::b::t).length-1) []=t.getD (t.length-1) []:=by show(a::b::t).getD (t.length+1) []=_;rw[<-h0];rfl
  rw[e];show gC (a++b)::up (t++[t.getD (t.length-1) []])=gC (a++b)::up t;rw[aaD t ht]
theorem Mz:∀l,∀x∈up l,x.length=32
 |[],_,h=>by simp[up]at h|[a],x,h=>by simp[up]at h;rw[h];exact mS _|a::b::t,x,h=>by simp only[up,List.mem_cons]at h;rcases h with rfl|h;exact mS _;exact Mz t x h
end Mk
end
def t092{p:Prop}(h:p:=by obtain⟨_,⟨rfl,rfl⟩|⟨g,cap,cur,rfl,_⟩⟩:=h;exact⟨none,0,rfl⟩;exact⟨_,cap,rfl⟩):p:=h
section
open Go.RowKit iz
theorem Row.setCells{g}:∀vs o w l,Row w g l->o+vs.length<=l.length->Row (w.setCells g o vs) g (l.take o++vs++l.drop (o+vs.length))
 |[],o,w,l,h,_=>by rw[World.setCells];simpa using h|v::vs,o,w,l,h,hl=>by
  rw[aq]at hl;have ih:=Row.setCells vs (o+1) _ _ (h.set o v) (by rw[aY];omega);rw[World.setCells];have e1:(l.set o v).take (o+1)=l.take o++[v]:=by rw[List.take_set,ax (show o<l.length by omega),da _ _ aFJ];have:(l.take o).length=o:=aFJ;rw[this,bh];rfl
  have e2:(l.set o v).drop (o+1+vs.length)=l.drop (o+(v::vs).length):=by rw[List.drop_set_of_lt ω,aq,show o+1+vs.length=o+(vs.length+1)by omega]
  rw[e1,e2]at ih;simpa using ih
def adP{P} w dT sT ty e g c l(hu:P.underlying dT=some (.slice e))(hs:(P.info? e).map (·.size)=some 1)(hr:Row w g (w8 (List.replicate 32 0))):(Builtin.copy_ #[dT,sT] ty #[.slice (some ⟨g,0,none⟩) 32 c,.string (str l)]).run P w=.ok (.int .i64 ((min l.length 32:Nat):Int)) (w.setCells g 0 (w8 (l.take 32))):=by
 have hlen:(w8 (l.take 32)).length=min l.length 32:=by rw[ir,aJ,Nat.min_comm]
 have ig:=run_storeCells_cells (P:=P) g 0 (w8 (l.take 32)) 0 w (λj hj=>by rw[hlen]at hj;simp only[aC];rw[hr.cell,pO _ _ aFJ];rfl) (λj _=>hr.free _) (AA _);cases hq:P.info? e with
 |none=>simp[hq]at hs|some i=>
 have Tc:l.take (Nat.min l.length 32)=l.take 32:=by by_cases h:l.length<=32;rw[show Nat.min l.length 32=l.length from cO h,au ν,au h];rw[show Nat.min l.length 32=32 from dZ ω]
 have aly:List.take ((str l).size.min 32) (List.map (λb=>Value.int .u8 (b.toNat:Nat)) (str l).data.toList)=w8 (l.take 32):=by rw[nf,<-List.map_take];show List.map _ (List.take _ l)=_;rw[Tc];rfl
 simp[Builtin.copy_,Builtin.lenOf,Builtin.firstCells,fh,fO hu,sizeOf,typeInfo,hq,fj,fi,goInt];rw[aly,ig,nf];rfl
theorem ik.setCells{g w}:∀vs o w',ik (λk=>k=g) w w'->ik (λk=>k=g) w (w'.setCells g o vs)
 |[],_,_,h=>h|v::vs,o,w',h=>by rw[World.setCells];exact ik.setCells vs (o+1) _ (h.set ⟨g,o,none⟩ v rfl)
def Ha{ops rest o a w Q}(pn:o.guard=none) x y(ho:o.op=.call {callee:=.builtin .copy,args:=#[x,y],argTypes:=#[35,9]}) g c l (hx:a.eval x=.slice (some ⟨g,0,none⟩) 32 c) (hy:a.eval y=.string (str l)) (hr:Row w g (w8 (List.replicate 32 0))) (h:∀w',(l.length=32->Row w' g (w8 l))->ik (λk=>k=g) w w'->wpList prog ops Q rest (a.put o.dst (.int .i64 ((min l.length 32:Nat):Int))) w'):wpList prog ops Q (o::rest) a w:=by have hc:=adP (P:=prog) w 35 9 o.type 5 g c l fq κ hr;refine qV pn ?_ (h (w.setCells g 0 (w8 (l.take 32))) (λhl=>?_) (ik.setCells _ _ _ (ik.refl _ w)));unfold execOp;simp only[ho,resolve,invoke,builtin,bN,List.map_cons,bP,hx,hy,fh,fj,fi,hc];have:=Row.setCells (w8 (l.take 32)) 0 w _ hr (by rw[ir,ir,aJ,hl];simp);rw[au ω]at this;rw[au ω];simpa[ir,hl,w8]using this
def n6(w:World)(v:Value)(ss:List (List UInt8)):Prop:=(∃a c,v=.slice a 0 c/\ss=[])∨∃b o c,v=.slice (some ⟨b,o,none⟩) ss.length c/\b<w.heap.size/\uL w b o ss
def n6.below{B v ss w w'}(h:n6 w v ss)(hb:Below B w w')(hB:w.heap.size<=B):n6 w' v ss:=by rcases h with h|⟨b,o,c,h1,h2,h3⟩;exact .inl h;exact .inr ⟨b,o,c,h1,ay h2 hb.size,h3.below hb (ay h2 hB)⟩
def Mk.Nf ss(h:p9 ss)(hn:0<ss.length):(Mk.root ss false).1.length=32:=by
 have:∀(n:Nat)(l:List (List UInt8))(m:Bool),p9 l->0<l.length->(Mk.run n l m).1.length=32:=by
  intro n;induction n with
  |zero=>intro l m h hn;cases l with|nil=>simp at hn|cons x l=>exact h x aH
  |succ n ih=>
  intro l m h hn;rw[Mk.run];split;cases l with|nil=>simp at hn|cons x l=>exact h x aH
  exact ih _ _ (Mk.Mz l) (by rw[Mk.oQ];omega)
 exact this _ _ _ h hn
def jB{w:World}{B e z v n xs}(h:w.ownsRow B e z v n xs):∃a cap,v=.slice a n cap:=by exact t092
end
def t022{p:Prop}(h:p:=by obtain⟨uY,c0,DU,c1,_,rfl⟩:=yJ;exact⟨(fb (w:=w4.drew) (a:=⟨r,0,none⟩) (Go.ChangeMaps.heap_setBlock_other (w:=w4.drew) S5.o.2.2 _ hrm)).trans hS9.1,hS9.2.imp λ_ h'=>(Go.ChangeMaps.heap_setBlock_other (w:=w4.drew) S5.o.2.2 _ ω).trans h'⟩):p:=h
def t013{p:Prop}(h:p:=by
 have iZ:((id.length:Int) != 32)=true:=by rw[bne_iff_ne];omega
 go_enter func57,ntmps57;go_wp2_with (refine Ha (o:=⟨some 10,_,_,_,_,_⟩) rfl _ _ rfl w.heap.size 32 id rfl rfl hRn ?_;intro w2 uJ BN)
 have B2:=hBn.trans (BN.below w.heap.size ζ aGe);go_ret;exact⟨by rw[D1.o];rfl,by rw[D2.o];exact HM.o.below B2 hmw,iL.gL B2⟩):p:=h
section
open iz
open Go.RowKit
namespace gI
def ais{P ops Q S fuel L a w} i o v(hi:ops[i]? =some o)(hg:o.guard=none)(sn:Region.noSelect ops=true) (hB:y7 ops [i] L=true) (hQ:∀c (a:Act) d v w,Q (.panic c) (a.put d v) w->Q (.panic c) a w) (hy:∀w,S w->(execOp a.eval o).run P w=.ok (.value v) w) (hS:S w) (h:wpAnyH P .any ops Q S fuel (L.setIfInBounds i true) (a.put o.dst v) w):wpAnyH P .any ops Q S (fuel+1) L a w:=by simp only[y7,Bool.and_eq_true,eW]at hB;exact wpAnyH_take hi sn hB.2 hB.1 (λc a w hq=>hQ c _ _ _ w hq) (.inl ⟨by simp[Region.wanted,hg],hy⟩) hS h
def uk{P ev o w v t x k c}(jy:o.op=.lookup t x k c)(h:(Instr.lookup t (ev x) (ev k) c).run P w=.ok v w):(execOp ev o).run P w=.ok (.value v) w:=by unfold execOp;simp only[jy,fh,h,fi,fj]
end gI
namespace Mp
def n9 w:(zeroValue 78).run prog w=.ok (.agg j1.toArray) w:=κ
def On{w0:World}{m P}(h:w0.ownsMap prog 76 AH m 20 (D P))(nU:Pl.Up Mk.gC P) d(hd:d.length=32):∃(es:Array MapEntry)(clock:Nat)(cs:List Value),w0.heap[m]? =some (.map es clock)/\cs.length=33/\cs.all (·.oneCell')=true/\∀w,w.heap[m]? =some (.map es clock)->(Instr.lookup 39 (.map (some m)) (.agg (w8 d).toArray) true).run prog w=.ok (.tuple #[.agg cs.toArray,.bool (Pl.at' Mk.gC d P).2]) w:=by
 have ap3:=Pf P d nU;obtain⟨es,clock,hb,F,hs,hD⟩:=h;have BM:=BI d hd;have hpw:=((Go.MapKept.stamped_iff es clock).1 F.stamped).2.2;have look:=λ(w:World) (hw:w.heap[m]? =some (.map es clock))=>Maps.fit_look true law fU (n9 w) hw F BM;rcases look w0 hb with⟨_,zW,q8⟩|⟨e0,y,hm0,hk0,_,hR,q8,_⟩;refine⟨es,clock,j1,hb,je,by decide +kernel,λw hw=>?_⟩;rw[<-ap3,hD,Maps.has_false_of_atKey q8];rcases look w hw with⟨jm,_,_⟩|⟨e1,_,Qk,DM,_⟩;exact jm;exact absurd DM (zW e1 Qk);have kC:∃cs:List Value,e0.val=.agg cs.toArray/\cs.length=33/\cs.all (·.oneCell')=true:=by rcases Ko hR with⟨t,ht,_⟩|⟨ht,_⟩;exact⟨gD t,ht,gQ t,iV t⟩;exact⟨j1,ht,je,by decide +kernel⟩
 obtain⟨cs,hv,hl,h1⟩:=kC;refine⟨es,clock,cs,hb,hl,h1,λw hw=>?_⟩;rw[<-ap3,hD,Maps.has_true_of_atKey q8,<-hv];rcases look w hw with⟨_,zW,_⟩|⟨e1,_,Qk,DM,jm,_⟩;exact absurd hk0 (zW e0 hm0);have:e1=e0:=by obtain⟨i,hi,rfl⟩:=cR.1 Qk;obtain⟨j,hj,rfl⟩:=cR.1 hm0;rcases Nat.lt_trichotomy i j with h|h|h;exact absurd (DM.trans hk0.symm) (dp.1 hpw i j hi hj h);subst h;rfl;exact absurd (hk0.trans DM.symm) (dp.1 hpw j i hj hi h)
 rw[this]at jm;exact jm
def Map.new(w:World):Map (w.alloc (.map #[] 0)) w.heap.size [] where
 own:=(World.ownsMap_made w _ _ _).mono ω;up:=List.Pairwise.nil;le:=ζ;short:=λt ht=>by cases ht
theorem Map.alloc{w m P}(h:Map w m P) o:Map (w.alloc o) m P:=⟨h.own.alloc o,h.up,h.le,h.short⟩
theorem Map.lt{w m P}(h:Map w m P):m<w.heap.size:=h.own.lt
def YI{w w':World}{m n D}(h:w.ownsMap prog 76 AH m n D)(hb:w'.heap[m]? =w.heap[m]?):w'.ownsMap prog 76 AH m n D:=by obtain⟨es,clock,h1,r⟩:=h;exact⟨es,clock,hb.trans h1,r⟩
def Map.block{w w' m P}(h:Map w m P)(hb:w'.heap[m]? =w.heap[m]?):Map w' m P:=⟨YI h.own hb,h.up,h.le,h.short⟩
def Map.below{B w w' m P}(h:Map w m P)(hb:Below B w w')(hm:m<B):Map w' m P:=h.block (hb.block m hm)
def YG{w:World}{m n n' D}(h:w.ownsMap prog 76 AH m n D)(hs:Maps.size D<=n'):w.ownsMap prog 76 AH m n' D:=by obtain⟨es,clock,hb,F,_,hD⟩:=h;refine⟨es,clock,hb,F,?_,hD⟩;rw[hD]at hs;simpa[Maps.size,length_sorted]using hs
def xW{w w' m B}(h:w.mapTurned w' m):iL B m w w':=by obtain⟨es,clock,nM,rh,hb,rfl⟩:=h;exact⟨rfl,rfl,rfl,by simp[Go.ChangeMaps.setBlock],λk _ hk=>Go.ChangeMaps.heap_setBlock_other hb _ hk⟩
def Ft{ops rest o a C Q}(pn:o.guard=none) x(ho:o.op=.load 78 x) g off t (hx:a.eval x=.pointer (some ⟨g,off,none⟩)) (hr:∀w,C w->w.rangeAt g off (gD t)) (h:wpQuiet prog ops C Q rest (a.put o.dst (Mi t))):wpQuiet prog ops C Q (o::rest) a:=by unfold wpQuiet;rw[if_pos aGQ];refine⟨_,λw hw=>?_,h⟩;have:=fV (P:=prog) w g off 78 (gD t) _ (hr w hw) fG rfl (by rw[kj,gQ]);exact t07
end Mp
namespace Mp
def zn{l t r}(h:Wr.j2 l=.ok t r):t=l/\l.length<=610:=by
 have h':(Wr.tx l).bind (λa r=>if r=[]then .ok a r else .bad 5)=.ok t r:=h;unfold Wr.tx at h';cases hb:Wr.body l with
 |bad e=>rw[hb]at h';cases h'
 |ok u s=>rw[hb]at h';have h2:(if s=[]then(.ok (l.take (l.length-s.length)) s:Wr.R (List UInt8))else .bad 5)=.ok t r:=h';by_cases hs:s=[];rw[if_pos hs]at h2;subst hs;have hl:=Wr.Cd l u _ hb;cases h2;simp at hl|-;exact hl;rw[if_neg hs]at h2;cases h2
def KJ{l t r}(h:Wr.j2 l=.ok t r):t.length<=610:=by obtain⟨rfl,h2⟩:=zn h;exact h2
def Cj(P:List B)(x:Wr.R (List UInt8)):Nat:=match x with
 |.bad n=>n
 |.ok t _=>if(Pl.at' Mk.gC (Mk.gC t) P).2 then 10 else if P.length=20 then 9 else 0
def P9(P:List B)(x:Wr.R (List UInt8)):List B:=match x with
 |.bad _=>P
 |.ok t _=>if(Pl.at' Mk.gC (Mk.gC t) P).2 then P else if P.length=20 then P else Pl.ins Mk.gC t P
end Mp
def wm(r A m:Nat)(cs:List Value)(o:Obj)(u:World):Prop:=u.cell? ⟨r,0,none⟩=some (.map (some m))/\Row u A cs/\u.heap[m]? =some o
def wm.load{r A m t o u}(h:wm r A m (gD t) o u):u.rangeAt A 1 (w8 (Mk.gC t)):=λj v hv=>by rw[h.2.1.cell,dR];unfold gD;rw[cW];exact hv
def wm.mono{r A m cs o u u'}(h:wm r A m cs o u)(hb:∀k,k<u.heap.size->u'.heap[k]? =u.heap[k]?):wm r A m cs o u':=⟨(fb (w:=u) (hb r (fQ _ _ h.1))).trans h.1,h.2.1.imp λ_ h'=>(hb A h.2.1.lt).trans h',(hb m (ae.1 h.2.2).1).trans h.2.2⟩
def DZ(r A m:Nat)(cs:List Value)(u:World):Prop:=u.cell? ⟨r,0,none⟩=some (.map (some m))/\Row u A cs
def DZ.load{r A m t u}(h:DZ r A m (gD t) u):u.rangeAt A 1 (w8 (Mk.gC t)):=λj v hv=>by rw[h.2.cell,dR];unfold gD;rw[cW];exact hv
def ZU l r m P w(hT:km w)(hl:l.length<=9223372036854775807)(hr:w.cell? ⟨r,0,none⟩=some (.map (some m)))(hM:Mp.Map w m P)(hrw:r<w.heap.size)(hrm:r≠m):Calls prog 19 #[.pointer (some ⟨r,0,none⟩),.string (str l)] w λe w'=>e=.returned (.int .i64 (Mp.Cj P (Wr.j2 l):Int))/\Mp.Map w' m (Mp.P9 P (Wr.j2 l))/\iL w.heap.size m w w':=by
 have yM:=hT.lt;have T1:=η (Ii l w hT hl);have HM:=η hM;have hmw:=hM.lt;have HR:=η hr;clear hT hM hr;go_enter func19,ntmps19;go_wp2_with fail;refine T1.o.mono ?_;clear T1;cases hx:Wr.j2 l with
 |bad n=>rintro e w1⟨rfl,hb⟩;have hn:=Ff hx;have p1:¬(n:Int)=0:=ω;have EQ:=η hx;obtain⟨cs,hE,tu,qZ⟩:∃cs:List Value,abA (.bad n)=.tuple #[.agg cs.toArray,.int .i64 n]/\cs.length=33/\cs.all (·.oneCell')=true:=⟨j1,rfl,je,by decide +kernel⟩;rw[hE];have r1:Row (w1.alloc (.cells j1.toArray 78)) w1.heap.size j1:=Row.new w1 j1 78;have hB:Below w1.heap.size w1 (w1.alloc (.cells j1.toArray 78)):=(Below.refl _ _).alloc ν _;have B1:=η (hb.trans ((below_setRow hB ν cs.toArray).mono hb.size));rw[Tryz.n9]at r1 hB B1;have H1:=r1;clear hx hb r1 hB hn hE;go_wp2_with (with_reducible refine gJ (o:=⟨none,_,_,_,_,_⟩) rfl _ _ _ rfl w1.heap.size j1 cs rfl rfl H1 (kj.trans (by rw[tu])) (by rw[tu,je]) qZ ?_);go_ret;exact⟨by rw[EQ.o];rfl,by rw[EQ.o];exact HM.o.below B1.o hmw,iL.gL B1.o⟩
 |ok t rest=>
 rintro e w1⟨rfl,hb⟩;have EQ:=η hx;have Qg:t.length<=610:=Mp.KJ hx;dsimp only[abA];have r1:Row (w1.alloc (.cells j1.toArray 78)) w1.heap.size j1:=Row.new w1 j1 78;have hB:Below w1.heap.size w1 (w1.alloc (.cells j1.toArray 78)):=(Below.refl _ _).alloc ν _;have B1:=η (hb.trans ((below_setRow hB ν (gD t).toArray).mono hb.size));have H2:=r1.setRow (gD t);rw[Tryz.n9]at r1 hB B1 H2;have H1:=r1;clear r1 hx hB;go_upto_region 4 with(with_reducible refine gJ (o:=⟨none,_,_,_,_,_⟩) rfl _ _ _ rfl w1.heap.size j1 (gD t) rfl rfl H1 (kj.trans aGK) aH8 (iV t) ?_);clear H1;obtain⟨A,hA⟩:∃A,w1.heap.size=A:=⟨_,rfl⟩;have hAw:w.heap.size<=A:=hA▸hb.size;rw[hA]at B1 H2|-;clear hA hb;generalize World.setRow _ A (gD t).toArray=w2 at B1 H2|-;have qX:=(fb (w:=w) (a:=⟨r,0,none⟩) (B1.o.block r hrw)).trans HR.o;have M2:=HM.o.below B1.o hmw;have IS:=mz t;obtain⟨es,clock,cs,IL,tu,qZ,OU⟩:=Mp.On M2.own M2.up (Mk.gC t) IS;have MM:=η M2;have HL:=η OU;have Tv:wm r A m (gD t) (.map es clock) w2:=⟨qX,H2,IL⟩;have Av:∀u:gI.Of (wm r A m (gD t) (.map es clock)),u.w.cell? ⟨r,0,none⟩=some (.map (some m)):=λu=>u.h.1;haveI iZ:Nonempty (gI.Of (wm r A m (gD t) (.map es clock))):=⟨⟨w2,Tv⟩⟩;clear qX M2 OU;refine gI.jl [0,1,2,3,4,5] 7 mixed κ rfl rfl θ ξ rfl (wm r A m (gD t) (.map es clock)) Tv ?_;show wpQuiet _ _ _ _ [_,_,_,_,_,_] _;iterate 5 (go_big_quiet_step (fail))
 refine oe (o:=⟨some 23,_,_,_,_,_⟩) rfl _ rfl A 1 (Mk.gC t) IS rfl aG7 ?_;try go_frame
 refine fe ?_;refine gI.ais 6 ⟨some 24,.lookup 39 (.tmp 21) (.tmp 23) true,_,_,_,_⟩ (.tuple #[.agg cs.toArray,.bool (Pl.at' Mk.gC (Mk.gC t) P).2]) rfl rfl κ ξ θ (λu hu=>?_) (gI.gF Tv) ?_;obtain⟨u',rfl⟩:=hu;exact gI.uk rfl (HL.o _ u'.h.2.2);obtain⟨ok,jo⟩:∃b,(Pl.at' Mk.gC (Mk.gC t) P).2=b:=⟨_,rfl⟩;rw[jo];try go_frame
 refine gI.E8 [7,8,9] 3 aFU κ aFU θ ξ aFU (gI.gF Tv) ?_;show wpQuiet _ _ _ _ [_,_,_] _;repeat(go_big_quiet_step (fail))
 refine fe ?_;refine gI.one 10 _ κ rfl rfl ?_;try go_frame
 go_wp2_with fail;have r3:Row (w2.alloc (.cells j1.toArray 78)) w2.heap.size j1:=Row.new w2 j1 78;have S3:wm r A m (gD t) (.map es clock) (w2.alloc (.cells j1.toArray 78)):=Tv.mono λk hk=>fM _ _ _ hk
 have B3:Below w.heap.size w (w2.alloc (.cells j1.toArray 78)):=B1.o.alloc B1.o.size _;have M3:=MM.o.alloc (.cells j1.toArray 78);rw[Tryz.n9]at r3 S3 B3 M3;have hD:w.heap.size<=w2.heap.size:=B1.o.size;have hAD:A<w2.heap.size:=H2.lt;have hmD:=MM.o.lt;obtain⟨D,hDe⟩:∃D,w2.heap.size=D:=⟨_,rfl⟩;rw[hDe]at r3 hD hAD hmD|-;have Mu:=η jo;clear MM H2 IL Tv jo HL HM B1 hDe;generalize w2.alloc _=w3 at r3 S3 B3 M3|-;refine⟨gI.gF S3,?_⟩;refine gI.one 11 _ κ rfl rfl ?_;have S4:wm r A m (gD t) (.map es clock) (w3.drew.setRow D cs.toArray):=⟨(fb (w:=w3) (a:=⟨r,0,none⟩) (fI w3 D r _ ω)).trans S3.1,S3.2.1.imp λ_ h'=>(fI w3 D A _ ω).trans h',(fI w3 D m _ ω).trans S3.2.2⟩;have B4:=η (below_setRow (w:=w3.drew) B3.drew hD cs.toArray);have M4:=η (Mp.Map.block M3 (fI w3.drew D m cs.toArray ω));refine gJ (o:=⟨none,.store 78 (.tmp 7) (.tmp 25),_,_,_,_⟩) rfl _ _ _ rfl D j1 cs rfl rfl r3 (kj.trans (by rw[tu])) (by rw[tu,je]) qZ ?_;generalize w3.drew.setRow D cs.toArray=w4 at S4 B4 M4|-;refine⟨gI.gF S4,?_⟩;refine gI.one 12 _ κ rfl rfl ?_;try go_frame
 clear iZ Av r3 S3 B3 M3;go_wp2_with fail;refine⟨gI.gF S4,?_⟩;refine fg κ ?_ 0;have hr4:=S4.1;have N4:=η (iL.gL (S:=m) B4.o);have S5:=η S4;clear S4;have auV:=hr4;cases ok
 ·have hlen:=M4.o.own.len fU 3;rw[Mp.AS]at hlen;by_cases xS:P.length=20
  ·rw[xS]at hlen;go_wp2_with fail;go_ret;refine⟨?_,?_,N4.o⟩;rw[EQ.o];show _=Ending.returned (.int .i64 ((if(Pl.at' Mk.gC (Mk.gC t) P).2 then 10 else if P.length=20 then 9 else 0:Nat):Int));rw[Mu.o,if_neg ζ,if_pos xS];rfl;rw[EQ.o];show Mp.Map w4 m (if(Pl.at' Mk.gC (Mk.gC t) P).2 then P else if P.length=20 then P else _);rw[Mu.o,if_neg ζ,if_pos xS];exact M4.o
  have hle:=M4.o.le;have VM:¬(P.length:Int)=20:=by omega
  go_upto_region 9 with fail;have hS9:DZ r A m (gD t) w4:=⟨S5.o.1,S5.o.2.1⟩;have Av:∀u:gI.Of (DZ r A m (gD t)),u.w.cell? ⟨r,0,none⟩=some (.map (some m)):=λu=>u.h.1;haveI iZ:Nonempty (gI.Of (DZ r A m (gD t))):=⟨⟨w4,hS9⟩⟩;clear hr4 auV hlen;refine gI.jl [0,1,2,3,4,5,6] 1 mixed κ rfl rfl θ ξ rfl (DZ r A m (gD t)) hS9 ?_;show wpQuiet _ _ _ _ [_,_,_,_,_,_,_] _;iterate 5 (go_big_quiet_step (fail))
  refine oe (o:=⟨some 39,_,_,_,_,_⟩) rfl _ rfl A 1 (Mk.gC t) IS rfl aG7 ?_;try go_frame
  refine Mp.Ft (o:=⟨some 40,_,_,_,_,_⟩) rfl _ rfl A 0 t rfl aF6 ?_;try go_frame
  refine fe ?_;refine gI.one 7 _ κ rfl rfl ?_;refine wpList_mapUpdate_in _ (o:=⟨none,.mapUpdate 39 (.tmp 37) (.tmp 39) (.tmp 40),_,_,_,_⟩) rfl _ _ _ _ rfl 76 78 Mp.law fU Mp.AH m 20 (Mp.D P) rfl (show w4.drew.ownsMap _ _ _ _ _ _ from M4.o.own) ι (.agg (w8 (Mk.gC t)).toArray) (Mi t) (Lit.string (Mk.gC t)) rfl rfl (Mp.BI _ IS) (.lit (.string t)) [] (Mp.ajL t) ?_;intro w5 kU yJ;have akN:iL w.heap.size m w4 w5:=((iL.refl w.heap.size m w4).drew).trans (Mp.xW (w:=w4.drew) yJ);have N5:=η (N4.o.trans akN);have pT:=S5.o.2.1.lt;have hS5:DZ r A m (gD t) w5:=by exact t022
  have M5:Mp.Map w5 m (Pl.ins Mk.gC t P):=by rw[Mp.abD t P M4.o.up Mu.o]at kU;have hil:=Pl.Vy Mk.gC t P;refine⟨Mp.YG kU (by rw[Mp.AS];omega),Pl.aco Mk.gC t P M4.o.up Mu.o,by omega,λy hy=>?_⟩;rcases(Pl.La Mk.gC t P y).1 hy with rfl|hy;exact Qg;exact M4.o.short y hy
  have MM5:=η M5;clear kU yJ M5 iZ Av hS9 M4 N4 S5;refine⟨gI.gF hS5,?_⟩;refine fg κ ?_ 0;clear hS5;go_wp2_with fail;go_ret;refine⟨?_,?_,N5.o⟩;rw[EQ.o];show _=Ending.returned (.int .i64 ((if(Pl.at' Mk.gC (Mk.gC t) P).2 then 10 else if P.length=20 then 9 else 0:Nat):Int));rw[Mu.o,if_neg ζ,if_neg xS];rfl;rw[EQ.o];show Mp.Map w5 m (if(Pl.at' Mk.gC (Mk.gC t) P).2 then P else if P.length=20 then P else _);rw[Mu.o,if_neg ζ,if_neg xS];exact MM5.o
 go_wp2_with fail;go_ret;refine⟨?_,?_,N4.o⟩
 rw[EQ.o];show _=Ending.returned (.int .i64 ((if(Pl.at' Mk.gC (Mk.gC t) P).2 then 10 else if P.length=20 then 9 else 0:Nat):Int));rw[Mu.o,if_pos rfl];rfl;rw[EQ.o];show Mp.Map w4 m (if(Pl.at' Mk.gC (Mk.gC t) P).2 then P else if P.length=20 then P else _);rw[Mu.o,if_pos rfl];exact M4.o
namespace Mp
def Py(P:List B)(id:B):List B:=if id.length=32 then Pl.del Mk.gC id P else P
def GZ(P:List B)(id:B):Bool:=decide (id.length=32)&& (Pl.at' Mk.gC id P).2
end Mp
def TI id r m P w(hl:id.length<=9223372036854775807)(hr:w.cell? ⟨r,0,none⟩=some (.map (some m)))(hM:Mp.Map w m P)(hrw:r<w.heap.size)(hrm:r≠m):Calls prog 57 #[.pointer (some ⟨r,0,none⟩),.string (str id)] w λe w'=>e=.returned (.bool (Mp.GZ P id))/\Mp.Map w' m (Mp.Py P id)/\iL w.heap.size m w w':=by
 have HM:=η hM;have hmw:=hM.lt;have HR:=η hr;have hRn:=Row.new w (w8 (List.replicate 32 0)) 76;have hBn:=(Below.refl w.heap.size w).alloc ν (.cells (w8 (List.replicate 32 0)).toArray 76);rw[Tryz.xY]at hRn hBn;clear hM hr;by_cases hs:id.length=32
 ·have Tk:Mp.GZ P id=(Pl.at' Mk.gC id P).2:=by unfold Mp.GZ;rw[hs];simp
  have VS:Mp.Py P id=Pl.del Mk.gC id P:=if_pos hs;have D1:=η Tk;have D2:=η VS;clear Tk VS;go_enter func57,ntmps57;go_upto_region 4 with(refine Ha (o:=⟨some 10,_,_,_,_,_⟩) rfl _ _ rfl w.heap.size 32 id rfl rfl hRn ?_;intro w2 uJ BN);have H2:=uJ hs;obtain⟨A,hA⟩:∃A,w.heap.size=A:=⟨_,rfl⟩;have B2:=η (hBn.trans (BN.below w.heap.size ζ aGe));rw[hA]at H2 B2 hrw hmw|-;clear hBn hRn BN uJ;have qX:=(fb (w:=w) (a:=⟨r,0,none⟩) (B2.o.block r hrw)).trans HR.o;have M2:=HM.o.below B2.o hmw;obtain⟨es,clock,cs,IL,tu,qZ,OU⟩:=Mp.On M2.own M2.up id hs;have MM:=η M2;have HL:=η OU;have Tv:wm r A m (w8 id) (.map es clock) w2:=⟨qX,H2,IL⟩;have Av:∀u:gI.Of (wm r A m (w8 id) (.map es clock)),u.w.cell? ⟨r,0,none⟩=some (.map (some m)):=λu=>u.h.1;haveI iZ:Nonempty (gI.Of (wm r A m (w8 id) (.map es clock))):=⟨⟨w2,Tv⟩⟩;clear qX M2 OU;refine gI.jl [0,1,2,3,4] 7 mixed κ rfl rfl θ ξ rfl (wm r A m (w8 id) (.map es clock)) Tv ?_;show wpQuiet _ _ _ _ [_,_,_,_,_] _;iterate 4 (go_big_quiet_step (fail))
  refine oe (o:=⟨some 22,_,_,_,_,_⟩) rfl _ rfl A 0 id hs rfl (λw hw=>by obtain⟨u,rfl⟩:=hw;exact λj v hv=>by rw[u.h.2.1.cell,aC];exact hv) ?_;try go_frame
  refine fe ?_;refine gI.ais 5 ⟨some 23,.lookup 39 (.tmp 21) (.tmp 22) true,_,_,_,_⟩ (.tuple #[.agg cs.toArray,.bool (Pl.at' Mk.gC id P).2]) rfl rfl κ ξ θ (λu hu=>?_) (gI.gF Tv) ?_;obtain⟨u',rfl⟩:=hu;exact gI.uk rfl (HL.o _ u'.h.2.2);obtain⟨ok,jo⟩:∃b,(Pl.at' Mk.gC id P).2=b:=⟨_,rfl⟩;rw[jo]at D1|-;try go_frame
  refine gI.E8 [6,7,8] 3 aFU κ aFU θ ξ aFU (gI.gF Tv) ?_;show wpQuiet _ _ _ _ [_,_,_] _;repeat(go_big_quiet_step (fail))
  refine fe ?_;refine gI.one 9 _ κ rfl rfl ?_;try go_frame
  go_wp2_with fail;have r3:Row (w2.alloc (.cells j1.toArray 78)) w2.heap.size j1:=Row.new w2 j1 78;have S3:wm r A m (w8 id) (.map es clock) (w2.alloc (.cells j1.toArray 78)):=Tv.mono λk hk=>fM _ _ _ hk
  have B3:Below A w (w2.alloc (.cells j1.toArray 78)):=B2.o.alloc (hA▸B2.o.size) _;have M3:=MM.o.alloc (.cells j1.toArray 78);rw[Tryz.n9]at r3 S3 B3 M3;have hAD:A<w2.heap.size:=H2.lt;have hmD:=MM.o.lt;obtain⟨D,hDe⟩:∃D,w2.heap.size=D:=⟨_,rfl⟩;rw[hDe]at r3 hAD hmD|-;have Mu:=η jo;have HAA:=η hA;clear MM H2 IL Tv jo HL HM B2 hDe hA;generalize w2.alloc _=w3 at r3 S3 B3 M3|-;refine⟨gI.gF S3,?_⟩;refine gI.one 10 _ κ rfl rfl ?_;have S4:wm r A m (w8 id) (.map es clock) (w3.drew.setRow D cs.toArray):=⟨(fb (w:=w3) (a:=⟨r,0,none⟩) (fI w3 D r _ ω)).trans S3.1,S3.2.1.imp λ_ h'=>(fI w3 D A _ ω).trans h',(fI w3 D m _ ω).trans S3.2.2⟩;have B4:=η (below_setRow (w:=w3.drew) B3.drew (show A<=D by omega) cs.toArray);have M4:=η (Mp.Map.block M3 (fI w3.drew D m cs.toArray ω));refine gJ (o:=⟨none,.store 78 (.tmp 6) (.tmp 24),_,_,_,_⟩) rfl _ _ _ rfl D j1 cs rfl rfl r3 (kj.trans (by rw[tu])) (by rw[tu,je]) qZ ?_;generalize w3.drew.setRow D cs.toArray=w4 at S4 B4 M4|-;refine⟨gI.gF S4,?_⟩;refine gI.one 11 _ κ rfl rfl ?_;try go_frame
  clear iZ Av r3 S3 B3 M3;go_wp2_with fail;refine⟨gI.gF S4,?_⟩;refine fg κ ?_ 0;have N4:=η (iL.gL (S:=m) B4.o);have S5:=η S4;have hS9:DZ r A m (w8 id) w4:=⟨S4.1,S4.2.1⟩;clear S4;go_upto_region 5 with fail;have Av:∀u:gI.Of (DZ r A m (w8 id)),u.w.cell? ⟨r,0,none⟩=some (.map (some m)):=λu=>u.h.1;haveI iZ:Nonempty (gI.Of (DZ r A m (w8 id))):=⟨⟨w4,hS9⟩⟩;refine gI.jl [0,1,2,3,4] 1 mixed κ rfl rfl θ ξ rfl (DZ r A m (w8 id)) hS9 ?_;show wpQuiet _ _ _ _ [_,_,_,_,_] _;iterate 4 (go_big_quiet_step (fail))
  refine oe (o:=⟨some 30,_,_,_,_,_⟩) rfl _ rfl A 0 id hs rfl aF6 ?_;try go_frame
  refine fe ?_;refine gI.one 5 _ κ rfl rfl ?_;refine wpList_delete_own _ (o:=⟨none,.call {callee:=.builtin .delete,args:=#[.tmp 29,.tmp 30],argTypes:=#[39,76]},_,_,_,_⟩) rfl _ _ _ _ rfl 78 Mp.law fU Mp.AH m 20 (Mp.D P) rfl (show w4.drew.ownsMap _ _ _ _ _ _ from M4.o.own) (.agg (w8 id).toArray) (Lit.string id) rfl (Mp.BI _ hs) ?_;intro w5 kU yJ;have akN:iL A m w4 w5:=((iL.refl A m w4).drew).trans (Mp.xW (w:=w4.drew) yJ);have N5:=η (N4.o.trans akN);have hS5:DZ r A m (w8 id) w5:=by exact t022
  have M5:Mp.Map w5 m (Pl.del Mk.gC id P):=by rw[Mp.adL id P M4.o.up]at kU;have apj:=Pl.Wc Mk.gC id P;have hle:=M4.o.le;exact⟨kU,Pl.al6 Mk.gC id P M4.o.up,ak apj.length_le hle,λy hy=>M4.o.short y (apj.subset hy)⟩
  have MM5:=η M5;clear kU yJ M5 iZ Av hS9 M4 N4 S5;refine⟨gI.gF hS5,?_⟩;refine fg κ ?_ 0;clear hS5;go_wp2_with fail;go_ret;exact⟨by rw[D1.o];rfl,by rw[D2.o];exact MM5.o,by rw[HAA.o];exact N5.o⟩
 have Tk:Mp.GZ P id=false:=by unfold Mp.GZ;simp[hs]
 have VS:Mp.Py P id=P:=if_neg hs;have D1:=η Tk;have D2:=η VS;clear Tk VS;by_cases zU:id.length<32;have hmn:min id.length 32=id.length:=cO ω;exact t013;have hmn:min id.length 32=32:=dZ ω;exact t013
end
