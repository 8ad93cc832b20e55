import Derived.Test.YtlpcjiollnnmgaaGreatDoorM01
set_option maxRecDepth 100000
set_option maxHeartbeats 8000000
set_option linter.all false
namespace Go.Proofs.YtlpcjiollnnmgaaGreatDoor
open Go.Proofs.Tryz
namespace Ph
open ba
open Go.RowKit
abbrev By:=List UInt8
def gN(f:By->By)(bC:List By)(s:By):List By:=bC.reverse.filter λt=>f t==s
def rN(p:By×Value):Value×Value:=(.string (str p.1),p.2)
def ny(w:World)(B m:Nat)(f:By->By)(bC:List By):Prop:=∃(es:Array MapEntry)(clock:Nat)(K:List (By×Value)),w.heap[m]? =some (.map es clock)/\es.toList.map (λe=>(e.key,e.val))=K.map rN/\(K.map (·.1)).Nodup/\(∀s,s∈K.map (·.1)↔ ∃t∈bC,f t=s)/\(∀p∈K,w.ownsRow B 69 33 p.2 (gN f bC p.1).length (aK (gN f bC p.1)))/\∀(i j:Nat)(p q:By×Value),K[i]? =some p->K[j]? =some q->i≠j->p.2.ownBlock≠q.2.ownBlock
def Lf:List (By×Value)->By->Nat->Option (Nat×Value)
 |[],_,_=>none|p::K,s,i=>if p.1=s then some (i,p.2)else Lf K s (i+1)
def Oi(a b:By):(str a==str b)=decide (a=b):=by rw[beq_toListBytes,zr,zr,Bool.eq_iff_iff,beq_iff_eq,decide_eq_true_eq]
theorem pU:∀(es:List MapEntry)(K:List (By×Value)),es.map (λe=>(e.key,e.val))=K.map rN->∀(s:By)(i:Nat),Instr.findNow .string (.string (str s)) es i=some (Lf K s i)
 |[],[],_,s,i=>rfl|[],p::K,h,_,_=>by simp at h|e::es,[],h,_,_=>by simp at h|e::es,p::K,h,s,i=>by simp only[List.map_cons,List.cons.injEq]at h;obtain⟨h1,h2⟩:=h;have hk:e.key=.string (str p.1):=(Prod.mk.inj h1).1;have hv:e.val=p.2:=(Prod.mk.inj h1).2;unfold Instr.findNow Lf;rw[hk];unfold Instr.sameNow;dsimp only;rw[Oi];by_cases hs:p.1=s;rw[if_pos hs];rw[show decide (s=p.1)=true from by simp[hs],hv];rw[if_neg hs];rw[show decide (s=p.1)=false from by simp;exact λe=>hs e.symm];exact pU es K h2 s (i+1)
theorem BV:∀ {K:List (By×Value)}{s:By}{i:Nat},Lf K s i=none->s∉K.map (·.1)
 |[],_,_,_=>by simp|p::K,s,i,h=>by unfold Lf at h;split at h;cases h;rename_i hs;have:=BV h;simp only[List.map_cons,List.mem_cons,not_or];exact⟨λe=>hs e.symm,this⟩
theorem pT:∀ {K:List (By×Value)}{s:By}{i j:Nat}{v:Value},Lf K s i=some (j,v)->∃k,j=i+k/\K[k]? =some (s,v)
 |[],_,_,_,_,h=>by cases h
 |p::K,s,i,j,v,h=>by unfold Lf at h;split at h;rename_i hs;cases h;exact⟨0,rfl,by subst hs;rfl⟩;obtain⟨k,h1,h2⟩:=pT h;exact⟨k+1,by omega,by simpa using h2⟩
def nH(K:List (By×Value))(s:By):Value:=match Lf K s 0 with
 |some (_,v)=>v
 |none=>.slice none 0 0
def Ik(K:List (By×Value))(s:By)(v:Value):List (By×Value):=match Lf K s 0 with
 |some (i,_)=>K.set i (s,v)
 |none=>K++[(s,v)]
section
variable{w:World}{m clock:Nat}{es:Array MapEntry}{K:List (By×Value)}
def o8{P}(h:w.heap[m]? =some (.map es clock)):(getObj m).run P w=.ok (.map es clock) w:=by simp[getObj,Sem.run,h]
def Zj:(zeroValue 38).run prog w=.ok (.slice none 0 0) w:=by kernel_rfl
def AY(h:w.heap[m]? =some (.map es clock))(hk:es.toList.map (λe=>(e.key,e.val))=K.map rN)(s:By):(Instr.lookup 90 (.map (some m)) (.string (str s)) false).run prog w=.ok (nH K s) w:=by unfold Instr.lookup;have h1:=underlying90;have hc:(Instr.checkKey es.isEmpty (9999+1) 9 (.string (str s))).run prog w=.ok () w:=MapKept.run_checkKey underlying9 (by trivial) _ _;have hf:(Instr.findKey 9 (.string (str s)) es.toList).run prog w=.ok (Lf K s 0) w:=MapKept.run_findKey underlying9 (pU es.toList K hk s 0);simp only[Sem.run_bind,run_underlying h1,Result.andThen_ok,o8 h,Sem.run_pure,hc,hf];unfold nH;cases Lf K s 0 with|none=>simp only[Sem.run_bind,Zj,Result.andThen_ok,Sem.run_pure];rfl|some p=>obtain⟨i,v⟩:=p;simp only[Sem.run_pure,Result.andThen_ok];rfl
def nZ(es:Array MapEntry) i k v:(es.modify i λe=>{e with key:=k,val:=v}).toList.map (λe=>(e.key,e.val))=(es.toList.map λe=>(e.key,e.val)).set i (k,v):=by apply List.ext_getElem?;intro j;rw[List.getElem?_map,Array.getElem?_toList,Array.getElem?_modify,List.getElem?_set];by_cases kx:i=j;subst kx;rw[if_pos rfl,if_pos rfl];by_cases hi:i<es.size;rw[Array.getElem?_eq_getElem hi,if_pos (by simpa using hi)];rfl;rw[Array.getElem?_eq_none (by omega),if_neg (by simpa using hi)];rfl;rw[if_neg kx,if_neg kx,List.getElem?_map,Array.getElem?_toList]
def Zo(h:w.heap[m]? =some (.map es clock))(hk:es.toList.map (λe=>(e.key,e.val))=K.map rN)(s:By)(v:Value):∃iy lJ,(Instr.mapUpdate 90 (.map (some m)) (.string (str s)) v).run prog w=.ok () {w with heap:=w.heap.setIfInBounds m (.map iy lJ)}/\iy.toList.map (λe=>(e.key,e.val))=(Ik K s v).map rN:=by
 have h1:=underlying90;have hc:(Instr.checkKey false (9999+1) 9 (.string (str s))).run prog w=.ok () w:=MapKept.run_checkKey underlying9 (by trivial) _ _;have hf:(Instr.findKey 9 (.string (str s)) es.toList).run prog w=.ok (Lf K s 0) w:=MapKept.run_findKey underlying9 (pU es.toList K hk s 0);cases hF:Lf K s 0 with
 |none=>refine⟨es.push {key:=.string (str s),val:=v,born:=clock},clock+1,?_,?_⟩;unfold Instr.mapUpdate;rw[hF]at hf;simp only[Sem.run_bind,run_underlying h1,Result.andThen_ok,o8 h,Sem.run_pure,hc,hf];exact MapKept.run_setObj_map _ h;unfold Ik;rw[hF,Array.toList_push,List.map_append,hk,List.map_append];rfl|some p=>
 obtain⟨i,v0⟩:=p;obtain⟨k,hi,hK⟩:=pT hF;rw[Nat.zero_add]at hi;subst hi;have Ia:∃e,es[i]? =some e/\e.key=.string (str s):=by
  have:(es.toList.map λe=>(e.key,e.val))[i]? =(K.map rN)[i]?:=by rw[hk]
  rw[List.getElem?_map,List.getElem?_map,hK,Array.getElem?_toList]at this;obtain⟨e,he,hp⟩:=Option.map_eq_some_iff.1 this;exact⟨e,he,(Prod.mk.inj hp).1⟩
 obtain⟨e,he,vT⟩:=Ia;have hkt:(Instr.keyThatStays (((es[i]?).map (·.key)).getD (.string (str s))) (.string (str s))).run prog w=.ok (.string (str s)) w:=by rw[he];simp only[Option.map_some,Option.getD_some,vT];unfold Instr.keyThatStays;rw[if_pos (by simp[Instr.sameBits,beq_toListBytes])];rfl
 refine⟨es.modify i λe=>{e with key:=.string (str s),val:=v},clock,?_,?_⟩;unfold Instr.mapUpdate;rw[hF]at hf;simp only[Sem.run_bind,run_underlying h1,Result.andThen_ok,o8 h,Sem.run_pure,hc,hf,hkt];exact MapKept.run_setObj_map _ h;unfold Ik;rw[hF,nZ,hk,List.map_set];rfl
def XC f bC t:gN f (t::bC) (f t)=gN f bC (f t)++[t]:=by unfold gN;rw[List.reverse_cons,List.filter_append];simp
def SB{f bC t s}(h:f t≠s):gN f (t::bC) s=gN f bC s:=by unfold gN;rw[List.reverse_cons,List.filter_append];simp[h]
def XD{f bC s}(h:¬∃t∈bC,f t=s):gN f bC s=[]:=by unfold gN;rw[List.filter_eq_nil_iff];intro t ht;simp only[List.mem_reverse]at ht;simp only[beq_iff_eq];exact λe=>h ⟨t,ht,e⟩
def dF(ts:List By)(t:By):aK (ts++[t])=aK ts++ai t:=by unfold aK;simp
def xg{w:World}{B m e z n v xs es clock}(h:w.ownsRow B e z v n xs)(hm:w.heap[m]? =some (.map es clock)) o:({w with heap:=w.heap.setIfInBounds m o}:World).ownsRow B e z v n xs:=by refine⟨h.1,h.2.imp id λ⟨g,cap,cur,h1,h2,h3,h4⟩=>⟨g,cap,cur,h1,h2,?_,h4⟩⟩;show(w.heap.setIfInBounds m o)[g]? =_;rw[Array.getElem?_setIfInBounds_ne];exact h3;rintro rfl;rw[hm]at h3;cases h3
def Jn{w:World}{B e z n:Nat}{v:Value}{xs:List Value}(h:w.ownsRow B e z v n xs)(hn:0<n):∃g,v.ownBlock=some g:=by rcases h.2 with⟨_,h0⟩|⟨g,cap,cur,rfl,_⟩;omega;exact⟨g,rfl⟩
structure Slot(w:World)(B m:Nat)(f:By->By)(bC:List By)(s:By)(es:Array MapEntry)(clock:Nat)(K:List (By×Value)):Prop where
 at_:w.heap[m]? =some (.map es clock)
 key:es.toList.map (λe=>(e.key,e.val))=K.map rN
 nodup:(K.map (·.1)).Nodup
 mem:∀s,s∈K.map (·.1)↔ ∃t∈bC,f t=s
 rows:∀p∈K,w.ownsRow B 69 33 p.2 (gN f bC p.1).length (aK (gN f bC p.1))
 XW:∀(i j:Nat)(p q:By×Value),K[i]? =some p->K[j]? =some q->i≠j->p.2.ownBlock≠q.2.ownBlock
 own:w.ownsRow B 69 33 (nH K s) (gN f bC s).length (aK (gN f bC s))
def Slot.below{w w' B C m f bC s es clock K}(h:Slot w B m f bC s es clock K)(hb:Below C w w')(hC:w.heap.size<=C):Slot w' B m f bC s es clock K:=⟨(hb.block m (Nat.lt_of_lt_of_le (Array.getElem?_eq_some_iff.1 h.at_).1 hC)).trans h.at_,h.key,h.nodup,h.mem,λp hp=>aB (h.rows p hp) hb hC,h.XW,aB h.own hb hC⟩
def ny.slot{w B m f bC}(h:ny w B m f bC) s:∃es clock K,Slot w B m f bC s es clock K:=by obtain⟨es,clock,K,h1,h2,h3,h4,h5,h6⟩:=h;refine⟨es,clock,K,h1,h2,h3,h4,h5,h6,?_⟩;unfold nH;cases hF:Lf K s 0 with|none=>rw[XD (λhx=>BV hF ((h4 s).2 hx))];exact World.ownsRow_nil _ _ _ _|some p=>obtain⟨i,v⟩:=p;obtain⟨k,_,hK⟩:=pT hF;exact h5 _ (List.mem_of_getElem? hK)
def ny.nil w B m f(h:w.heap[m]? =some (.map #[] 0)):ny w B m f []:=⟨#[],0,[],h,rfl,by simp,(λs=>by simp),(λp hp=>by cases hp),λi j p q hp=>by simp at hp⟩
def Slot.put{w w1:World}{B m:Nat}{f:By->By}{bC:List By}{t:By}{es iy:Array MapEntry}{clock lJ:Nat}{K:List (By×Value)}(h:Slot w B m f bC (f t) es clock K){v1:Value}(hg:w.grownBy w1 (nH K (f t)).ownBlock) (hv:w1.ownsRow B 69 33 v1 ((gN f bC (f t)).length+1) (aK (gN f bC (f t))++ai t)) (hb:v1.ownBlock=(nH K (f t)).ownBlock∨∃g,v1.ownBlock=some g/\w.heap.size<=g) (Ia:iy.toList.map (λe=>(e.key,e.val))=(Ik K (f t) v1).map rN):ny {w1 with heap:=w1.heap.setIfInBounds m (.map iy lJ)} B m f (t::bC):=by
 have Sm:m<w.heap.size:=(Array.getElem?_eq_some_iff.1 h.at_).1;have Xd:w1.heap[m]? =some (.map es clock):=by
  rw[hg.block m Sm];exact h.at_;intro e;rcases h.own.2 with⟨h0,_⟩|⟨g,cap,cur,Hz,_,hc,_⟩;rw[h0]at e;cases e;rw[Hz]at e;have:m=g:=by have:=e.symm;exact(Option.some.inj this).symm
  subst this;rw[h.at_]at hc;cases hc
 have acR:m<w1.heap.size:=(Array.getElem?_eq_some_iff.1 Xd).1;have lC:∀p∈K,∃g,p.2.ownBlock=some g/\g<w.heap.size:=λp hp=>by obtain⟨t',ht',e⟩:=(h.mem p.1).1 (List.mem_map_of_mem hp);have hn:0< (gN f bC p.1).length:=List.length_pos_of_mem (a:=t') (by unfold gN;simp[ht',e]);obtain⟨g,Hz⟩:=Jn (h.rows p hp) hn;exact⟨g,Hz,((h.rows p hp).lt g Hz).2⟩
 have acY:∀p∈K,p.1≠f t->w1.ownsRow B 69 33 p.2 (gN f (t::bC) p.1).length (aK (gN f (t::bC) p.1)):=λp hp cE=>by
  rw[SB (λe=>cE e.symm)];refine(h.rows p hp).kept hg (.inr ?_);obtain⟨g,Hz,_⟩:=lC p hp;unfold nH;cases hF:Lf K (f t) 0 with
  |none=>rw[Hz];exact λe=>by cases e
  |some q=>obtain⟨i,v⟩:=q;obtain⟨k,_,hK⟩:=pT hF;obtain⟨j,hj⟩:=List.getElem?_of_mem hp;refine h.XW j k p _ hj hK λe=>?_;subst e;rw[hj]at hK;exact cE (by rw[Option.some.inj hK])
 have aaN:w1.ownsRow B 69 33 v1 (gN f (t::bC) (f t)).length (aK (gN f (t::bC) (f t))):=by rw[XC,List.length_append,dF];exact hv
 obtain⟨g1,hg1⟩:=Jn hv (by omega);cases hF:Lf K (f t) 0 with
 |none=>
 have hU:Ik K (f t) v1=K++[(f t,v1)]:=by unfold Ik;rw[hF]
 have hV:nH K (f t)=.slice none 0 0:=by unfold nH;rw[hF]
 have lG:w.heap.size<=g1:=by rcases hb with e|⟨g,e,hle⟩;rw[hV,hg1]at e;cases e;rw[hg1]at e;rw[Option.some.inj e];exact hle
 have MV:=BV hF;rw[hU]at Ia;refine⟨iy,lJ,_,Array.getElem?_setIfInBounds_self_of_lt acR,Ia,?_,λs=>?_,λp hp=>xg ?_ Xd _,λi j p q hp hq kx=>?_⟩;rw[List.map_append,List.nodup_append];exact⟨h.nodup,by simp,λa ha b nC e=>by simp only[List.map_cons,List.map_nil,List.mem_singleton]at nC;subst nC;subst e;exact MV ha⟩;rw[List.map_append,List.mem_append,h.mem s];simp only[List.map_cons,List.map_nil,List.mem_singleton,List.mem_cons,List.not_mem_nil,or_false];constructor;rintro(⟨t',h1,h2⟩|rfl);exact⟨t',.inr h1,h2⟩;exact⟨t,.inl rfl,rfl⟩;rintro⟨t',rfl|h1,h2⟩;exact .inr h2.symm;exact .inl ⟨t',h1,h2⟩;rcases List.mem_append.1 hp with hp|hp;exact acY p hp λe=>MV (by rw[<-e];exact List.mem_map_of_mem hp);rw[List.mem_singleton]at hp;subst hp;exact aaN;have kM:∀(i:Nat) p,(K++[(f t,v1)])[i]? =some p->(∃g,i<K.length/\K[i]? =some p/\p.2.ownBlock=some g/\g<w.heap.size)∨(i=K.length/\p=(f t,v1)):=λi p hp=>by
  rw[List.getElem?_append]at hp;split at hp;rename_i aM;obtain⟨g,h1,h2⟩:=lC p (List.mem_of_getElem? hp);exact .inl ⟨g,aM,hp,h1,h2⟩;rename_i hge;have:i-K.length=0:=by rcases Nat.eq_zero_or_pos (i-K.length)with h0|h0;exact h0;rw[List.getElem?_eq_none (by simp;omega)]at hp;cases hp
  rw[this]at hp;exact .inr ⟨by omega,(Option.some.inj hp).symm⟩
 rcases kM i p hp with⟨g,a1,a2,a3,a4⟩|⟨a1,rfl⟩<;>rcases kM j q hq with⟨g',b1,b2,b3,b4⟩|⟨b1,rfl⟩;exact h.XW i j p q a2 b2 kx;rw[a3,hg1];intro e;have:=Option.some.inj e;omega;rw[b3,hg1];intro e;have:=Option.some.inj e;omega;omega
 |some q0=>
 obtain⟨k,v0⟩:=q0;obtain⟨k',Sn,hK⟩:=pT hF;rw[Nat.zero_add]at Sn;subst Sn;have hU:Ik K (f t) v1=K.set k (f t,v1):=by unfold Ik;rw[hF]
 have hV:nH K (f t)=v0:=by unfold nH;rw[hF]
 have hkl:k<K.length:=(List.getElem?_eq_some_iff.1 hK).1;rw[hU]at Ia;have al3:(K.set k (f t,v1)).map (·.1)=K.map (·.1):=by rw[List.map_set];apply List.ext_getElem?;intro j;by_cases hj:k=j;subst hj;rw[List.getElem?_set_self (by simpa using hkl),List.getElem?_map,hK];rfl;rw[List.getElem?_set_ne hj]
 have kM:∀(i:Nat) p,(K.set k (f t,v1))[i]? =some p->(i≠k/\K[i]? =some p)∨(i=k/\p=(f t,v1)):=λi p hp=>by by_cases hik:i=k;subst hik;rw[List.getElem?_set_self hkl]at hp;exact .inr ⟨rfl,(Option.some.inj hp).symm⟩;rw[List.getElem?_set_ne (Ne.symm hik)]at hp;exact .inl ⟨hik,hp⟩
 have aid:∀(i:Nat) p,i≠k->K[i]? =some p->p.2.ownBlock≠v1.ownBlock:=λi p hik hp=>by rcases hb with e|⟨g,e,hle⟩;rw[e,hV];exact h.XW i k p _ hp hK hik;obtain⟨g',h1,h2⟩:=lC p (List.mem_of_getElem? hp);rw[h1,e];intro e';have:=Option.some.inj e';omega
 refine⟨iy,lJ,_,Array.getElem?_setIfInBounds_self_of_lt acR,Ia,by rw[al3];exact h.nodup,λs=>?_,λp hp=>xg ?_ Xd _,λi j p q hp hq kx=>?_⟩;rw[al3,h.mem s];constructor;rintro⟨t',h1,h2⟩;exact⟨t',List.mem_cons_of_mem _ h1,h2⟩;rintro⟨t',h1,h2⟩;rcases List.mem_cons.1 h1 with rfl|h1;exact(h.mem s).1 (by rw[<-h2];exact List.mem_map_of_mem (List.mem_of_getElem? hK));exact⟨t',h1,h2⟩;obtain⟨i,hi⟩:=List.getElem?_of_mem hp;rcases kM i p hi with⟨hik,JS⟩|⟨_,rfl⟩;refine acY p (List.mem_of_getElem? JS) λe=>hik ?_;have h1:(K.map (·.1))[i]? =some (f t):=by rw[List.getElem?_map,JS,<-e];rfl
 have h2:(K.map (·.1))[k]? =some (f t):=by rw[List.getElem?_map,hK];rfl
 have Pw:i< (K.map (·.1)).length:=(List.getElem?_eq_some_iff.1 h1).1;exact(List.getElem?_inj Pw h.nodup).1 (h1.trans h2.symm);exact aaN;rcases kM i p hp with⟨a1,a2⟩|⟨a1,rfl⟩<;>rcases kM j q hq with⟨b1,b2⟩|⟨b1,rfl⟩;exact h.XW i j p q a2 b2 kx;exact aid i p a1 a2;exact(aid j q b1 b2).symm;omega
end
end Ph
section
open ba
namespace Cp
open Wr En
structure mG(n:Nat)(ah:List (Nat×B)):Prop where
 up:(ah.map (·.1)).Pairwise (· < ·)
 lt:∀p∈ah,p.1<n
 full:∀p∈ah,p.2≠ []/\p.2.length<=610
def ir{ah:List (Nat×B)}{i t}(h:ah.lookup i=some t):(i,t)∈ah:=by
 induction ah with
 |nil=>cases h
 |cons p l ih=>
 obtain⟨a,b⟩:=p;rw[List.lookup_cons]at h;split at h;rename_i he;have:i=a:=by simpa using he
 cases h;subst this;exact List.mem_cons_self;exact List.mem_cons_of_mem _ (ih h)
def xl{ah:List (Nat×B)}{i}(h:ah.lookup i=none):∀p∈ah,p.1≠i:=by
 induction ah with
 |nil=>intro p hp;cases hp
 |cons q l ih=>obtain⟨a,b⟩:=q;rw[List.lookup_cons]at h;split at h;cases h;rename_i he;intro p hp;rcases List.mem_cons.1 hp with rfl|hp;intro e;exact absurd e.symm (by simpa using he);exact ih h p hp
def cnt(ah:List (Nat×B))(i:Nat):Nat:=(ah.filter λp=>decide (p.1<i)).length
def X8 ah:cnt ah 0=0:=by unfold cnt;rw[List.length_eq_zero_iff,List.filter_eq_nil_iff];simp
theorem Kr:∀ {ah:List (Nat×B)}{i:Nat}{t:B},(ah.map (·.1)).Pairwise (· < ·)->ah.lookup i=some t->cnt ah (i+1)=cnt ah i+1
 |[],i,t,_,h=>by cases h
 |(a,b)::l,i,t,mg,h=>by
  simp only[List.map_cons,List.pairwise_cons]at mg;obtain⟨h1,h2⟩:=mg;rw[List.lookup_cons]at h;unfold cnt;split at h;rename_i he;have hia:i=a:=by simpa using he
  subst hia;have e:∀k,k<=i+1->(l.filter λp=>decide (p.1<k))=[]:=λk hk=>by rw[List.filter_eq_nil_iff];intro p hp;have:=h1 p.1 (List.mem_map.2 ⟨p,hp,rfl⟩);simp;omega
  rw[List.filter_cons_of_pos (by simp),List.filter_cons_of_neg (by simp),e (i+1) (by omega),e i (by omega)];rfl;have ih:=Kr h2 h;unfold cnt at ih;by_cases ha:a<i;rw[List.filter_cons_of_pos (by simp;omega),List.filter_cons_of_pos (by simpa using ha),List.length_cons,List.length_cons,ih];have hm:=ir h;have:=h1 i (List.mem_map.2 ⟨_,hm,rfl⟩);omega
def Ks{ah i}(h:ah.lookup i=none):cnt ah (i+1)=cnt ah i:=by unfold cnt;congr 1;refine List.filter_congr λp hp=>?_;have:=xl h p hp;simp only[decide_eq_decide];omega
theorem Ut:∀(l:List Nat)(a b),l.Pairwise (· < ·)->(∀x∈l,a<=x/\x<b)->l.length<=b-a
 |[],_,_,_,_=>Nat.zero_le _|x::l,a,b,h,hb=>by rw[List.pairwise_cons]at h;have h1:=hb x List.mem_cons_self;have h2:=Ut l (x+1) b h.2 λy hy=>⟨h.1 y hy,(hb y (List.mem_cons_of_mem _ hy)).2⟩;rw[List.length_cons];omega
theorem anA{α:Type}(p:α->Bool):∀l:List α,l.length=(l.filter p).length+(l.filter λx=> !p x).length
 |[]=>rfl|x::l=>by have ih:=anA p l;cases h:p x;rw[List.filter_cons_of_neg (by simp[h]),List.filter_cons_of_pos (by simp[h]),List.length_cons,List.length_cons];omega;rw[List.filter_cons_of_pos (by simp[h]),List.filter_cons_of_neg (by simp[h]),List.length_cons,List.length_cons];omega
def ai2{n ah}(h:mG n ah){i}(hn:ah.lookup i=none):ah.length<=cnt ah i+(n-(i+1)):=by
 have hz:((ah.filter λp=> !decide (p.1<i)).map (·.1)).length<=n-(i+1):=by
  refine Ut _ _ _ (h.up.sublist (List.filter_sublist.map _)) λx hx=>?_;obtain⟨p,hp,rfl⟩:=List.mem_map.1 hx;obtain⟨hp1,hp2⟩:=List.mem_filter.1 hp;have:=xl hn p hp1;have h3:¬p.1<i:=by simpa using hp2
  exact⟨by omega,h.lt p hp1⟩
 have:=anA (λp:Nat×B=>decide (p.1<i)) ah;rw[List.length_map]at hz;unfold cnt;omega
structure FI(f:B->B)(P:List B)(ah:List (Nat×B))(ae:List B)(n i:Nat)(L:List B)(ms:List Nat)(nx:Nat):Prop where
 len:L.length=n
 ahead:∀j,i<=j->j<n->L.getD j []=(ah.lookup j).getD []
 res:fill f P ah n 0 ae=(L.take i++(fill f P ah (n-i) i (ae.drop nx)).1,ms++(fill f P ah (n-i) i (ae.drop nx)).2)
 at_:nx+cnt ah i=i
 le:i<=n
section
variable{f:B->B}{P:List B}{ah:List (Nat×B)}{ae:List B}{n i:Nat}{L:List B}{ms:List Nat}{nx:Nat}
def Dc{L:List B}{i t}(h:i<L.length):(L.set i t).take (i+1)=L.take i++[t]:=by rw[List.take_succ_eq_append_getElem (by rw[List.length_set];exact h),List.getElem_set_self,List.take_set_of_le ν]
def Eb{L:List B}{i}(h:i<L.length):L.take (i+1)=L.take i++[L.getD i []]:=by rw[List.take_succ_eq_append_getElem h,List.getD_eq_getElem?_getD,List.getElem?_eq_getElem h];rfl
def uy{L:List B}{i j t}(h:i≠j):(L.set i t).getD j []=L.getD j []:=by rw[List.getD_eq_getElem?_getD,List.getD_eq_getElem?_getD,List.getElem?_set_ne h]
def FI.skip(h:FI f P ah ae n i L ms nx)(hs:mG n ah)(hi:i<n)(hL:L.getD i []≠ []):FI f P ah ae n (i+1) L ms nx:=by have ha:=h.ahead i ν hi;cases hx:ah.lookup i with|none=>rw[hx]at ha;exact absurd ha hL|some t=>rw[hx]at ha;have ht:L.getD i []=t:=ha;refine⟨h.len,λj h1 h2=>h.ahead j (by omega) h2,?_,?_,by omega⟩;rw[h.res,show n-i=(n-(i+1))+1 by omega,fill,hx,Eb (by rw[h.len];exact hi),ht];simp;rw[Kr hs.up hx];have:=h.at_;omega
def FI.none(h:FI f P ah ae n i L ms nx)(hs:mG n ah)(hi:i<n)(hL:L.getD i []=[]):ah.lookup i=none:=by have ha:=h.ahead i ν hi;cases hx:ah.lookup i with|none=>rfl|some t=>rw[hx,hL]at ha;exact absurd ha.symm (hs.full _ (ir hx)).1
def FI.next(h:FI f P ah ae n i L ms nx)(hs:mG n ah)(hn:n=ae.length+ah.length)(hi:i<n)(hL:L.getD i []=[]):nx<ae.length:=by have h1:=ai2 hs (h.none hs hi hL);have h2:=h.at_;omega
def E5{ae:List B}{nx}(h:nx<ae.length):(ae.drop nx).headD []=ae.getD nx []/\(ae.drop nx).tail=ae.drop (nx+1):=by rw[List.drop_eq_getElem_cons h,List.getD_eq_getElem?_getD,List.getElem?_eq_getElem h];exact⟨rfl,rfl⟩
def FI.hit(h:FI f P ah ae n i L ms nx)(hs:mG n ah)(hn:n=ae.length+ah.length)(hi:i<n)(hL:L.getD i []=[]){t}(ht:sM f P (ae.getD nx [])=[t]):FI f P ah ae n (i+1) (L.set i t) ms (nx+1):=by have hx:=h.none hs hi hL;obtain⟨e1,e2⟩:=E5 (h.next hs hn hi hL);refine⟨by rw[List.length_set];exact h.len,λj h1 h2=>by rw[uy (by omega)];exact h.ahead j (by omega) h2,?_,?_,by omega⟩;rw[h.res,show n-i=(n-(i+1))+1 by omega,fill,hx];simp only[e1,ht,e2];rw[Dc (by rw[h.len];exact hi)];simp;rw[Ks hx];have:=h.at_;omega
def FI.asE(h:FI f P ah ae n i L ms nx)(hs:mG n ah)(hn:n=ae.length+ah.length)(hi:i<n)(hL:L.getD i []=[])(ht:(sM f P (ae.getD nx [])).length≠1):FI f P ah ae n (i+1) L (ms++[i]) (nx+1):=by
 have hx:=h.none hs hi hL;obtain⟨e1,e2⟩:=E5 (h.next hs hn hi hL);refine⟨h.len,λj h1 h2=>h.ahead j (by omega) h2,?_,?_,by omega⟩;rw[h.res,show n-i=(n-(i+1))+1 by omega,fill,hx];rw[Eb (by rw[h.len];exact hi),hL];simp only[e1,e2];generalize sM f P (ae.getD nx [])=hh at ht;match hh,ht with
 |[],_=>simp
 |[t],ht=>exact absurd rfl ht
 |a::b::l,_=>simp
 rw[Ks hx];have:=h.at_;omega
def FI.done(h:FI f P ah ae n n L ms nx):fill f P ah n 0 ae=(L,ms):=by rw[h.res,Nat.sub_self,fill];simp only[List.append_nil];rw[List.take_of_length_le (by rw[h.len];exact ν)]
end
def Gs{f:B->B}{P bC:List B}(h:∀p:B->Bool,bC.countP p=P.countP p)(s:B):(Ph.gN f bC s).length=(sM f P s).length/\∀t,Ph.gN f bC s=[t]->sM f P s=[t]:=by
 have hl:(Ph.gN f bC s).length=(sM f P s).length:=by unfold Ph.gN sM;rw[<-List.countP_eq_length_filter,<-List.countP_eq_length_filter,List.countP_reverse,h]
 refine⟨hl,λt ht=>?_⟩;rw[ht,List.length_singleton]at hl;obtain⟨u,hu⟩:=List.length_eq_one_iff.1 hl.symm;rw[hu];have h1:(P.countP λx=>x==t&&f x==s)=1:=by rw[<-h,<-List.countP_reverse,<-List.countP_filter];have:bC.reverse.filter (λx=>f x==s)=[t]:=ht;rw[this];simp
 rw[<-List.countP_filter]at h1;have:P.filter (λx=>f x==s)=[u]:=hu;rw[this]at h1;by_cases e:u=t;rw[e];simp[e]at h1
end Cp
namespace Cp
open Wr En
def ints(l:List Nat):List Int:=l.map λ(i:Nat)=>(i:Int)
def gP l:(ints l).length=l.length:=List.length_map _
def JC{n ah}(h:mG n ah){i t}(hx:ah.lookup i=some t):t≠ []/\t.length<=610:=h.full _ (ir hx)
section
variable{f:B->B}{P:List B}{ah:List (Nat×B)}
def JR{s t}(h:sM f P s=[t]):t∈P:=by
 have:t∈sM f P s:=by rw[h];exact List.mem_cons_self
 exact(List.mem_filter.1 this).1
theorem yU{N}(hs:mG N ah)(hP:∀t∈P,t≠ []/\t.length<=610):∀n i ss,(∀t∈(fill f P ah n i ss).1,t.length<=610)/\(∀j,j<n->(fill f P ah n i ss).1.getD j []=[]->i+j∈(fill f P ah n i ss).2)/\qh (i+n) i (ints (fill f P ah n i ss).2)
 |0,_,_=>⟨λt h=>(by cases h),λj h=>absurd h (Nat.not_lt_zero _),trivial⟩|n+1,i,ss=>by
  have Eg:∀(l:List Int)(lo lo':Int)(m:Nat),lo'<=lo->qh m lo l->qh m lo' l:=λl=>by cases l with|nil=>intros;trivial|cons a l=>exact λlo lo' m hl h=>⟨Int.le_trans hl h.1,h.2⟩
  rw[fill];split;rename_i t hx;obtain⟨h1,h2,h3⟩:=yU hs hP n (i+1) ss;obtain⟨t1,t2⟩:=JC hs hx;refine⟨λu hu=>?_,λj hj he=>?_,?_⟩;rcases List.mem_cons.1 hu with rfl|hu;exact t2;exact h1 u hu;cases j with|zero=>exact absurd he t1|succ j=>have:=h2 j (by omega) he;rwa[show i+(j+1)=i+1+j by omega]
  rw[show i+(n+1)=i+1+n by omega];exact Eg _ _ _ _ (by omega) h3;split;rename_i t ht;obtain⟨h1,h2,h3⟩:=yU hs hP n (i+1) ss.tail;obtain⟨t1,t2⟩:=hP t (JR ht);refine⟨λu hu=>?_,λj hj he=>?_,?_⟩;rcases List.mem_cons.1 hu with rfl|hu;exact t2;exact h1 u hu;cases j with|zero=>exact absurd he t1|succ j=>have:=h2 j (by omega) he;rwa[show i+(j+1)=i+1+j by omega]
  rw[show i+(n+1)=i+1+n by omega];exact Eg _ _ _ _ (by omega) h3;obtain⟨h1,h2,h3⟩:=yU hs hP n (i+1) ss.tail;refine⟨λu hu=>?_,λj hj he=>?_,?_⟩;rcases List.mem_cons.1 hu with rfl|hu;simp;exact h1 u hu;cases j with|zero=>exact List.mem_cons_self|succ j=>exact List.mem_cons_of_mem _ (by have:=h2 j (by omega) he;rwa[show i+(j+1)=i+1+j by omega])
  rw[show i+(n+1)=i+1+n by omega];exact⟨Int.le_refl _,by show(i:Int)< ((i+1+n:Nat):Int);omega,h3⟩
end
structure DN(s:RS):Prop where
 some:s.missing≠ []
 head:s.header.length=80
 pos:0<s.bE.length
 le:s.bE.length<=16
 short:∀t∈s.bE,t.length<=610
 asked:∀j,j<s.bE.length->s.bE.getD j []=[]->j∈s.missing
 akZ:qh s.bE.length 0 (ints s.missing)
def ajx(s:RS):Prop:=s=idle∨DN s
def VW{l}{j:Nat}(h:j∈l):(j:Int)∈ints l:=List.mem_map.2 ⟨j,h,rfl⟩
def DN.lt{s}(h:DN s){j}(hj:j∈s.missing):j<s.bE.length:=by have:=FF _ _ _ h.akZ _ (VW hj);omega
def DN.few{s}(h:DN s):s.missing.length<=16:=by rcases zN _ _ _ (by omega) h.akZ with h1|h1;rw[gP]at h1;have:=h.le;omega;have:=congrArg List.length h1;rw[gP]at this;simp at this;rw[this];simp
theorem Kd:∀(is:List Nat)(us ts:List B),is.length=us.length->(∀u∈us,u≠ []/\u.length<=610)->(∀t∈ts,t.length<=610)->(∀i∈is,i<ts.length)->(∀j,j<ts.length->ts.getD j []=[]->j∈is)->∀t∈put ts is us,t≠ []/\t.length<=610
 |[],[],ts,_,_,h1,_,h2,t,ht=>by have ht':t∈ts:=ht;refine⟨λe=>?_,h1 t ht'⟩;obtain⟨j,hj,he⟩:=List.mem_iff_getElem.1 ht';have:=h2 j hj (by rw[List.getD_eq_getElem?_getD,List.getElem?_eq_getElem hj];simpa[e]using he);cases this
 |i::is,u::us,ts,hl,hu,h1,aM,h2,t,ht=>by rw[put]at ht;have yl:=hu u List.mem_cons_self;have hi:=aM i List.mem_cons_self;refine Kd is us (ts.set i u) (by simpa using hl) (λx hx=>hu x (List.mem_cons_of_mem _ hx)) (λx hx=>?_) (λx hx=>by rw[List.length_set];exact aM x (List.mem_cons_of_mem _ hx)) (λj hj he=>?_) t ht;rcases List.mem_or_eq_of_mem_set hx with hx|rfl;exact h1 x hx;exact yl.2;rw[List.length_set]at hj;by_cases aS:i=j;subst aS;rw[List.getD_eq_getElem?_getD,List.getElem?_set_self hj]at he;exact absurd he yl.1;rw[uy aS]at he;rcases List.mem_cons.1 (h2 j hj he)with rfl|h;exact absurd rfl aS;exact h
 |[],_::_,_,hl,_,_,_,_,_,_=>by simp at hl|_::_,[],_,hl,_,_,_,_,_,_=>by simp at hl
theorem Af:∀(is:List Nat)(us ts:List B)(k),is.length=us.length->k<is.length->put ts (is.take (k+1)) (us.take (k+1))=(put ts (is.take k) (us.take k)).set (is.getD k 0) (us.getD k [])
 |[],us,ts,k,_,h=>by simp at h|i::is,[],ts,k,hl,_=>by simp at hl|i::is,u::us,ts,0,_,_=>by simp[put]|i::is,u::us,ts,k+1,hl,h=>by rw[List.take_succ_cons,List.take_succ_cons,put,Af is us (ts.set i u) k (by simpa using hl) (by simpa using h)];rfl
theorem Ah:∀(ah:List (Nat×B))(ts)(j),(ah.map (·.1)).Pairwise (· < ·)->(∀p∈ah,p.1<ts.length)->j<ts.length->(put ts (ah.map (·.1)) (ah.map (·.2))).getD j []=(ah.lookup j).getD (ts.getD j [])
 |[],ts,j,_,_,_=>rfl|(a,b)::l,ts,j,mg,aM,hj=>by
  simp only[List.map_cons,List.pairwise_cons]at mg;rw[List.map_cons,List.map_cons,put,Ah l (ts.set a b) j mg.2 (λp hp=>by rw[List.length_set];exact aM p (List.mem_cons_of_mem _ hp)) (by rw[List.length_set];exact hj),List.lookup_cons];by_cases h:j=a;subst h;have hn:l.lookup j=none:=by cases hx:l.lookup j with|none=>rfl|some t=>have:=mg.1 j (List.mem_map.2 ⟨_,ir hx,rfl⟩);omega
  rw[hn];simp[List.getElem?_set_self hj,List.getD_eq_getElem?_getD];have:(j==a)=false:=by simpa using h
  rw[this];simp only[uy (Ne.symm h)]
def gZ(f:B->B)(P:List B)(c:Wr.Cb):(Nat×B)×RS:=
 let r:=fill f P c.ah (c.ae.length+c.ah.length) 0 c.ae
 if r.2=[]then(finish c.header r.1,idle)else((1,request c.header r.2),⟨c.header,r.1,r.2⟩)
def Co{P:List B}{l:B}{c:Wr.Cb}{r:B}(h:Wr.cg l=.ok c r)(hn:c.ae.Nodup):compact P l=((gZ (En.short c.header c.aI) P c).1,0,(gZ (En.short c.header c.aI) P c).2):=by unfold compact gZ;simp only[h,hn,not_true_eq_false,if_false];split<;>rfl
end Cp
end
section
open Go.RowKit ba
def fJ{ops rest o a C Q}(jk:o.guard=none) ty x(ho:o.op=.load ty x) g l (hx:a.eval x=.pointer (some ⟨g,0,none⟩)) (hr:∀w,C w->Row w g l) d (hu:prog.underlying ty=some d) (hi:(prog.info? ty).map (·.size)=some l.length) fs (hd:d=.struct fs) (h:wpQuiet prog ops C Q rest (a.put o.dst (.agg l.toArray))):wpQuiet prog ops C Q (o::rest) a:=by subst hd;unfold wpQuiet;rw[if_pos (by simp[Region.wanted,jk])];refine⟨_,λw hw=>?_,h⟩;have:=run_loadAt_mid (P:=prog) w g 0 ty l _ (λj v hv=>by rw[Nat.zero_add,(hr w hw).cell];exact hv) hu rfl hi;unfold Oper.quietAt execOp;simp only[ho,hx,Sem.run_bind,this,Result.andThen_ok,Sem.run_pure,Oper.quietUpon];first|trivial|exact⟨trivial,trivial⟩|exact⟨rfl,rfl⟩|exact⟨rfl,hw⟩
def GK(g h:Nat)(w:World):CallsD prog 79 #[.pointer (some ⟨g,0,none⟩),.pointer (some ⟨h,0,none⟩)] .returning w λe u' w'=>e=.returned (.tuple #[])/\u'=.returning/\w'=w:=by refine callsD_of_wpS func79 rfl λuH cs hu=>?_;simp only[ntmps79,List.size_toArray,List.length_cons,List.length_nil,Nat.reduceAdd,Nat.reduceSub,Array.replicate_succ,Array.replicate_zero,List.push_toArray,List.append_toArray,List.nil_append,List.cons_append];apply wpS_seq;apply wpS_region;simp[wpOpsS,go_sem,recoverD,hu,Exit.thenS];refine wpS_of_wp ?_;go_wp2_with fail;cases uH;simp_all[bodyPostS,results,results79]
def mh(g h:Nat)(n m:Int)(l:List Value)(w:World)(hg:Row w g l)(hh:Row w h [.int .i64 m])(hl:l.length=33)(cE:g≠h):CallsD prog 79 #[.pointer (some ⟨g,0,none⟩),.pointer (some ⟨h,0,none⟩)] (.panicking (fI n)) w λe u' w'=>e=.returned (.tuple #[])/\u'=.panicking [{v:=.iface 146 (.agg #[.int .i64 n]),recovered:=true}]/\Row w' g dc/\Row w' h [.int .i64 n]/\aV (λk=>k=g∨k=h) w w':=by
 refine callsD_of_wpS func79 rfl λuH cs hu=>?_;simp only[ntmps79,List.size_toArray,List.length_cons,List.length_nil,Nat.reduceAdd,Nat.reduceSub,Array.replicate_succ,Array.replicate_zero,List.push_toArray,List.append_toArray,List.nil_append,List.cons_append];apply wpS_seq;apply wpS_region;unfold fI at hu;have Y5:∀(w:World),(Instr.typeAssert (.iface 146 (.agg #[.int .i64 n])) 20 146 true).run prog w=.ok (.tuple #[.agg #[.int .i64 n],.bool true]) w:=λw=>by kernel_rfl
 simp[wpOpsS,go_sem,recoverD,hu,Exit.thenS];refine wpS_of_wp ?_;have hzg:=hg.lt;have hzh:=hh.lt;have r1:Row ((w.alloc (.cells #[.int .i64 n] 146)).alloc (.cells dc.toArray 69)) w.heap.size [.int .i64 n]:=(Row.new w [.int .i64 n] 146).alloc _;have r2:Row ((w.alloc (.cells #[.int .i64 n] 146)).alloc (.cells dc.toArray 69)) (w.heap.size+1) dc:=by have:=Row.new (w.alloc (.cells #[.int .i64 n] 146)) dc 69;rwa[World.size_alloc]at this
 have r3:Row ((w.alloc (.cells #[.int .i64 n] 146)).alloc (.cells dc.toArray 69)) g l:=(hg.alloc _).alloc _;have r4:Row ((w.alloc (.cells #[.int .i64 n] 146)).alloc (.cells dc.toArray 69)) h [.int .i64 m]:=(hh.alloc _).alloc _;have kk:aV (λk=>k=g∨k=h) w ((w.alloc (.cells #[.int .i64 n] 146)).alloc (.cells dc.toArray 69)):=((aV.refl _ _).alloc _).alloc _;rw[Tryz.gI]at r1 r2 r3 r4 kk;clear hg hh;go_wp2_with fail;generalize(w.alloc _).alloc _=w1 at r1 r2 r3 r4 kk|-;generalize w.heap.size=A at *;have hu:∀u:ax.Of (λu=>Row u A [.int .i64 n]/\Row u (A+1) dc),u.w.cell? ⟨A,0,none⟩=some (.int .i64 n):=λu=>u.h.1.cell 0;haveI aaO:Nonempty (ax.Of (λu=>Row u A [.int .i64 n]/\Row u (A+1) dc)):=⟨⟨w1,r1,r2⟩⟩;refine ax.bM [0,1,2] 2 mixed (by kernel_rfl) rfl rfl (λc a d v w h=>by cases d<;>exact h) (by as_aux_lemma=>kernel_rfl) rfl (λu=>Row u A [.int .i64 n]/\Row u (A+1) dc) ⟨r1.drew,r2.drew⟩ ?_;show wpQuiet _ _ _ _ [_,_,_] _;refine fJ (o:=⟨some 12,_,_,_,_,_⟩) rfl _ _ rfl (A+1) dc rfl (λw hw=>by obtain⟨u,rfl⟩:=hw;exact u.h.2) _ underlying69 (cW.trans (by rw[bq])) _ rfl ?_;go_frame;repeat(go_big_quiet_step (fail))
 refine wpQuiet_nil ?_;have r1:=r1.drew;have r2:=r2.drew;have r3:=r3.drew;have r4:=r4.drew;have kk:=kk.drew;generalize w1.drew=w2 at r1 r2 r3 r4 kk|-;refine ax.one 3 _ (by kernel_rfl) rfl rfl ?_;refine au rfl _ _ _ rfl g l dc rfl rfl r3 (cW.trans (by rw[bq])) (by rw[hl,bq]) (by decide +kernel) ?_;have s1:=r1.aG (g:=g) (by omega) dc.toArray;have s2:=r2.aG (g:=g) (by omega) dc.toArray;have s3:=r3.setRow dc;have s4:=r4.aG (g:=g) (Ne.symm cE) dc.toArray;have kk:=kk.setRow g dc.toArray (.inl rfl);generalize w2.setRow g _=w3 at s1 s2 s3 s4 kk|-;refine⟨ax.aq ⟨s1,s2⟩,?_⟩;refine ax.one 4 _ (by kernel_rfl) rfl rfl ?_;have hz:=s4.free 0;have hc:=s4.cell 0;try go_frame
 go_wp2_with fail;refine⟨ax.aq ⟨s1.other (show h≠A by omega) _,s2.other (show h≠A+1 by omega) _⟩,?_⟩
 refine wpAnyH_done (by kernel_rfl) ?_ 0;go_wp2_with fail;refine⟨rfl,_,rfl,.tuple #[],results_none rfl _ _ _,rfl,rfl,s3.other (Ne.symm cE) _,s4.set 0 _,kk.set _ _ (.inr rfl)⟩
def cV{fn:Func}{p u:Tmp}{ty:TypeId}(h:fn.results=#[.cell p ty,.cell u 29])(tmps:Array Value)(w:World)(g k:Nat)(l:List Value)(n:Int) (hp:tmps.getD p undef=.pointer (some ⟨g,0,none⟩)) (hu:tmps.getD u undef=.pointer (some ⟨k,0,none⟩)) (hr:Row w g l) (hk:Row w k [.int .i64 n]) (fs:_) (ht:prog.underlying ty=some (.struct fs)) (hi:(prog.info? ty).map (·.size)=some l.length):(results fn tmps).run prog w=.ok (.tuple #[.agg l.toArray,.int .i64 n]) w:=by
 have h2:(loadVar ty ⟨g,0,none⟩).run prog w=.ok (.agg l.toArray) w:=run_loadVar_mid w g 0 _ l _ (λj v hv=>by rw[Nat.zero_add,hr.cell];exact hv) ht rfl hi;have hc:w.cell? ⟨k,0,none⟩=some (.int .i64 n):=hk.cell 0;have JP:tmps[p]?.getD undef=.pointer (some ⟨g,0,none⟩):=by simpa using hp
 have EL:tmps[u]?.getD undef=.pointer (some ⟨k,0,none⟩):=by simpa using hu
 have h3:(loadVar 29 ⟨k,0,none⟩).run prog w=.ok (.int .i64 n) w:=by clear h2;simp[go_sem,hc]
 unfold results;rw[h];simp[asAddr,JP,EL,h2,h3]
def LW:Wr.R (List UInt8)->Value
 |.ok t _=>.tuple #[Fp t,.int .i64 0]|.bad n=>.tuple #[.agg dc.toArray,.int .i64 n]
def FT(l:List UInt8)(w:World)(hT:cG w)(hl:l.length<=9223372036854775807):Calls prog 46 #[.string (str l),.func (.func 47) #[] #[]] w λe w'=>e=.returned (LW (Wr.cN l))/\Below w.heap.size w w':=by
 have hmf:=EC;have gM:=hT.lt;have HT:=η hT;have EQ:=η (show Wr.cN l=(Wr.tx l).bind λa r=>if r=[]then .ok a r else .bad 5 from rfl);have r1:Row (((w.alloc (.cells dc.toArray 69)).alloc (.cells #[.int .i64 0] 29)).alloc (.cells #[.string (str l)] 120)) w.heap.size dc:=((Row.new w dc 69).alloc _).alloc _;have r2:Row (((w.alloc (.cells dc.toArray 69)).alloc (.cells #[.int .i64 0] 29)).alloc (.cells #[.string (str l)] 120)) (w.heap.size+1) [.int .i64 0]:=by have:=Row.new (w.alloc (.cells dc.toArray 69)) [.int .i64 0] 29;rw[World.size_alloc]at this;exact this.alloc _
 have r3:Row (((w.alloc (.cells dc.toArray 69)).alloc (.cells #[.int .i64 0] 29)).alloc (.cells #[.string (str l)] 120)) (w.heap.size+2) [.string (str l)]:=by have:=Row.new ((w.alloc (.cells dc.toArray 69)).alloc (.cells #[.int .i64 0] 29)) [.string (str l)] 120;rw[World.size_alloc,World.size_alloc]at this;exact this
 have hB:Below w.heap.size w (((w.alloc (.cells dc.toArray 69)).alloc (.cells #[.int .i64 0] 29)).alloc (.cells #[.string (str l)] 120)):=(((Below.refl _ _).alloc ν _).alloc (by simp) _).alloc (by simp;omega) _;rw[Tryz.gI]at r1 r2 r3 hB;clear hT;go_enter_defers func46,ntmps46;go_wp2_with fail;generalize((w.alloc _).alloc _).alloc _=w1 at r1 r2 r3 hB|-;have HB:=η hB;have hz:=hB.size;have lL:=r3.lt;have R1:=η r1;have R2:=η r2;have T1:=η (zm (w.heap.size+2) l w1 (HT.o.below hB gM) (by omega) r3 hl)
 clear r1 r2 r3 hB;refine T1.o.mono ?_;clear T1;cases hx:Wr.tx l with
 |bad n=>rintro e w2⟨rfl,h⟩;rw[hx]at EQ;have H1:=h.row R1.o R1.o.lt (by omega);have H2:=h.row R2.o R2.o.lt (by omega);refine leaves_cons (f:=79) (args:=#[.pointer (some ⟨w.heap.size,0,none⟩),.pointer (some ⟨w.heap.size+1,0,none⟩)]) (by simp) (by simp[go_sem]) ?_;refine(mh w.heap.size (w.heap.size+1) n 0 dc w2 H1 H2 bq (by omega)).mono ?_;rintro e u' w3⟨rfl,rfl,h5,h6,h7⟩;refine⟨_,cV rfl _ _ w.heap.size (w.heap.size+1) dc n rfl rfl h5 h6 _ underlying69 (cW.trans (by rw[bq])),?_,?_⟩;rw[show Wr.cN l=.bad n from EQ.o];rfl;exact HB.o.trans ⟨h7.os.trans h.os,h7.tape.trans h.tape,h7.output.trans h.output,Nat.le_trans h.size h7.size,λk hk=>(h7.block k (by have:=h.size;omega) (by omega)).trans (h.block k (by omega) (by omega))⟩
 |ok t r=>
 rintro e w2⟨rfl,h3,h⟩;rw[hx]at EQ;have iH:=η (show Wr.cN l=if r=[]then .ok t r else .bad 5 from EQ.o);have H1:=h.row R1.o R1.o.lt (by omega);have H2:=h.row R2.o R2.o.lt (by omega);have gK:=h.size;have B2:=η (show Below w.heap.size w w2 from HB.o.trans ⟨h.os,h.tape,h.output,h.size,λk hk=>h.block k (by omega) (by omega)⟩);have S1:=η (H1.setRow (ai t));have S2:=η (H2.aG (g:=w.heap.size) (by omega) (ai t).toArray);have S3:=η (h3.aG (g:=w.heap.size) (by omega) (ai t).toArray);have B3:=η (below_setRow B2.o ν (ai t).toArray);clear EQ h h3 H2 R1 R2 HB hx;go_wp2_with (with_reducible refine au (o:=⟨none,_,_,_,_,_⟩) rfl _ _ _ rfl w.heap.size dc (ai t) rfl rfl H1 (cW.trans (by rw[aE])) (by rw[aE,bq]) (aY t) ?_);clear H1;generalize w2.setRow _ _=w3 at S1 S2 S3 B3|-;refine(nt (w.heap.size+2) r w3 S3.o).mono ?_;by_cases hr:r=[]
 ·simp only[if_pos hr];rintro e w4⟨rfl,rfl⟩;have kK:=S1.o;have S4:=η (S2.o.aG (g:=w.heap.size) (by omega) (ai t).toArray);have S5:=η (S1.o.setRow (ai t));have B5:=η (below_setRow B3.o ν (ai t).toArray);have Pf:=S4.o.free 0;have Zb:=S4.o.cell 0;go_wp2_with (first|(refine dW (o:=⟨some 19,_,_,_,_,_⟩) rfl _ _ rfl w.heap.size (ai t) rfl kK _ underlying69 (cW.trans (by rw[aE])) _ rfl ?_)|(with_reducible refine au (o:=⟨none,_,_,_,_,_⟩) rfl _ _ _ rfl w.heap.size (ai t) (ai t) rfl rfl kK (cW.trans (by rw[aE])) rfl (aY t) ?_));refine leaves_cons (f:=79) (args:=#[.pointer (some ⟨w.heap.size,0,none⟩),.pointer (some ⟨w.heap.size+1,0,none⟩)]) (by simp) (by simp[go_sem]) ?_;refine(GK w.heap.size (w.heap.size+1) _).mono ?_;rintro e u' w5⟨rfl,rfl,rfl⟩;refine⟨_,cV rfl _ _ w.heap.size (w.heap.size+1) (ai t) 0 rfl rfl (S5.o.other (show w.heap.size+1≠w.heap.size by omega) _) (S4.o.set 0 _) _ underlying69 (cW.trans (by rw[aE])),?_,?_⟩;rw[show Wr.cN l=.ok t r from iH.o.trans (if_pos hr)];rfl;exact B5.o.setCell (show w.heap.size<=w.heap.size+1 by omega) _
 simp only[if_neg hr];rintro e w4⟨rfl,rfl⟩;refine leaves_cons (f:=79) (args:=#[.pointer (some ⟨w.heap.size,0,none⟩),.pointer (some ⟨w.heap.size+1,0,none⟩)]) (by simp) (by simp[go_sem]) ?_;refine(mh w.heap.size (w.heap.size+1) 5 0 (ai t) w4 S1.o S2.o (aE t) (by omega)).mono ?_;rintro e u' w5⟨rfl,rfl,h5,h6,h7⟩;refine⟨_,cV rfl _ _ w.heap.size (w.heap.size+1) dc 5 rfl rfl h5 h6 _ underlying69 (cW.trans (by rw[bq])),?_,?_⟩;rw[show Wr.cN l=.bad 5 from iH.o.trans (if_neg hr)];rfl;exact B3.o.trans ⟨h7.os,h7.tape,h7.output,h7.size,λk hk=>h7.block k (by have:=B3.o.size;omega) (by omega)⟩
def th(n:Int):∀(w:World),(Instr.typeAssert (.iface 146 (.agg #[.int .i64 n])) 20 146 true).run prog w=.ok (.tuple #[.agg #[.int .i64 n],.bool true]) w:=λw=>by kernel_rfl
def QZ x:∃(cs:List Value)(n:Int),LW x=.tuple #[.agg cs.toArray,.int .i64 n]/\cs.length=33/\cs.all (·.oneCell')=true:=by cases x with|ok t r=>exact⟨ai t,0,rfl,aE t,aY t⟩|bad n=>exact⟨dc,n,rfl,bq,by decide +kernel⟩
def cn{fn p u ty}(h:fn.results=#[.cell p ty,.tmp u]) tmps w g l v (hp:tmps.getD p undef=.pointer (some ⟨g,0,none⟩)) (hu:tmps.getD u undef=v) (hr:Row w g l) fs (ht:prog.underlying ty=some (.struct fs)) (hi:(prog.info? ty).map (·.size)=some l.length):(results fn tmps).run prog w=.ok (.tuple #[.agg l.toArray,v]) w:=by
 have h2:(loadVar ty ⟨g,0,none⟩).run prog w=.ok (.agg l.toArray) w:=run_loadVar_mid w g 0 _ l _ (λj v hv=>by rw[Nat.zero_add,hr.cell];exact hv) ht rfl hi;have JP:tmps[p]?.getD undef=.pointer (some ⟨g,0,none⟩):=by simpa using hp
 have EL:tmps[u]?.getD undef=v:=by simpa using hu
 unfold results;rw[h];simp[asAddr,JP,EL,h2]
def rE(l:List UInt8)(w:World)(hT:cG w)(hl:l.length<=9223372036854775807):Calls prog 24 #[.string (str l)] w λe w'=>e=.returned (LW (Wr.cN l))/\Below w.heap.size w w':=by
 obtain⟨cs,n,hE,pO,Ib⟩:=QZ (Wr.cN l);rw[hE];have gM:=hT.lt;have r1:Row (w.alloc (.cells dc.toArray 69)) w.heap.size dc:=Row.new w dc 69;have hB:Below w.heap.size w (w.alloc (.cells dc.toArray 69)):=(Below.refl _ _).alloc ν _;rw[Tryz.gI]at r1 hB;go_enter func24,ntmps24;go_wp2_with fail;generalize w.alloc _=w1 at r1 hB|-;have HB:=η hB;have R1:=η r1;have hz:=r1.lt;have T1:=η (FT l w1 (hT.below hB gM) hl);rw[hE]at T1;clear hT hB r1 hE;refine T1.o.mono ?_;clear T1;rintro e w2⟨rfl,h2⟩;have H1:=R1.o.below h2 hz;have B2:=η (HB.o.trans (h2.mono (by omega)))
 have S1:=η (H1.setRow cs);have B3:=η (below_setRow B2.o ν cs.toArray);clear h2 R1 HB;go_wp2_with (with_reducible refine au (o:=⟨none,_,_,_,_,_⟩) rfl _ _ _ rfl w.heap.size dc cs rfl rfl H1 (cW.trans (by rw[pO])) (by rw[pO,bq]) Ib ?_);exact bodyPost_ret (v:=.tuple #[.agg cs.toArray,.int .i64 n]) (cn rfl _ _ w.heap.size cs (.int .i64 n) rfl rfl S1.o _ underlying69 (cW.trans (by rw[pO]))) rfl ⟨rfl,B3.o⟩
def eM t:(Mk.ak t).length=32:=aR.fO _
def UA:Wr.R (List UInt8)->Value
 |.ok t _=>.tuple #[.string (str (Mk.ak t)),.int .i64 0]|.bad n=>.tuple #[.string (str []),.int .i64 n]
def Db{w g t}(h:Row w g (ai t)):Bytes w g 1 (Mk.ak t):=λj hj=>by rw[h.cell];unfold ai;rw[Nat.add_comm,List.getElem?_cons_succ,iL _ _ hj]
def zY{l n}(h:Wr.cN l=.bad n):n≠0:=by have:=Rf.Cd (Rf.aca l);rw[show Wr.fin (Wr.tx l)=.bad n from h]at this;exact this.2
def zl(l:List UInt8)(w:World)(hT:cG w)(hl:l.length<=9223372036854775807):Calls prog 9 #[.string (str l)] w λe w'=>e=.returned (UA (Wr.cN l))/\Below w.heap.size w w':=by
 have gM:=hT.lt;have T1:=η (rE l w hT hl);clear hT;go_enter func9,ntmps9;go_wp2_with fail;refine T1.o.mono ?_;clear T1;cases hx:Wr.cN l with
 |bad n=>
 rintro e w1⟨rfl,hb⟩;have hn:=zY hx;have p1:¬(n:Int)=0:=by omega
 have EQ:=η hx;obtain⟨cs,hE,pO,Ib⟩:∃cs:List Value,LW (.bad n)=.tuple #[.agg cs.toArray,.int .i64 n]/\cs.length=33/\cs.all (·.oneCell')=true:=⟨dc,rfl,bq,by decide +kernel⟩;rw[hE];have r1:Row (w1.alloc (.cells dc.toArray 69)) w1.heap.size dc:=Row.new w1 dc 69;have hB:Below w1.heap.size w1 (w1.alloc (.cells dc.toArray 69)):=(Below.refl _ _).alloc ν _;have B1:=η (hb.trans ((below_setRow hB ν cs.toArray).mono hb.size));rw[Tryz.gI]at r1 hB B1;have H1:=r1;clear hx hb r1 hB hn hE;go_wp2_with (with_reducible refine au (o:=⟨none,_,_,_,_,_⟩) rfl _ _ _ rfl w1.heap.size dc cs rfl rfl H1 (cW.trans (by rw[pO])) (by rw[pO,bq]) Ib ?_);go_ret2;exact⟨by rw[EQ.o];rfl,B1.o⟩
 |ok t r=>rintro e w1⟨rfl,hb⟩;have EQ:=η hx;dsimp only[LW];have r1:Row (w1.alloc (.cells dc.toArray 69)) w1.heap.size dc:=Row.new w1 dc 69;have hB:Below w1.heap.size w1 (w1.alloc (.cells dc.toArray 69)):=(Below.refl _ _).alloc ν _;have B1:=η (hb.trans ((below_setRow hB ν (ai t).toArray).mono hb.size));have H2:=Db (r1.setRow (ai t));rw[Tryz.gI]at r1 hB B1 H2;have H1:=r1;clear hx hb r1 hB;go_wp2_with (first|(with_reducible refine au (o:=⟨none,_,_,_,_,_⟩) rfl _ _ _ rfl w1.heap.size dc (ai t) rfl rfl H1 (cW.trans (by rw[aE])) (by rw[aE,bq]) (aY t) ?_)|(with_reducible refine ja (o:=⟨some 16,_,_,_,_,_⟩) rfl _ _ _ _ rfl w1.heap.size 1 32 32 (Mk.ak t) (eM t) rfl underlying64 underlying5 underlying9 H2 ?_));go_ret2;exact⟨by rw[EQ.o];rfl,B1.o⟩
def cD:List Value:=[.string (str []),.slice none 0 0]
def pr(h:List UInt8)(v:Value):List Value:=[.string (str h),v]
def Hm{α:Type}(x:Wr.R α)(hd:α->List UInt8)(t:TypeId)(z:Nat)(n:α->Nat)(xs:α->List Value)(b:Nat)(w:World)(e:Ending)(w':World):Prop:=match x with
 |.ok a r=>∃v,e=.returned (.agg (pr (hd a) v).toArray)/\w'.ownsRow w.heap.size t z v (n a) (xs a)/\Row w' b [.string (str r)]/\cA w.heap.size b w w'
 |.bad k=>e=.panicked (fI (k:Int))/\cA w.heap.size b w w'
def Hm.bh{α}{x:Wr.R α}{hd t z n xs b w w' k}(hx:x=.bad k)(h2:cA w.heap.size b w w'):Hm x hd t z n xs b w (.panicked (fI (k:Int))) w':=by subst hx;exact⟨rfl,h2⟩
def Hm.ko{α}{x:Wr.R α}{hd t z n xs b w w' a r v}(hx:x=.ok a r)(h1:w'.ownsRow w.heap.size t z v (n a) (xs a))(h2:Row w' b [.string (str r)])(h3:cA w.heap.size b w w'):Hm x hd t z n xs b w (.returned (.agg (pr (hd a) v).toArray)) w':=by subst hx;exact⟨v,rfl,h1,h2,h3⟩
def uU{α:Type}(x:Wr.R α)(hd:α->List UInt8)(t:TypeId)(z:Nat)(n:α->Nat)(xs:α->List Value)(w:World)(e:Ending)(w':World):Prop:=match x with
 |.ok a _=>∃v,e=.returned (.tuple #[.agg (pr (hd a) v).toArray,.int .i64 0])/\w'.ownsRow w.heap.size t z v (n a) (xs a)/\Below w.heap.size w w'
 |.bad k=>e=.returned (.tuple #[.agg cD.toArray,.int .i64 k])/\Below w.heap.size w w'
def uU.bh{α}{x:Wr.R α}{hd t z n xs w w' k}(hx:x=.bad k)(h2:Below w.heap.size w w'):uU x hd t z n xs w (.returned (.tuple #[.agg cD.toArray,.int .i64 k])) w':=by subst hx;exact⟨rfl,h2⟩
def uU.ko{α}{x:Wr.R α}{hd t z n xs w w' a r v}(hx:x=.ok a r)(h1:w'.ownsRow w.heap.size t z v (n a) (xs a))(h3:Below w.heap.size w w'):uU x hd t z n xs w (.returned (.tuple #[.agg (pr (hd a) v).toArray,.int .i64 0])) w':=by subst hx;exact⟨v,rfl,h1,h3⟩
structure PI(w:World)(b:Nat)(n:Nat)(lk:List UInt8)(wk:World):Prop where
 cur:Row wk b [.string (str lk)]
 own:Row wk w.heap.size cD
 but:cA w.heap.size b w wk
 le:lk.length<=n
def PI.step{w b n lk My wk sf}(h:PI w b n lk wk)(hb:b<w.heap.size)(h1:Row sf b [.string (str My)])(h2:cA wk.heap.size b wk sf)(hl:My.length<=lk.length):PI w b n My sf:=⟨h1,h2.row h.own h.own.lt (by omega),h.but.trans (h2.mono h.but.size),Nat.le_trans hl h.le⟩
def PI.bad{w b n lk wk sf}(h:PI w b n lk wk)(h2:cA wk.heap.size b wk sf):cA w.heap.size b w sf:=h.but.trans (h2.mono h.but.size)
def aO{w:World}{B n e z v xs}(h:w.ownsRow B e z v n xs):∃a c,v=.slice a n c:=by rcases h.2 with⟨rfl,rfl⟩|⟨g,cap,cur,rfl,_⟩;exact⟨none,0,rfl⟩;exact⟨_,cap,rfl⟩
namespace Wr
def Tk(l:List UInt8):R (List UInt8×List (List UInt8)):=(take 80 l).bind λh r=>(cM 1 16 r).bind λn r=>(bE n r).map λts=>(h,ts)
def QB(l:List UInt8):R (List UInt8×List (List UInt8)):=(take 32 l).bind λh r=>(cM 1 16 r).bind λn r=>(bE n r).map λts=>(h,ts)
def QJ(l:List UInt8):R (List UInt8×List Nat):=(take 32 l).bind λh r=>(cM 1 16 r).bind λn r=>(indexes 16 n 0 r).map λis=>(h,is)
end Wr
def KA(s:ByteArray)(a:Option Addr)(n c:Nat):prog.built 101 [(0,.string s),(1,.slice a n c)]=some #[.string s,.slice a n c]:=by kernel_rfl
def bP:(prog.info? 101).map (·.size)=some 2:=by kernel_rfl
def KE{ops:Array Oper}{rest:List Oper}{o:Oper}{a:Act}{w:World}{Q:Exit->Act->World->Prop}(jk:o.guard=none)(x y:Operand)(ho:o.op=.build 101 #[(0,x),(1,y)]) (s:List UInt8) (v:Value) (hv:∃a n c,v=.slice a n c) (hx:a.eval x=.string (str s)) (hy:a.eval y=v) (h:wpList prog ops Q rest (a.put o.dst (.agg (pr s v).toArray)) w):wpList prog ops Q (o::rest) a w:=by obtain⟨ad,n,c,rfl⟩:=hv;refine wpList_buildTo jk 101 _ ho _ rfl _ ?_ h;simp only[List.map_toArray,List.map_cons,List.map_nil,hx,hy];exact KA (str s) ad n c
def fq{v} h(hv:v.oneCell'=true):(pr h v).all (·.oneCell')=true:=by unfold pr;rw[List.all_cons,List.all_cons,hv];rfl
def DI(s:ByteArray)(a:Option Addr)(n c:Nat):prog.built 96 [(0,.string s),(1,.slice a n c)]=some #[.string s,.slice a n c]:=by kernel_rfl
def bJ:(prog.info? 96).map (·.size)=some 2:=by kernel_rfl
def DK{ops:Array Oper}{rest:List Oper}{o:Oper}{a:Act}{w:World}{Q:Exit->Act->World->Prop}(jk:o.guard=none)(x y:Operand)(ho:o.op=.build 96 #[(0,x),(1,y)]) (s:List UInt8) (v:Value) (hv:∃a n c,v=.slice a n c) (hx:a.eval x=.string (str s)) (hy:a.eval y=v) (h:wpList prog ops Q rest (a.put o.dst (.agg (pr s v).toArray)) w):wpList prog ops Q (o::rest) a w:=by obtain⟨ad,n,c,rfl⟩:=hv;refine wpList_buildTo jk 96 _ ho _ rfl _ ?_ h;simp only[List.map_toArray,List.map_cons,List.map_nil,hx,hy];exact DI (str s) ad n c
def ala(w:World):(Instr.makeSlice 64 (.int .i64 (2:Nat)) (.int .i64 (2:Nat))).run prog w=.ok (.slice (some ⟨w.heap.size,0,none⟩) 2 2) (w.alloc (.cells (w8 (List.replicate 2 0)).toArray 5)):=by kernel_rfl
def ak9(w:World):(Instr.makeSlice 64 (.int .i64 (4:Nat)) (.int .i64 (4:Nat))).run prog w=.ok (.slice (some ⟨w.heap.size,0,none⟩) 4 4) (w.alloc (.cells (w8 (List.replicate 4 0)).toArray 5)):=by kernel_rfl
def ak7(w:World):(Instr.makeSlice 64 (.int .i64 (8:Nat)) (.int .i64 (8:Nat))).run prog w=.ok (.slice (some ⟨w.heap.size,0,none⟩) 8 8) (w.alloc (.cells (w8 (List.replicate 8 0)).toArray 5)):=by kernel_rfl
def V7 x i:U (shr x (8*i)) % 256=Y (UInt8.ofNat (x.toNat/256^i % 256)):=by
 have h:(shr x (8*i)).toNat=x.toNat/2^ (8*i):=by unfold shr;rw[UInt64.toNat_ofNat'];have:=x.toNat_lt;exact Nat.mod_eq_of_lt (Nat.lt_of_le_of_lt (Nat.div_le_self _ _) this)
 unfold U Y;rw[UInt8.toNat_ofNat',h,show 2^ (8*i)=256^i from Nat.pow_mul 2 8 i];omega
def vO x i:(shr x (8*i)).toUInt8=UInt8.ofNat (x.toNat/256^i % 256):=by apply YF;rw[<-V7];unfold U Y;rw[UInt64.toNat_toUInt8];omega
def Gh L n k(hl:L.length=k)(h:∀j,j<k->nth L j=nth (Wr.low n k) j):L=Wr.low n k:=by apply List.ext_getElem?;intro j;by_cases hj:j<k;have:=h j hj;unfold nth at this;rw[List.getD_eq_getElem?_getD,List.getD_eq_getElem?_getD,List.getElem?_eq_getElem (by omega),List.getElem?_eq_getElem (by rw[Wr.bo];exact hj)]at this;rw[List.getElem?_eq_getElem (by omega),List.getElem?_eq_getElem (by rw[Wr.bo];exact hj)];exact congrArg some this;rw[List.getElem?_eq_none (by omega),List.getElem?_eq_none (by rw[Wr.bo];omega)]
def Gd L i j y(hi:i<L.length):nth (L.set i y) j=if i=j then y else nth L j:=by unfold nth;rw[List.getD_eq_getElem?_getD,List.getElem?_set];split;rename_i h;subst h;simp;rw[List.getD_eq_getElem?_getD]
def vN(x:UInt64)(k:Nat)(w:World)(hk:k<=8)(TV:0<k)(yN:∀w:World,(Instr.makeSlice 64 (.int .i64 k) (.int .i64 k)).run prog w=.ok (.slice (some ⟨w.heap.size,0,none⟩) k k) (w.alloc (.cells (w8 (List.replicate k 0)).toArray 5))):Calls prog 99 #[.int .u64 (U x),.int .i64 k] w λe w'=>e=.returned (.string (str (Wr.low x.toNat k)))/\Below w.heap.size w w':=by
 have hR:Row (w.alloc (.cells (w8 (List.replicate k 0)).toArray 5)) w.heap.size (w8 (List.replicate k 0)):=Row.new w _ _;have hB:Below w.heap.size w (w.alloc (.cells (w8 (List.replicate k 0)).toArray 5)):=(Below.refl _ _).alloc ν _;go_enter func99,ntmps99;go_wp2_with fail;generalize w.alloc _=w1 at hR hB|-;have H1:=η hR;have H2:=η hB;clear hR hB yN;go_loopw [6,11] (λjv iv wr=>∃(i:Nat)(L:List UInt8),i<=k/\iv=.int .i64 i/\L.length=k/\Row wr w.heap.size (w8 L)/\Below w.heap.size w wr/\∀j,j<i->nth L j=nth (Wr.low x.toNat k) j) (λ_ iv _=>k-(intOf iv).toNat)
 exact⟨0,List.replicate k 0,by omega,rfl,by simp,H1.o,H2.o,λj hj=>by omega⟩;clear H1 H2;obtain⟨i,L,hi,rfl,hL,hR,hB,hj⟩:=hrel;by_cases aM:i<k
 ·have p1:(i:Int)< (k:Int):=by omega
  have h8:0<=8*(i:Int):=by omega
  have e1:=vO x i;have e2:=Wr.Gg x.toNat k i aM;have vV:=hR.cell i;rw[iL L i (by omega)]at vV;have hz:=hR.free i;obtain⟨y,hy⟩:∃y,(shr x (8*i)).toUInt8=y:=⟨_,rfl⟩;rw[hy]at e1;rw[<-e1]at e2;have S1:=η (show Row (wr.setCell ⟨w.heap.size,i,none⟩ (.int .u8 (Y y))) w.heap.size (w8 (L.set i y))from by rw[<-oT];exact hR.set i _);have S2:=η (show Below w.heap.size w (wr.setCell ⟨w.heap.size,i,none⟩ (.int .u8 (Y y)))from hB.setCell ν _);have S3:=η (show∀j,j<i+1->nth (L.set i y) j=nth (Wr.low x.toNat k) j from λj JQ=>by rw[Gd L i j y (by omega)];split;rename_i h;subst h;rw[e2];exact hj j (by omega));subst hy;clear hR hB hj e2 e1;go_wp2_with fail;go_roundw
  ·exact⟨i+1,L.set i _,by omega,by go_num,by rw[List.length_set];exact hL,S1.o,S2.o,S3.o⟩
  simp[intOf];omega
 obtain rfl:i=k:=by omega
 have n8:=hR.bytes;have e:=Gh L x.toNat i hL hj;subst e;go_wp2_with (with_reducible refine ja (o:=⟨some 24,_,_,_,_,_⟩) rfl _ _ _ _ rfl w.heap.size 0 i i (Wr.low x.toNat i) (Wr.bo _ _) rfl underlying64 underlying5 underlying9 n8 ?_);go_ret;exact⟨rfl,hB⟩
def Lr(n:Nat)(h:n<18446744073709551616):U (UInt64.ofNat n)=(n:Int)/\(UInt64.ofNat n).toNat=n:=by
 have:(UInt64.ofNat n).toNat=n:=by rw[UInt64.toNat_ofNat'];exact Nat.mod_eq_of_lt h
 exact⟨by unfold U;rw[this],this⟩
def jY(n:Nat)(w:World)(hn:n<18446744073709551616):Calls prog 69 #[.int .u64 n] w λe w'=>e=.returned (.string (str (Wr.dD n)))/\Below w.heap.size w w':=by
 obtain⟨hU,hN⟩:=Lr n hn;have L2:=vN (UInt64.ofNat n) 2 w (by omega) (by omega) ala;have L4:=vN (UInt64.ofNat n) 4 w (by omega) (by omega) ak9;have L8:=vN (UInt64.ofNat n) 8 w (by omega) (by omega) ak7;rw[hU,hN]at L2 L4 L8;have H2:=η L2;have H4:=η L4;have H8:=η L8;clear L2 L4 L8 hU hN;unfold Wr.dD;by_cases h1:n<253
 ·rw[if_pos h1];have p1:(n:Int)<253:=by omega
  have e1:(n:Int) % 256=Y (UInt8.ofNat n):=by unfold Y;rw[UInt8.toNat_ofNat'];omega
  have e2:IntKind.u8.wrap (n:Int)=Y (UInt8.ofNat n):=by rw[<-e1];simp[IntKind.wrap,IntKind.bits,IntKind.signed]
  go_enter func69,ntmps69;go_wp2_with fail;go_ret;exact⟨rfl,(Below.refl _ _).alloc ν _⟩
 rw[if_neg h1];have p1:¬(n:Int)<253:=by omega
 by_cases h2:n<65536
 ·rw[if_pos h2];have p2:(n:Int)<65536:=by omega
  go_enter func69,ntmps69;go_wp2_with fail;refine H2.o.mono ?_;rintro e w1⟨rfl,hb⟩;have hl:=Wr.bo n 2;go_wp2_with fail;go_ret;exact⟨rfl,hb⟩
 rw[if_neg h2];have p2:¬(n:Int)<65536:=by omega
 by_cases h3:n<4294967296
 ·rw[if_pos h3];have p3:(n:Int)<4294967296:=by omega
  go_enter func69,ntmps69;go_wp2_with fail;refine H4.o.mono ?_;rintro e w1⟨rfl,hb⟩;have hl:=Wr.bo n 4;go_wp2_with fail;go_ret;exact⟨rfl,hb⟩
 rw[if_neg h3];have p3:¬(n:Int)<4294967296:=by omega
 go_enter func69,ntmps69;go_wp2_with fail;refine H8.o.mono ?_;rintro e w1⟨rfl,hb⟩;have hl:=Wr.bo n 8;go_wp2_with fail;go_ret;exact⟨rfl,hb⟩
def sG(l:List UInt8)(w:World)(hT:cG w)(hm:l.length<=35184372088832):Calls prog 27 #[.string (str l)] w λe w'=>e=.returned (.string (str (Mk.ak l)))/\Below w.heap.size w w':=by
 have h1:=hT.lt;have hc:=Row.new w [.string (str l)] 9;have hB:Below w.heap.size w (w.alloc (.cells #[.string (str l)] 9)):=(Below.refl _ _).alloc ν _;have T1:=η (Bu w.heap.size 1 l _ (hT.below hB h1) (hc.cell 0) hm);have HB:=η hB;clear hT hc hB;go_enter func27,ntmps27;go_wp2_with fail;refine T1.o.mono ?_;rintro e w2⟨rfl,fT⟩;have gK:=fT.size;rw[World.size_alloc]at gK;have B2:=η (HB.o.trans (fT.mono (by rw[World.size_alloc];omega)))
 have BP:Row (w2.alloc (.cells (w8 (List.replicate 32 0)).toArray 67)) w2.heap.size (w8 (List.replicate 32 0)):=Row.new w2 _ _;have yR:=below_setRow ((Below.refl w2.heap.size w2).alloc ν (.cells (w8 (List.replicate 32 0)).toArray 67)) ν (w8 (Mk.ak l)).toArray;have CY:=BP.setRow (w8 (Mk.ak l));rw[Tryz.mm]at BP yR CY;have B3:=η yR;clear fT T1 yR;go_wp2_with (first|(with_reducible refine eU (o:=⟨none,_,_,_,_,_⟩) rfl _ _ rfl w2.heap.size (List.replicate 32 0) (Mk.ak l) rfl (eM l) rfl rfl BP ?_)|(with_reducible refine ja (o:=⟨some 8,_,_,_,_,_⟩) rfl _ _ _ _ rfl w2.heap.size 0 32 32 (Mk.ak l) (eM l) rfl underlying64 underlying5 underlying9 CY.bytes ?_));go_ret;exact⟨rfl,B2.o.trans (B3.o.mono (by omega))⟩
def fK{w:World}{B n e z v xs}(h:w.ownsRow B e z v n xs)(hn:0<n):∃g cap,v=.slice (some ⟨g,0,none⟩) n cap/\B<=g/\g<w.heap.size/\∀k,k<n*z->w.cell? ⟨g,k,none⟩=xs[k]?:=by obtain⟨_,⟨_,h0⟩|⟨g,cap,cur,rfl,hb,hg,_,_,_,ht⟩⟩:=h;omega;refine⟨g,cap,rfl,hb,(Array.getElem?_eq_some_iff.1 hg).1,λk hk=>?_⟩;rw[<-ht,List.getElem?_take_of_lt hk];simp[World.cell?,hg]
theorem tb:∀ts i j,i<ts.length->j<33->(aK ts)[33*i+j]? =(ai (ts.getD i []))[j]?
 |[],i,j,hi,_=>by simp at hi|t::ts,0,j,_,hj=>by have:=aE t;show(ai t++aK ts)[33*0+j]? =_;rw[List.getElem?_append_left (by omega)];simp|t::ts,i+1,j,hi,hj=>by have:=aE t;show(ai t++aK ts)[33*(i+1)+j]? =_;rw[List.getElem?_append_right (by omega),show 33*(i+1)+j-(ai t).length=33*i+j by omega,tb ts i j (by simpa using hi) hj];rfl
def P9(w:World)(g:Nat)(ts:List (List UInt8)):Prop:=∀i,i<ts.length->w.rangeAt g (33*i) (ai (ts.getD i []))
def lY{w:World}{B:Nat}{v:Value}{ts:List (List UInt8)}(h:w.ownsRow B 69 33 v ts.length (aK ts))(hn:0<ts.length):∃g cap,v=.slice (some ⟨g,0,none⟩) ts.length cap/\B<=g/\g<w.heap.size/\P9 w g ts:=by
 obtain⟨g,cap,rfl,hb,hg,hc⟩:=fK h hn;refine⟨g,cap,rfl,hb,hg,λi hi j u hu=>?_⟩;have hj:j<33:=by have:=(List.getElem?_eq_some_iff.1 hu).1;rwa[aE]at this
 rw[hc _ (by omega),tb ts i j hi hj];exact hu
def P9.below{B g ts w w'}(h:P9 w g ts)(hb:Below B w w')(hB:g<B):P9 w' g ts:=λi hi=>rangeAt_of_block (h i hi) (hb.block g hB)
def vP{ops:Array Oper}{rest:List Oper}{o:Oper}{a:Act}{w:World}{Q:Exit->Act->World->Prop}(jk:o.guard=none)(x:Operand)(ho:o.op=.load 69 x) (g off:Nat) (t:List UInt8) (hx:a.eval x=.pointer (some ⟨g,off,none⟩)) (hr:w.rangeAt g off (ai t)) (h:wpList prog ops Q rest (a.put o.dst (Fp t)) w):wpList prog ops Q (o::rest) a w:=wpList_load_mid jk _ x ho g off hx (ai t) _ hr underlying69 rfl (by rw[cW,aE]) h
def Mk.iX(ts:List (List UInt8)):List UInt8:=Wr.dD ts.length++ts.flatten
theorem sP:∀(ts:List (List UInt8)),(∀t∈ts,t.length<=610)->ts.flatten.length<=610*ts.length
 |[],_=>ν|t::ts,h=>by have h1:=h t List.mem_cons_self;have h2:=sP ts λx hx=>h x (List.mem_cons_of_mem _ hx);rw[List.flatten_cons,List.length_append,List.length_cons];omega
def eF n:(Wr.dD n).length<=9:=by unfold Wr.dD;split;simp;split;simp[Wr.bo];split;simp[Wr.bo];simp[Wr.bo]
def uY(ts:List (List UInt8)) i(h:i<ts.length):(ts.take (i+1)).flatten=(ts.take i).flatten++ts.getD i []:=by rw[List.take_succ_eq_append_getElem h,List.flatten_append,List.getD_eq_getElem?_getD,List.getElem?_eq_getElem h];simp
def Bh(v:Value)(ts:List (List UInt8))(B:Nat)(w:World)(ho:w.ownsRow B 69 33 v ts.length (aK ts))(hs:∀t∈ts,t.length<=610)(hn:ts.length<=1000):Calls prog 78 #[v] w λe w'=>e=.returned (.string (str (Mk.iX ts)))/\Below w.heap.size w w':=by
 obtain⟨ad,cap,hv⟩:=aO ho;have H0:=η ho;have HS:=η hs;have q1:IntKind.u64.wrap (ts.length:Int)=ts.length:=by rw[fV,lK];omega
 have T1:=η (jY ts.length w (by omega));have hl:=eF ts.length;have HJ:=η (show Mk.iX ts=Wr.dD ts.length++ts.flatten from rfl);generalize Wr.dD ts.length=sz at T1 hl HJ;rw[hv];clear ho hs;go_enter func78,ntmps78;go_wp2_with fail;refine T1.o.mono ?_;rintro e w1⟨rfl,ux⟩;have B1:=η ux;clear ux T1;go_wp2_with fail;go_loopw [3,12] (λsv iv wr=>∃(i:Nat)(s:List UInt8),i<=ts.length/\iv=.int .i64 i/\sv=.string (str s)/\s.length<=9+610*i/\s=sz++(ts.take i).flatten/\Below w.heap.size w wr) (λ_ iv _=>ts.length-(intOf iv).toNat)
 exact⟨0,sz,by omega,rfl,rfl,by omega,by simp,B1.o⟩;obtain⟨i,s,hi,rfl,rfl,EM,uk,hB⟩:=hrel;have HE:=η uk;have HB:=η hB;have j0:=hB.size;clear uk hB;by_cases aM:i<ts.length
 ·have p1:(i:Int)< (ts.length:Int):=by omega
  obtain⟨g,Ct,JK,_,hg,nj⟩:=lY H0.o (by omega);rw[hv]at JK;cases JK;have ht:(ts.getD i []).length<=610:=HS.o _ (by rw[List.getD_eq_getElem?_getD,List.getElem?_eq_getElem aM];exact List.getElem_mem aM);have HT:=η (uY ts i aM);have qJ:=(nj.below HB.o hg) i aM;obtain⟨t,het⟩:∃t,ts.getD i []=t:=⟨_,rfl⟩;rw[het]at ht HT qJ;rw[Nat.mul_comm]at qJ;have r1:Row (wr.alloc (.cells dc.toArray 69)) wr.heap.size dc:=Row.new wr dc 69;have hB1:Below w.heap.size w (wr.alloc (.cells dc.toArray 69)):=HB.o.alloc j0 _;have hc:=(r1.setRow (ai t)).cell 0;rw[show(ai t)[0]? =some (.string (str t))from rfl]at hc;have B2:=η (below_setRow hB1 j0 (ai t).toArray);rw[Tryz.gI]at r1 hc B2;clear nj het hB1;go_wp2_with (first|(refine vP (o:=⟨some 15,_,_,_,_,_⟩) rfl _ rfl g (i*33) t rfl qJ ?_)|(with_reducible refine au (o:=⟨none,_,_,_,_,_⟩) rfl _ _ _ rfl wr.heap.size dc (ai t) rfl rfl r1 (cW.trans (by rw[aE])) (by rw[aE,bq]) (aY t) ?_));go_roundw
  ·exact⟨i+1,s++t,by omega,by go_num,rfl,by rw[List.length_append];omega,by rw[HE.o,HT.o,List.append_assoc],B2.o⟩
  simp[intOf];omega
 obtain rfl:i=ts.length:=by omega
 go_wp2_with fail;go_ret;exact⟨by rw[HJ.o,HE.o,List.take_of_length_le ν];rfl,HB.o⟩
end
section
open ba
namespace Wr
def Yq(k:Nat)(l:List UInt8):R (List UInt8×List (List UInt8)):=(take k l).bind λh r=>(cM 1 16 r).bind λn r=>(bE n r).map λts=>(h,ts)
def Vi(l:List UInt8):R (List UInt8×List Nat):=(take 32 l).bind λh r=>(cM 1 16 r).bind λn r=>(indexes 16 n 0 r).map λis=>(h,is)
end Wr
namespace Rf
open Wr (R)
def blk(k:Nat)(l:List UInt8):(List UInt8×List (List UInt8))×St:=
 let p:=take k (l,0);let q:=within 1 16 p.2;let r:=bE q.1 q.2
 ((p.1,r.1),r.2)
def Vj(l:List UInt8):(List UInt8×List Nat)×St:=
 let p:=take 32 (l,0);let q:=within 1 16 p.2;let r:=indexes 16 q.1 0 q.2
 ((p.1,r.1),r.2)
def Jy{α β x p}(h:Ag x id p)(g:α->β):Ag (x.map g) id (g p.1,p.2):=by cases x with|ok a r=>have h':p=(a,(r,0)):=h;rw[h'];rfl|bad e=>exact h
def ai5 k l:Ag (Wr.Yq k l) id (blk k l):=by unfold Wr.Yq blk;refine(jH k l).bind (λh r hx hp=>?_) (λh=>?_);rw[hp];dsimp only[id];refine(mM 1 16 r).bind (λn r2 hx hp=>?_) (λh=>?_);rw[hp];exact Jy (Uz n r2) _;dsimp only;rw[Fj _ _ h];dsimp only;rw[kX _ _ _ h,Fj _ _ h]
def ag7 l:Ag (Wr.Vi l) id (Vj l):=by unfold Wr.Vi Vj;refine(jH 32 l).bind (λh r hx hp=>?_) (λh=>?_);rw[hp];dsimp only[id];refine(mM 1 16 r).bind (λn r2 hx hp=>?_) (λh=>?_);rw[hp];exact Jy (Bl 16 n 0 r2) _;dsimp only;rw[pG _ _ _ _ h];dsimp only;rw[kX _ _ _ h,pG _ _ _ _ h]
def wV{l n}(h:Wr.dx l=.bad n):n≠0:=by have:=Cd (ai5 80 l);rw[show Wr.fin (Wr.Yq 80 l)=.bad n from h]at this;exact this.2
def IZ{l n}(h:Wr.dp l=.bad n):n≠0:=by have:=Cd (ag7 l);rw[show Wr.fin (Wr.Vi l)=.bad n from h]at this;exact this.2
end Rf
end
section
open Go.RowKit ba
namespace Wr
def take_len{n l t r}(h:take n l=.ok t r):t.length=n:=by unfold take at h;by_cases c:l.length<n;rw[if_pos c]at h;cases h;rw[if_neg c]at h;cases h;rw[List.length_take];omega
theorem DV:∀n l ts r,bE n l=.ok ts r->ts.length=n/\∀t∈ts,t.length<=610
 |0,l,ts,r,h=>by cases h;exact⟨rfl,λ_ h=>by cases h⟩
 |n+1,l,ts,r,h=>by
  rw[bE]at h;cases hx:tx l with
  |bad e=>rw[hx]at h;cases h
  |ok t s=>
  rw[hx,R.aQ]at h;cases hy:bE n s with
  |bad e=>rw[hy]at h;cases h
  |ok us q=>rw[hy]at h;cases h;obtain⟨h1,h2⟩:=DV n s us _ hy;refine⟨by rw[List.length_cons,h1],λx xq=>?_⟩;rcases List.mem_cons.1 xq with rfl|hm;exact Ip hx;exact h2 x hm
theorem xp B:∀n nx l is r,indexes B n nx l=.ok is r->is.length=n
 |0,nx,l,is,r,h=>by cases h;rfl
 |n+1,nx,l,is,r,h=>by
  rw[indexes]at h;cases hx:index nx B l with
  |bad e=>rw[hx]at h;cases h
  |ok i s=>
  rw[hx,R.aQ]at h;cases hy:indexes B n (i+1) s with
  |bad e=>rw[hy]at h;cases h
  |ok us q=>rw[hy]at h;cases h;rw[List.length_cons,xp B n _ s us _ hy]
def yT{α}{x:R α}{a r}(h:fin x=.ok a r):x=.ok a r:=by
 unfold fin at h;cases x with
 |bad e=>cases h
 |ok b s=>have h':(if s=[]then(.ok b s:R α)else .bad 5)=.ok a r:=h;by_cases hs:s=[];rw[if_pos hs]at h';exact h';rw[if_neg hs]at h';cases h'
def P7{l a r}(h:dx l=.ok a r):a.1.length=80/\1<=a.2.length/\a.2.length<=16/\∀t∈a.2,t.length<=610:=by
 have h:=yT h;cases h1:take 80 l with
 |bad e=>rw[h1]at h;cases h
 |ok t s=>
 rw[h1,R.aQ]at h;cases h2:cM 1 16 s with
 |bad e=>rw[h2]at h;cases h
 |ok n s2=>
 rw[h2,R.aQ]at h;cases h3:bE n s2 with
 |bad e=>rw[h3]at h;cases h
 |ok ts s3=>rw[h3]at h;cases h;obtain⟨h4,h5⟩:=DV n s2 ts _ h3;have:=eL h2;exact⟨take_len h1,by dsimp only;omega,by dsimp only;omega,h5⟩
def ZN{l a r}(h:dp l=.ok a r):a.1.length=32/\a.2.length<=16:=by
 have h:=yT h;cases h1:take 32 l with
 |bad e=>rw[h1]at h;cases h
 |ok t s=>
 rw[h1,R.aQ]at h;cases h2:cM 1 16 s with
 |bad e=>rw[h2]at h;cases h
 |ok n s2=>
 rw[h2,R.aQ]at h;cases h3:indexes 16 n 0 s2 with
 |bad e=>rw[h3]at h;cases h
 |ok is s3=>rw[h3]at h;cases h;have:=eL h2;have h4:=xp 16 n 0 s2 is _ h3;exact⟨take_len h1,by dsimp only;omega⟩
end Wr
def ze{ops:Array Oper}{rest:List Oper}{o:Oper}{a:Act}{C:World->Prop}{Q:Act->Prop}(jk:o.guard=none)(x:Operand)(ho:o.op=.load 69 x) (g off:Nat) (t:List UInt8) (hx:a.eval x=.pointer (some ⟨g,off,none⟩)) (hr:∀w,C w->w.rangeAt g off (ai t)) (h:wpQuiet prog ops C Q rest (a.put o.dst (Fp t))):wpQuiet prog ops C Q (o::rest) a:=by unfold wpQuiet;rw[if_pos (by simp[Region.wanted,jk])];refine⟨_,λw hw=>?_,h⟩;have:=run_loadAt_mid (P:=prog) w g off 69 (ai t) _ (hr w hw) underlying69 rfl (by rw[cW,aE]);unfold Oper.quietAt execOp;simp only[ho,hx,Sem.run_bind,this,Result.andThen_ok,Sem.run_pure,Oper.quietUpon];first|trivial|exact⟨trivial,trivial⟩|exact⟨rfl,rfl⟩|exact⟨rfl,hw⟩
def NW is i(h:i<is.length):(oN is)[i]? =some (.int .i64 ((is.getD i 0:Nat):Int)):=by unfold oN;rw[List.getElem?_map,List.getD_eq_getElem?_getD,List.getElem?_eq_getElem h];rfl
def Row.of_block{w w' b l}(h:Row w b l)(e:w'.heap[b]? =w.heap[b]?):Row w' b l:=by obtain⟨T,h⟩:=h;exact⟨T,by rw[e];exact h⟩
def Rh bE is i us(hi:i<is.length)(h:En.pick bE is=(En.pick bE (is.drop i)).map (λts=>us++ts))(hx:¬bE.length<=is.getD i 0):En.pick bE is=(En.pick bE (is.drop (i+1))).map (λts=>(us++[bE.getD (is.getD i 0) []])++ts):=by
 rw[h,List.drop_eq_getElem_cons hi];have e:is.getD i 0=is[i]:=by rw[List.getD_eq_getElem?_getD,List.getElem?_eq_getElem hi];rfl
 rw[e]at hx|-;rw[En.pick,if_neg hx];cases En.pick bE (is.drop (i+1))with|none=>rfl|some q=>simp
def Ri bE is i us(hi:i<is.length)(h:En.pick bE is=(En.pick bE (is.drop i)).map (λts=>us++ts))(hx:bE.length<=is.getD i 0):En.pick bE is=none:=by
 rw[h,List.drop_eq_getElem_cons hi];have e:is.getD i 0=is[i]:=by rw[List.getD_eq_getElem?_getD,List.getElem?_eq_getElem hi];rfl
 rw[e]at hx;rw[En.pick,if_pos hx];rfl
def SvS(A gb n cb off:Nat)(t:List UInt8)(u:World):Prop:=u.cell? ⟨A,1,none⟩=some (.slice (some ⟨gb,0,none⟩) n cb)/\u.rangeAt gb off (ai t)
def YD(p:List UInt8×Nat):Value:=.tuple #[.string (str p.1),.int .i64 (p.2:Int)]
end
section
open ba
namespace Wr
def Yn{l u r}(h:body l=.ok u r):r.length+4<=l.length:=by
 unfold body at h;cases h1:take 4 l with
 |bad e=>rw[h1]at h;cases h
 |ok a s=>
 rw[h1,R.aQ]at h;have hs:s.length+4=l.length:=by unfold take at h1;split at h1;cases h1;cases h1;rw[List.length_drop];omega
 have ht:ei s ((cM 1 4 s).bind λn r=>(rep nA n r).bind λ_ r=>(cM 1 4 r).bind λn r=>(rep fN n r).bind λ_ r=>(take 4 r).void):=(ew _ _ s).bind λn r _=>(k8 Bi n r).bind λ_ r _=>(ew _ _ r).bind λn r _=>(k8 vI n r).bind λ_ r _=>(bG 4 r).void;have:=ht.le h;omega
def oW{l t r}(h:tx l=.ok t r):t≠ []/\t.length<=610:=by
 unfold tx at h;cases hb:body l with
 |bad e=>rw[hb]at h;cases h
 |ok u s=>rw[hb,R.aQ]at h;cases h;have h1:=Yn hb;have h2:=wD l u _ hb;refine⟨λe=>?_,?_⟩;have:=congrArg List.length e;rw[List.length_take]at this;simp at this;omega;rw[List.length_take];omega
theorem Oe:∀n l ts r,bE n l=.ok ts r->ts.length=n/\∀t∈ts,t≠ []/\t.length<=610
 |0,l,ts,r,h=>by cases h;exact⟨rfl,λt ht=>by cases ht⟩
 |n+1,l,ts,r,h=>by
  rw[bE]at h;cases hx:tx l with
  |bad e=>rw[hx]at h;cases h
  |ok t s=>
  rw[hx,R.aQ]at h;cases hy:bE n s with
  |bad e=>rw[hy]at h;cases h
  |ok us q=>rw[hy]at h;cases h;obtain⟨h1,h2⟩:=Oe n s us _ hy;exact⟨by rw[List.length_cons,h1],λx xq=>by rcases List.mem_cons.1 xq with rfl|xq;exact oW hx;exact h2 x xq⟩
def Sa{next bound l i r}(h:index next bound l=.ok i r):next<=i/\i<bound:=by
 unfold index at h;cases hx:size l with
 |bad e=>rw[hx]at h;cases h
 |ok d s=>rw[hx,R.aQ]at h;split at h;cases h;cases h;omega
theorem Ey bound:∀n next l ps r,fE bound n next l=.ok ps r->ps.length=n/\(ps.map (·.1)).Pairwise (· < ·)/\(∀p∈ps,next<=p.1/\p.1<bound)/\∀p∈ps,p.2≠ []/\p.2.length<=610
 |0,next,l,ps,r,h=>by cases h;exact⟨rfl,List.Pairwise.nil,(λp hp=>by cases hp),λp hp=>by cases hp⟩
 |n+1,next,l,ps,r,h=>by
  rw[fE]at h;cases hx:index next bound l with
  |bad e=>rw[hx]at h;cases h
  |ok i s=>
  rw[hx,R.aQ]at h;cases hy:tx s with
  |bad e=>rw[hy]at h;cases h
  |ok t s2=>
  rw[hy,R.aQ]at h;cases hz:fE bound n (i+1) s2 with
  |bad e=>rw[hz]at h;cases h
  |ok qs s3=>rw[hz]at h;cases h;obtain⟨h1,h2,h3,h4⟩:=Ey bound n (i+1) s2 qs _ hz;have hi:=Sa hx;refine⟨by rw[List.length_cons,h1],?_,?_,?_⟩;rw[List.map_cons,List.pairwise_cons];refine⟨λy hy'=>?_,h2⟩;obtain⟨p,hp,rfl⟩:=List.mem_map.1 hy';have:=(h3 p hp).1;dsimp only;omega;intro p hp;rcases List.mem_cons.1 hp with rfl|hp;exact hi;have:=h3 p hp;omega;intro p hp;rcases List.mem_cons.1 hp with rfl|hp;exact oW hy;exact h4 p hp
theorem Ea k:∀n l ss r,iN k n l=.ok ss r->ss.length=n/\∀s∈ss,s.length=k
 |0,l,ss,r,h=>by cases h;exact⟨rfl,λs hs=>by cases hs⟩
 |n+1,l,ss,r,h=>by
  rw[iN]at h;cases hx:take k l with
  |bad e=>rw[hx]at h;cases h
  |ok t s=>
  rw[hx,R.aQ]at h;cases hy:iN k n s with
  |bad e=>rw[hy]at h;cases h
  |ok us q=>rw[hy]at h;cases h;obtain⟨h1,h2⟩:=Ea k n s us _ hy;exact⟨by rw[List.length_cons,h1],λx xq=>by rcases List.mem_cons.1 xq with rfl|xq;exact Rf.take_len hx;exact h2 x xq⟩
structure aog(c:Cb):Prop where
 head:c.header.length=80
 aI:c.aI.length=8
 pos:0<c.ae.length+c.ah.length
 le:c.ae.length+c.ah.length<=16
 ah:Cp.mG (c.ae.length+c.ah.length) c.ah
 Hr:∀s∈c.ae,s.length=6
def GB{l c r}(h:cg l=.ok c r):aog c:=by
 have h:=yT h;cases h1:take 80 l with
 |bad e=>rw[h1]at h;cases h
 |ok hd s1=>
 rw[h1,R.aQ]at h;cases h2:take 8 s1 with
 |bad e=>rw[h2]at h;cases h
 |ok nn s2=>
 rw[h2,R.aQ]at h;cases h3:cM 0 16 s2 with
 |bad e=>rw[h3]at h;cases h
 |ok n s3=>
 rw[h3,R.aQ]at h;cases h4:iN 6 n s3 with
 |bad e=>rw[h4]at h;cases h
 |ok ss s4=>
 rw[h4,R.aQ]at h;cases h5:cM 0 (16-ss.length) s4 with
 |bad e=>rw[h5]at h;cases h
 |ok m s5=>
 rw[h5,R.aQ]at h;split at h;cases h;rename_i hz;cases h6:fE (m+ss.length) m 0 s5 with
 |bad e=>rw[h6]at h;cases h
 |ok ps s6=>rw[h6]at h;cases h;obtain⟨e1,e2,e3,e4⟩:=Ey _ _ _ _ _ _ h6;obtain⟨e5,e6⟩:=Ea _ _ _ _ _ h4;have l3:=eL h3;have l5:=eL h5;refine⟨Rf.take_len h1,Rf.take_len h2,by dsimp only;omega,by dsimp only;omega,⟨e2,λp hp=>?_,e4⟩,e6⟩;have:=(e3 p hp).2;dsimp only;omega
def Ow{l a r}(h:dO l=.ok a r):a.1.length=32/\1<=a.2.length/\a.2.length<=16/\∀t∈a.2,t≠ []/\t.length<=610:=by
 have h:=yT h;cases h1:take 32 l with
 |bad e=>rw[h1]at h;cases h
 |ok t s=>
 rw[h1,R.aQ]at h;cases h2:cM 1 16 s with
 |bad e=>rw[h2]at h;cases h
 |ok n s2=>
 rw[h2,R.aQ]at h;cases h3:bE n s2 with
 |bad e=>rw[h3]at h;cases h
 |ok ts s3=>rw[h3]at h;cases h;obtain⟨h4,h5⟩:=Oe n s2 ts _ h3;have:=eL h2;exact⟨Rf.take_len h1,by dsimp only;omega,by dsimp only;omega,h5⟩
end Wr
namespace Sd
open Wr
def Loc{α:Type}(p:List UInt8->R α):Prop:=∀l a r,p l=.ok a r->∃u,l=u++r/\∀x,p (u++x)=.ok a x
def fG{α β:Type}{x:R α}{f:α->List UInt8->R β}{b:β}{s:List UInt8}(h:x.bind f=.ok b s):∃a r,x=.ok a r/\f a r=.ok b s:=by
 cases x with
 |bad e=>cases h
 |ok a r=>exact⟨a,r,rfl,h⟩
def Loc.pure{α:Type}(a:α):Loc λl=>R.ok a l:=λl b r h=>by cases h;exact⟨[],rfl,λx=>rfl⟩
theorem Loc.bad{α:Type}(e:Nat):Loc (α:=α) λ_=>R.bad e:=λl b r h=>by cases h
def Loc.bind{α β:Type}{p:List UInt8->R α}{f:α->List UInt8->R β}(hp:Loc p)(hf:∀a,Loc (f a)):Loc λl=>(p l).bind f:=λl b s h=>by obtain⟨a,r,h1,h2⟩:=fG h;obtain⟨u,rfl,hu⟩:=hp l a r h1;obtain⟨v,rfl,hv⟩:=hf a r b s h2;refine⟨u++v,by rw[List.append_assoc],λx=>?_⟩;rw[List.append_assoc];show(p (u++(v++x))).bind f=_;rw[hu,R.aQ,hv]
def Loc.void{α:Type}{p:List UInt8->R α}(hp:Loc p):Loc λl=>(p l).void:=λl b s h=>by
 have h:(p l).void=.ok b s:=h;cases hx:p l with
 |bad e=>rw[hx]at h;cases h
 |ok a r=>rw[hx]at h;cases h;obtain⟨u,e,hu⟩:=hp _ _ _ hx;exact⟨u,e,λx=>by show(p (u++x)).void=_;rw[hu];rfl⟩
def Loc.ite{α:Type}{c:Prop}[Decidable c]{p q:List UInt8->R α}(hp:Loc p)(hq:Loc q):Loc λl=>if c then p l else q l:=by by_cases hc:c;simpa only[hc,if_true]using hp;simpa only[hc,if_false]using hq
def jS(n:Nat):Loc (take n):=λl a r h=>by
 unfold take at h;split at h;cases h;rename_i hl;cases h;refine⟨l.take n,(List.take_append_drop n l).symm,λx=>?_⟩;have e:(l.take n).length=n:=by rw[List.length_take];omega
 unfold take;rw[if_neg (by rw[List.length_append,e];omega),List.take_left' e,List.drop_left' e]
def US:Loc size:=(jS 1).bind λt=>Loc.ite (Loc.pure _) ((jS _).bind λu=>Loc.ite (Loc.bad _) (Loc.pure _))
def zg(lo hi:Nat):Loc (cM lo hi):=US.bind λx=>Loc.ite (Loc.bad _) (Loc.pure _)
def zF:Loc script:=(zg 0 40).bind λn=>(jS n).void
def aax:Loc nA:=(jS 36).bind λ_=>zF.bind λ_=>(jS 4).void
def VE:Loc fN:=(jS 8).bind λ_=>zF
theorem FP{p:List UInt8->R Unit}(hp:Loc p):∀n,Loc (rep p n)
 |0=>Loc.pure ()|n+1=>hp.bind λ_=>FP hp n
def Yo:Loc body:=(jS 4).bind λ_=>(zg 1 4).bind λn=>(FP aax n).bind λ_=>(zg 1 4).bind λn=>(FP VE n).bind λ_=>(jS 4).void
def oW{l t r:List UInt8}(h:tx l=.ok t r):l=t++r/\∀x,tx (t++x)=.ok t x:=by
 obtain⟨u,s,h1,h2⟩:=fG h;cases h2;obtain⟨v,e,hv⟩:=Yo l u _ h1;have ev:l.take (l.length-r.length)=v:=by subst e;rw[List.length_append,Nat.add_sub_cancel];exact List.take_left' rfl
 rw[ev];refine⟨e,λx=>?_⟩;unfold tx;rw[hv,R.aQ,List.length_append,Nat.add_sub_cancel];congr 1;exact List.take_left' rfl
def Tx(t:List UInt8):Prop:=tx t=.ok t []
def Tx.app{t:List UInt8}(h:Tx t)(x:List UInt8):tx (t++x)=.ok t x:=(oW h).2 x
def Tx.of{l t r:List UInt8}(h:tx l=.ok t r):Tx t:=by have:=(oW h).2 [];rwa[List.append_nil]at this
def Tx.read{t:List UInt8}(h:Tx t):cN t=.ok t []:=by unfold cN fin;rw[show tx t=.ok t []from h];rfl
def Tx.aac{t a r:List UInt8}(h:cN t=.ok a r):Tx a/\a=t:=by obtain⟨b,s,h1,h2⟩:=fG h;split at h2;rename_i hs;cases h2;subst hs;obtain⟨e,_⟩:=oW h1;rw[List.append_nil]at e;exact⟨Tx.of h1,e.symm⟩;cases h2
def en{lo hi:Nat}(hh:hi<253){l:List UInt8}{m:Nat}{r:List UInt8}(h:cM lo hi l=.ok m r):0<l.length/\m=(nth l 0).toNat/\lo<=m/\m<=hi/\r=l.drop 1:=by
 obtain⟨x,s,h1,h2⟩:=fG h;split at h2;cases h2;rename_i hx;cases h2;obtain⟨t,s,h3,h4⟩:=fG h1;unfold take at h3;split at h3;cases h3;rename_i hl;cases h3;have h0:0<l.length:=by omega
 have e0:nth (l.take 1) 0=nth l 0:=by cases l with|nil=>simp at h0|cons y l=>rfl
 rw[e0]at h4;split at h4;cases h4;exact⟨h0,rfl,by omega,by omega,rfl⟩;rename_i hb;exfalso;obtain⟨u,s,h5,h6⟩:=fG h4;split at h6;cases h6;rename_i hq;cases h6;have:253<=least (nth l 0):=by unfold least;split<;>(try split)<;>omega
 omega
def take_drop{n:Nat}{l a r:List UInt8}(h:take n l=.ok a r):n<=l.length/\r=l.drop n:=by unfold take at h;split at h;cases h;cases h;exact⟨by omega,rfl⟩
def VJ(l:List UInt8)(n i:Nat):nth (l.drop n) i=nth l (n+i):=by unfold nth;simp
def NA{l:List UInt8}{u:Unit}{r:List UInt8}(h:body l=.ok u r):4<l.length/\∃r2 r3,1<=(nth l 4).toNat/\(nth l 4).toNat<=4/\rep nA (nth l 4).toNat (l.drop 5)=.ok () r2/\0<r2.length/\1<=(nth r2 0).toNat/\(nth r2 0).toNat<=4/\rep fN (nth r2 0).toNat (r2.drop 1)=.ok () r3/\4<=r3.length/\r=r3.drop 4:=by
 obtain⟨a,s,h1,h2⟩:=fG h;obtain⟨g1,rfl⟩:=take_drop h1;obtain⟨n,s,h3,h4⟩:=fG h2;obtain⟨k0,rfl,k1,k2,rfl⟩:=en (by omega) h3;obtain⟨_,r2,h5,h6⟩:=fG h4;obtain⟨m,s,h7,h8⟩:=fG h6;obtain⟨m0,rfl,m1,m2,rfl⟩:=en (by omega) h7;obtain⟨_,r3,h9,Uh⟩:=fG h8;cases hx:take 4 r3 with
 |bad e=>rw[hx]at Uh;cases Uh
 |ok a q=>rw[hx]at Uh;cases Uh;obtain⟨k3,k4⟩:=take_drop hx;rw[VJ]at k1 k2 h5;rw[List.length_drop]at k0;rw[List.drop_drop]at h5;exact⟨by omega,r2,r3,k1,k2,h5,m0,m1,m2,h9,k3,k4⟩
end Sd
namespace Sd
open Wr Cp
def Tx.ne{t:List UInt8}(h:Tx t):t≠ []:=(Wr.oW h).1
def Tx.len{t:List UInt8}(h:Tx t):t.length<=610:=(Wr.oW h).2
def ajx(s:RS):Prop:=∀t∈s.bE,t≠ []->Tx t
def vU:ajx idle:=λt ht=>by cases ht
end Sd
end
section
open Go.RowKit ba
def Kz(s:ByteArray)(a:Option Addr)(n c:Nat):prog.built 76 [(0,.string s),(1,.slice a n c)]=some #[.string s,.slice a n c]:=by kernel_rfl
def bW:(prog.info? 76).map (·.size)=some 2:=by kernel_rfl
def KD{ops:Array Oper}{rest:List Oper}{o:Oper}{a:Act}{w:World}{Q:Exit->Act->World->Prop}(jk:o.guard=none)(x y:Operand)(ho:o.op=.build 76 #[(0,x),(1,y)]) (s:List UInt8) (v:Value) (hv:∃a n c,v=.slice a n c) (hx:a.eval x=.string (str s)) (hy:a.eval y=v) (h:wpList prog ops Q rest (a.put o.dst (.agg (pr s v).toArray)) w):wpList prog ops Q (o::rest) a w:=by obtain⟨ad,n,c,rfl⟩:=hv;refine wpList_buildTo jk 76 _ ho _ rfl _ ?_ h;simp only[List.map_toArray,List.map_cons,List.map_nil,hx,hy];exact Kz (str s) ad n c
def Hk(b:Nat)(l:List UInt8)(w:World)(hT:cG w)(lQ:1<b)(hr:Row w b [.string (str l)])(hl:l.length<=9223372036854775807):Calls prog 51 #[.pointer (some ⟨b,0,none⟩)] w (Hm (Wr.QB l) (λa=>a.1) 69 33 (λa=>a.2.length) (λa=>aK a.2) b w):=by
 have hb:=hr.lt;have gM:=hT.lt;have hk:=And.intro lQ hl;clear hk;have I0:PI w b l.length l (w.alloc (.cells cD.toArray 76)):=⟨hr.alloc _,Row.new w _ _,(cA.refl _ _ _).alloc ν _,ν⟩;rw[show cD.toArray=#[Value.string (str []),.slice none 0 0]from rfl]at I0;have HT:=η hT;have EQ:=η (show Wr.QB l=(Wr.take 32 l).bind λh r=>(Wr.cM 1 16 r).bind λn r=>(Wr.bE n r).map λts=>(h,ts)from rfl);clear hr hT;go_enter func51,ntmps51;go_upto_region 1 with fail;generalize w.alloc _=w1 at I0|-;have T1:=η (bV b 32 l w1 I0.cur (by omega));have J:=η I0;clear I0;go_wp2_with fail;refine T1.o.mono ?_;clear T1;cases hx:Wr.take 32 l with
 |bad n=>rintro e w2⟨rfl,h⟩;rw[hx]at EQ;exact⟨rfl,Hm.bh EQ.o (J.o.bad h)⟩
 |ok t1 r1=>
 rintro e w2⟨rfl,h3,h4⟩;rw[hx]at EQ;have iH:=η (show Wr.QB l=(Wr.cM 1 16 r1).bind λn r=>(Wr.bE n r).map λts=>(t1,ts)from EQ.o);have J2:=η (J.o.step hb h3 h4 ((Wr.bG 32 l).le hx));have T2:=η (fU b 1 16 r1 w2 h3 (by omega) (by omega));clear h3 h4 J EQ hx;go_wp2_with fail;refine T2.o.mono ?_;clear T2;cases hx:Wr.cM 1 16 r1 with
 |bad n=>rintro e w3⟨rfl,h⟩;rw[hx]at iH;exact⟨rfl,Hm.bh iH.o (J2.o.bad h)⟩
 |ok n r2=>
 rintro e w3⟨rfl,h3,h4⟩;rw[hx]at iH;have hn:=(Wr.eL hx).2;have Ff:=η (show Wr.QB l=(Wr.bE n r2).map λts=>(t1,ts)from iH.o);have J3:=η (J2.o.step hb h3 h4 ((Wr.ew 1 16 r1).le hx));clear h3 h4 J2 iH hx;have T3:=η (DW b n r2 w3 (J3.o.but.sj HT.o gM lQ) lQ J3.o.cur (Nat.le_trans J3.o.le hl) (by omega));go_wp2_with fail;refine T3.o.mono ?_;clear T3;cases hx:Wr.bE n r2 with
 |bad k=>rintro e w4⟨rfl,h⟩;rw[hx]at Ff;exact⟨rfl,Hm.bh Ff.o (J3.o.bad h)⟩
 |ok ts r3=>rintro e w4⟨v,rfl,h2,h3,h4⟩;rw[hx]at Ff;have J4:=η (J3.o.step hb h3 h4 ((Wr.zi n r2).le hx));have kK:=J4.o.own;have lL:=J3.o.but.size;have ali:=J3.o.own.lt;have hv:=aO h2;have kh:=dN h2;have O1:=η (dh (S:=w.heap.size) h2 (pr t1 v).toArray (by omega));clear h2 h3 h4 J3 hx;go_wp2_with (first|(refine KD (o:=⟨some 15,_,_,_,_,_⟩) rfl _ _ rfl t1 v (by obtain⟨a,c,h⟩:=hv;exact⟨a,_,c,h⟩) rfl rfl ?_)|(with_reducible refine au (o:=⟨none,_,_,_,_,_⟩) rfl _ _ _ rfl w.heap.size cD (pr t1 v) rfl rfl kK (bW.trans rfl) rfl (fq t1 kh) ?_));obtain⟨T2,BO⟩:=kK.setRow (pr t1 v);exact bodyPost_ret (v:=.agg (pr t1 v).toArray) (results_cell_row (fn:=Tryz.f51) rfl _ _ w.heap.size T2 _ (0,0) _ rfl BO underlying76 rfl (bW.trans rfl)) rfl (Hm.ko (a:=(t1,ts)) Ff.o (eP O1.o lL) (J4.o.cur.aG (by omega) _) (J4.o.but.trans (cA.aH (below_setRow (Below.refl _ _) ν _))))
def yt(g h:Nat)(w:World):CallsD prog 93 #[.pointer (some ⟨g,0,none⟩),.pointer (some ⟨h,0,none⟩)] .returning w λe u' w'=>e=.returned (.tuple #[])/\u'=.returning/\w'=w:=by refine callsD_of_wpS func93 rfl λuH cs hu=>?_;simp only[ntmps93,List.size_toArray,List.length_cons,List.length_nil,Nat.reduceAdd,Nat.reduceSub,Array.replicate_succ,Array.replicate_zero,List.push_toArray,List.append_toArray,List.nil_append,List.cons_append];apply wpS_seq;apply wpS_region;simp[wpOpsS,go_sem,recoverD,hu,Exit.thenS];refine wpS_of_wp ?_;go_wp2_with fail;cases uH;simp_all[bodyPostS,results,results93]
def j3(g h:Nat)(n m:Int)(l:List Value)(w:World)(hg:Row w g l)(hh:Row w h [.int .i64 m])(hl:l.length=2)(cE:g≠h):CallsD prog 93 #[.pointer (some ⟨g,0,none⟩),.pointer (some ⟨h,0,none⟩)] (.panicking (fI n)) w λe u' w'=>e=.returned (.tuple #[])/\u'=.panicking [{v:=.iface 146 (.agg #[.int .i64 n]),recovered:=true}]/\Row w' g cD/\Row w' h [.int .i64 n]/\aV (λk=>k=g∨k=h) w w':=by
 refine callsD_of_wpS func93 rfl λuH cs hu=>?_;simp only[ntmps93,List.size_toArray,List.length_cons,List.length_nil,Nat.reduceAdd,Nat.reduceSub,Array.replicate_succ,Array.replicate_zero,List.push_toArray,List.append_toArray,List.nil_append,List.cons_append];apply wpS_seq;apply wpS_region;unfold fI at hu;have Y5:=th n;simp[wpOpsS,go_sem,recoverD,hu,Exit.thenS];refine wpS_of_wp ?_;have hzg:=hg.lt;have hzh:=hh.lt;have r1:Row ((w.alloc (.cells #[.int .i64 n] 146)).alloc (.cells #[.string (str []),.slice none 0 0] 76)) w.heap.size [.int .i64 n]:=(Row.new w [.int .i64 n] 146).alloc _;have r2:Row ((w.alloc (.cells #[.int .i64 n] 146)).alloc (.cells #[.string (str []),.slice none 0 0] 76)) (w.heap.size+1) cD:=by have:=Row.new (w.alloc (.cells #[.int .i64 n] 146)) cD 76;rw[World.size_alloc]at this;exact this
 have r3:Row ((w.alloc (.cells #[.int .i64 n] 146)).alloc (.cells #[.string (str []),.slice none 0 0] 76)) g l:=(hg.alloc _).alloc _;have r4:Row ((w.alloc (.cells #[.int .i64 n] 146)).alloc (.cells #[.string (str []),.slice none 0 0] 76)) h [.int .i64 m]:=(hh.alloc _).alloc _;have kk:aV (λk=>k=g∨k=h) w ((w.alloc (.cells #[.int .i64 n] 146)).alloc (.cells #[.string (str []),.slice none 0 0] 76)):=((aV.refl _ _).alloc _).alloc _;clear hg hh;go_wp2_with fail;generalize(w.alloc _).alloc _=w1 at r1 r2 r3 r4 kk|-;generalize w.heap.size=A at *;have hu:∀u:ax.Of (λu=>Row u A [.int .i64 n]/\Row u (A+1) cD),u.w.cell? ⟨A,0,none⟩=some (.int .i64 n):=λu=>u.h.1.cell 0;haveI aaO:Nonempty (ax.Of (λu=>Row u A [.int .i64 n]/\Row u (A+1) cD)):=⟨⟨w1,r1,r2⟩⟩;refine ax.bM [0,1,2] 2 mixed (by kernel_rfl) rfl rfl (λc a d v w h=>by cases d<;>exact h) (by as_aux_lemma=>kernel_rfl) rfl (λu=>Row u A [.int .i64 n]/\Row u (A+1) cD) ⟨r1.drew,r2.drew⟩ ?_;show wpQuiet _ _ _ _ [_,_,_] _;refine fJ (o:=⟨some 12,_,_,_,_,_⟩) rfl _ _ rfl (A+1) cD rfl (λw hw=>by obtain⟨u,rfl⟩:=hw;exact u.h.2) _ underlying76 (bW.trans rfl) _ rfl ?_;go_frame;repeat(go_big_quiet_step (fail))
 refine wpQuiet_nil ?_;have r1:=r1.drew;have r2:=r2.drew;have r3:=r3.drew;have r4:=r4.drew;have kk:=kk.drew;generalize w1.drew=w2 at r1 r2 r3 r4 kk|-;refine ax.one 3 _ (by kernel_rfl) rfl rfl ?_;refine au rfl _ _ _ rfl g l cD rfl rfl r3 (bW.trans rfl) (by rw[hl];rfl) (by decide +kernel) ?_;have s1:=r1.aG (g:=g) (by omega) cD.toArray;have s2:=r2.aG (g:=g) (by omega) cD.toArray;have s3:=r3.setRow cD;have s4:=r4.aG (g:=g) (Ne.symm cE) cD.toArray;have kk:=kk.setRow g cD.toArray (.inl rfl);generalize w2.setRow g _=w3 at s1 s2 s3 s4 kk|-;refine⟨ax.aq ⟨s1,s2⟩,?_⟩;refine ax.one 4 _ (by kernel_rfl) rfl rfl ?_;have hz:=s4.free 0;have hc:=s4.cell 0;try go_frame
 go_wp2_with fail;refine⟨ax.aq ⟨s1.other (show h≠A by omega) _,s2.other (show h≠A+1 by omega) _⟩,?_⟩
 refine wpAnyH_done (by kernel_rfl) ?_ 0;go_wp2_with fail;refine⟨rfl,_,rfl,.tuple #[],results_none rfl _ _ _,rfl,rfl,s3.other (Ne.symm cE) _,s4.set 0 _,kk.set _ _ (.inr rfl)⟩
def xS(l:List UInt8)(w:World)(hT:cG w)(hl:l.length<=9223372036854775807):Calls prog 50 #[.string (str l),.func (.func 51) #[] #[]] w (uU (Wr.dO l) (λa=>a.1) 69 33 (λa=>a.2.length) (λa=>aK a.2) w):=by
 have hmf:=EC;have gM:=hT.lt;have HT:=η hT;have EQ:=η (show Wr.dO l=(Wr.QB l).bind λa r=>if r=[]then .ok a r else .bad 5 from rfl);have r1:Row (((w.alloc (.cells #[.string (str []),.slice none 0 0] 76)).alloc (.cells #[.int .i64 0] 29)).alloc (.cells #[.string (str l)] 120)) w.heap.size cD:=((Row.new w cD 76).alloc _).alloc _;have r2:Row (((w.alloc (.cells #[.string (str []),.slice none 0 0] 76)).alloc (.cells #[.int .i64 0] 29)).alloc (.cells #[.string (str l)] 120)) (w.heap.size+1) [.int .i64 0]:=by have:=Row.new (w.alloc (.cells cD.toArray 76)) [.int .i64 0] 29;rw[World.size_alloc]at this;exact this.alloc _
 have r3:Row (((w.alloc (.cells #[.string (str []),.slice none 0 0] 76)).alloc (.cells #[.int .i64 0] 29)).alloc (.cells #[.string (str l)] 120)) (w.heap.size+2) [.string (str l)]:=by have:=Row.new ((w.alloc (.cells cD.toArray 76)).alloc (.cells #[.int .i64 0] 29)) [.string (str l)] 120;rw[World.size_alloc,World.size_alloc]at this;exact this
 have hB:Below w.heap.size w (((w.alloc (.cells #[.string (str []),.slice none 0 0] 76)).alloc (.cells #[.int .i64 0] 29)).alloc (.cells #[.string (str l)] 120)):=(((Below.refl _ _).alloc ν _).alloc (by simp) _).alloc (by simp;omega) _;clear hT;go_enter_defers func50,ntmps50;go_wp2_with fail;generalize((w.alloc _).alloc _).alloc _=w1 at r1 r2 r3 hB|-;have HB:=η hB;have hz:=hB.size;have lL:=r3.lt;have R1:=η r1;have R2:=η r2;have T1:=η (Hk (w.heap.size+2) l w1 (HT.o.below hB gM) (by omega) r3 hl)
 clear r1 r2 r3 hB;refine T1.o.mono ?_;clear T1;cases hx:Wr.QB l with
 |bad n=>rintro e w2⟨rfl,h⟩;rw[hx]at EQ;have H1:=h.row R1.o R1.o.lt (by omega);have H2:=h.row R2.o R2.o.lt (by omega);refine leaves_cons (f:=93) (args:=#[.pointer (some ⟨w.heap.size,0,none⟩),.pointer (some ⟨w.heap.size+1,0,none⟩)]) (by simp) (by simp[go_sem]) ?_;refine(j3 w.heap.size (w.heap.size+1) n 0 cD w2 H1 H2 rfl (by omega)).mono ?_;rintro e u' w3⟨rfl,rfl,h5,h6,h7⟩;refine⟨_,cV rfl _ _ w.heap.size (w.heap.size+1) cD n rfl rfl h5 h6 _ underlying76 (bW.trans rfl),?_⟩;exact uU.bh EQ.o (HB.o.trans ⟨h7.os.trans h.os,h7.tape.trans h.tape,h7.output.trans h.output,Nat.le_trans h.size h7.size,λk hk=>(h7.block k (by have:=h.size;omega) (by omega)).trans (h.block k (by omega) (by omega))⟩)
 |ok t r=>
 rintro e w2⟨v,rfl,ho,h3,h⟩;rw[hx]at EQ;have iH:=η (show Wr.dO l=if r=[]then .ok t r else .bad 5 from EQ.o);have H1:=h.row R1.o R1.o.lt (by omega);have H2:=h.row R2.o R2.o.lt (by omega);have gK:=h.size;have kh:=dN ho;have B2:=η (show Below w.heap.size w w2 from HB.o.trans ⟨h.os,h.tape,h.output,h.size,λk hk=>h.block k (by omega) (by omega)⟩);have S1:=η (H1.setRow (pr t.1 v));have S2:=η (H2.aG (g:=w.heap.size) (by omega) (pr t.1 v).toArray);have S3:=η (h3.aG (g:=w.heap.size) (by omega) (pr t.1 v).toArray);have B3:=η (below_setRow B2.o ν (pr t.1 v).toArray);have O3:=η (dh (S:=w.heap.size) ho (pr t.1 v).toArray (by omega));clear EQ h h3 H2 R1 R2 HB hx ho;go_wp2_with (with_reducible refine au (o:=⟨none,_,_,_,_,_⟩) rfl _ _ _ rfl w.heap.size cD (pr t.1 v) rfl rfl H1 (bW.trans rfl) rfl (fq t.1 kh) ?_);clear H1;generalize w2.setRow _ _=w3 at S1 S2 S3 B3 O3|-;refine(nt (w.heap.size+2) r w3 S3.o).mono ?_;by_cases hr:r=[]
 ·simp only[if_pos hr];rintro e w4⟨rfl,rfl⟩;have kK:=S1.o;have S4:=η (S2.o.aG (g:=w.heap.size) (by omega) (pr t.1 v).toArray);have S5:=η (S1.o.setRow (pr t.1 v));have B5:=η (below_setRow B3.o ν (pr t.1 v).toArray);have O5:=η (dh (S:=w.heap.size) O3.o (pr t.1 v).toArray (by omega));have Pf:=S4.o.free 0;have Zb:=S4.o.cell 0;go_wp2_with (first|(refine dW (o:=⟨some 19,_,_,_,_,_⟩) rfl _ _ rfl w.heap.size (pr t.1 v) rfl kK _ underlying76 (bW.trans rfl) _ rfl ?_)|(with_reducible refine au (o:=⟨none,_,_,_,_,_⟩) rfl _ _ _ rfl w.heap.size (pr t.1 v) (pr t.1 v) rfl rfl kK (bW.trans rfl) rfl (fq t.1 kh) ?_));refine leaves_cons (f:=93) (args:=#[.pointer (some ⟨w.heap.size,0,none⟩),.pointer (some ⟨w.heap.size+1,0,none⟩)]) (by simp) (by simp[go_sem]) ?_;refine(yt w.heap.size (w.heap.size+1) _).mono ?_;rintro e u' w5⟨rfl,rfl,rfl⟩;refine⟨_,cV rfl _ _ w.heap.size (w.heap.size+1) (pr t.1 v) 0 rfl rfl (S5.o.other (show w.heap.size+1≠w.heap.size by omega) _) (S4.o.set 0 _) _ underlying76 (bW.trans rfl),?_⟩;exact uU.ko (iH.o.trans (if_pos hr)) (eP (bt O5.o _ (by show w.heap.size+1<_;omega)) hz) (B5.o.setCell (show w.heap.size<=w.heap.size+1 by omega) _)
 simp only[if_neg hr];rintro e w4⟨rfl,rfl⟩;refine leaves_cons (f:=93) (args:=#[.pointer (some ⟨w.heap.size,0,none⟩),.pointer (some ⟨w.heap.size+1,0,none⟩)]) (by simp) (by simp[go_sem]) ?_;refine(j3 w.heap.size (w.heap.size+1) 5 0 (pr t.1 v) w4 S1.o S2.o rfl (by omega)).mono ?_;rintro e u' w5⟨rfl,rfl,h5,h6,h7⟩;refine⟨_,cV rfl _ _ w.heap.size (w.heap.size+1) cD 5 rfl rfl h5 h6 _ underlying76 (bW.trans rfl),?_⟩;exact uU.bh (k:=5) (iH.o.trans (if_neg hr)) (B3.o.trans ⟨h7.os,h7.tape,h7.output,h7.size,λk hk=>h7.block k (by have:=B3.o.size;omega) (by omega)⟩)
def ju(l:List UInt8)(w:World)(hT:cG w)(hl:l.length<=9223372036854775807):Calls prog 26 #[.string (str l)] w (uU (Wr.dO l) (λa=>a.1) 69 33 (λa=>a.2.length) (λa=>aK a.2) w):=by
 have gM:=hT.lt;have r1:Row (w.alloc (.cells #[.string (str []),.slice none 0 0] 76)) w.heap.size cD:=Row.new w cD 76;have hB:Below w.heap.size w (w.alloc (.cells #[.string (str []),.slice none 0 0] 76)):=(Below.refl _ _).alloc ν _;go_enter func26,ntmps26;go_wp2_with fail;generalize w.alloc _=w1 at r1 hB|-;have HB:=η hB;have R1:=η r1;have hz:=r1.lt;have T1:=η (xS l w1 (hT.below hB gM) hl);clear hT hB r1;refine T1.o.mono ?_;clear T1;cases hx:Wr.dO l with
 |bad n=>have EQ:=η hx;clear hx;rintro e w2⟨rfl,h2⟩;have H1:=R1.o.below h2 hz;have B2:=η (HB.o.trans (h2.mono (by omega)));have S1:=η (H1.setRow cD);have B3:=η (below_setRow B2.o ν cD.toArray);clear h2 R1 HB;go_wp2_with (with_reducible refine au (o:=⟨none,_,_,_,_,_⟩) rfl _ _ _ rfl w.heap.size cD cD rfl rfl H1 (bW.trans rfl) rfl (by decide +kernel) ?_);exact bodyPost_ret (v:=.tuple #[.agg cD.toArray,.int .i64 n]) (cn rfl _ _ w.heap.size cD (.int .i64 n) rfl rfl S1.o _ underlying76 (bW.trans rfl)) rfl (uU.bh EQ.o B3.o)
 |ok t r=>have EQ:=η hx;clear hx;rintro e w2⟨v,rfl,ho,h2⟩;have kh:=dN ho;have H1:=R1.o.below h2 hz;have B2:=η (HB.o.trans (h2.mono (by omega)));have S1:=η (H1.setRow (pr t.1 v));have B3:=η (below_setRow B2.o ν (pr t.1 v).toArray);have O3:=η (dh (S:=w.heap.size) ho (pr t.1 v).toArray (by omega));clear h2 R1 HB ho;go_wp2_with (with_reducible refine au (o:=⟨none,_,_,_,_,_⟩) rfl _ _ _ rfl w.heap.size cD (pr t.1 v) rfl rfl H1 (bW.trans rfl) rfl (fq t.1 kh) ?_);exact bodyPost_ret (v:=.tuple #[.agg (pr t.1 v).toArray,.int .i64 0]) (cn rfl _ _ w.heap.size (pr t.1 v) (.int .i64 0) rfl rfl S1.o _ underlying76 (bW.trans rfl)) rfl (uU.ko EQ.o (eP O3.o (by omega)) B3.o)
end
