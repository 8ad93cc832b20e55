import Derived.Test.YtlpcjiollnnmgabDoorM01
import Derived.Maps.Ext
import Derived.Shelf.Sort.Plain
import Derived.Sort.KeysCollected
import Derived.Sort.OwnSorted
set_option maxRecDepth 100000
set_option maxHeartbeats 8000000
set_option linter.all false
namespace Go.Proofs.YtlpcjiollnnmgabDoor
open Go.Proofs.Tryd
namespace Ph
open Nums
open Go.RowKit
abbrev By:=List UInt8
def grp(f:By->By)(got:List By)(s:By):List By:=got.reverse.filter λt=>f t==s
def pairV(p:By×Value):Value×Value:=(.string (str p.1),p.2)
def Outs(w:World)(B m:Nat)(f:By->By)(got:List By):Prop:=∃(es:Array MapEntry)(clock:Nat)(K:List (By×Value)),w.heap[m]? =some (.map es clock)/\es.toList.map (λe=>(e.key,e.val))=K.map pairV/\(K.map (·.1)).Nodup/\(∀s,s∈K.map (·.1)↔ ∃t∈got,f t=s)/\(∀p∈K,w.ownsRow B 56 33 p.2 (grp f got p.1).length (txsCells (grp f got p.1)))/\∀(i j:Nat)(p q:By×Value),K[i]? =some p->K[j]? =some q->i≠j->p.2.ownBlock≠q.2.ownBlock
def fnd:List (By×Value)->By->Nat->Option (Nat×Value)
 |[],_,_=>none|p::K,s,i=>if p.1=s then some (i,p.2)else fnd K s (i+1)
def str_beq(a b:By):(str a==str b)=decide (a=b):=by rw[beq_toListBytes,str_toList,str_toList,Bool.eq_iff_iff,beq_iff_eq,decide_eq_true_eq]
theorem findNow_str:∀(es:List MapEntry)(K:List (By×Value)),es.map (λe=>(e.key,e.val))=K.map pairV->∀(s:By)(i:Nat),Instr.findNow .string (.string (str s)) es i=some (fnd K s i)
 |[],[],_,s,i=>rfl|[],p::K,h,_,_=>by simp at h|e::es,[],h,_,_=>by simp at h|e::es,p::K,h,s,i=>by simp only[List.map_cons,List.cons.injEq]at h;obtain⟨h1,h2⟩:=h;have hk:e.key=.string (str p.1):=(Prod.mk.inj h1).1;have hv:e.val=p.2:=(Prod.mk.inj h1).2;unfold Instr.findNow fnd;rw[hk];unfold Instr.sameNow;dsimp only;rw[str_beq];by_cases hs:p.1=s;rw[if_pos hs];rw[show decide (s=p.1)=true from by simp[hs],hv];rw[if_neg hs];rw[show decide (s=p.1)=false from by simp;exact λe=>hs e.symm];exact findNow_str es K h2 s (i+1)
theorem fnd_none:∀ {K:List (By×Value)}{s:By}{i:Nat},fnd K s i=none->s∉K.map (·.1)
 |[],_,_,_=>by simp|p::K,s,i,h=>by unfold fnd at h;split at h;cases h;rename_i hs;have:=fnd_none h;simp only[List.map_cons,List.mem_cons,not_or];exact⟨λe=>hs e.symm,this⟩
theorem fnd_some:∀ {K:List (By×Value)}{s:By}{i j:Nat}{v:Value},fnd K s i=some (j,v)->∃k,j=i+k/\K[k]? =some (s,v)
 |[],_,_,_,_,h=>by cases h
 |p::K,s,i,j,v,h=>by unfold fnd at h;split at h;rename_i hs;cases h;exact⟨0,rfl,by subst hs;rfl⟩;obtain⟨k,h1,h2⟩:=fnd_some h;exact⟨k+1,by omega,by simpa using h2⟩
def val0(K:List (By×Value))(s:By):Value:=match fnd K s 0 with
 |some (_,v)=>v
 |none=>.slice none 0 0
def upd0(K:List (By×Value))(s:By)(v:Value):List (By×Value):=match fnd K s 0 with
 |some (i,_)=>K.set i (s,v)
 |none=>K++[(s,v)]
section
variable{w:World}{m clock:Nat}{es:Array MapEntry}{K:List (By×Value)}
def run_getObj'{P:Program}(h:w.heap[m]? =some (.map es clock)):(getObj m).run P w=.ok (.map es clock) w:=by simp[getObj,Sem.run,h]
def zeroTxs:(zeroValue 34).run prog w=.ok (.slice none 0 0) w:=by kernel_rfl
def look_run(h:w.heap[m]? =some (.map es clock))(hk:es.toList.map (λe=>(e.key,e.val))=K.map pairV)(s:By):(Instr.lookup 77 (.map (some m)) (.string (str s)) false).run prog w=.ok (val0 K s) w:=by unfold Instr.lookup;have h1:=underlying77;have hc:(Instr.checkKey es.isEmpty (9999+1) 9 (.string (str s))).run prog w=.ok () w:=MapKept.run_checkKey underlying9 (by trivial) _ _;have hf:(Instr.findKey 9 (.string (str s)) es.toList).run prog w=.ok (fnd K s 0) w:=MapKept.run_findKey underlying9 (findNow_str es.toList K hk s 0);simp only[Sem.run_bind,run_underlying h1,Result.andThen_ok,run_getObj' h,Sem.run_pure,hc,hf];unfold val0;cases fnd K s 0 with|none=>simp only[Sem.run_bind,zeroTxs,Result.andThen_ok,Sem.run_pure];rfl|some p=>obtain⟨i,v⟩:=p;simp only[Sem.run_pure,Result.andThen_ok];rfl
def modify_set(es:Array MapEntry)(i:Nat)(k v:Value):(es.modify i λe=>{e with key:=k,val:=v}).toList.map (λe=>(e.key,e.val))=(es.toList.map λe=>(e.key,e.val)).set i (k,v):=by apply List.ext_getElem?;intro j;rw[List.getElem?_map,Array.getElem?_toList,Array.getElem?_modify,List.getElem?_set];by_cases hij:i=j;subst hij;rw[if_pos rfl,if_pos rfl];by_cases hi:i<es.size;rw[Array.getElem?_eq_getElem hi,if_pos (by simpa using hi)];rfl;rw[Array.getElem?_eq_none (by omega),if_neg (by simpa using hi)];rfl;rw[if_neg hij,if_neg hij,List.getElem?_map,Array.getElem?_toList]
def upd_run(h:w.heap[m]? =some (.map es clock))(hk:es.toList.map (λe=>(e.key,e.val))=K.map pairV)(s:By)(v:Value):∃es' clock',(Instr.mapUpdate 77 (.map (some m)) (.string (str s)) v).run prog w=.ok () {w with heap:=w.heap.setIfInBounds m (.map es' clock')}/\es'.toList.map (λe=>(e.key,e.val))=(upd0 K s v).map pairV:=by
 have h1:=underlying77;have hc:(Instr.checkKey false (9999+1) 9 (.string (str s))).run prog w=.ok () w:=MapKept.run_checkKey underlying9 (by trivial) _ _;have hf:(Instr.findKey 9 (.string (str s)) es.toList).run prog w=.ok (fnd K s 0) w:=MapKept.run_findKey underlying9 (findNow_str es.toList K hk s 0);cases hF:fnd K s 0 with
 |none=>refine⟨es.push {key:=.string (str s),val:=v,born:=clock},clock+1,?_,?_⟩;unfold Instr.mapUpdate;rw[hF]at hf;simp only[Sem.run_bind,run_underlying h1,Result.andThen_ok,run_getObj' h,Sem.run_pure,hc,hf];exact MapKept.run_setObj_map _ h;unfold upd0;rw[hF,Array.toList_push,List.map_append,hk,List.map_append];rfl|some p=>
 obtain⟨i,v0⟩:=p;obtain⟨k,hi,hK⟩:=fnd_some hF;rw[Nat.zero_add]at hi;subst hi;have hes:∃e,es[i]? =some e/\e.key=.string (str s):=by
  have:(es.toList.map λe=>(e.key,e.val))[i]? =(K.map pairV)[i]?:=by rw[hk]
  rw[List.getElem?_map,List.getElem?_map,hK,Array.getElem?_toList]at this;obtain⟨e,he,hp⟩:=Option.map_eq_some_iff.1 this;exact⟨e,he,(Prod.mk.inj hp).1⟩
 obtain⟨e,he,hkey⟩:=hes;have hkt:(Instr.keyThatStays (((es[i]?).map (·.key)).getD (.string (str s))) (.string (str s))).run prog w=.ok (.string (str s)) w:=by rw[he];simp only[Option.map_some,Option.getD_some,hkey];unfold Instr.keyThatStays;rw[if_pos (by simp[Instr.sameBits,beq_toListBytes])];rfl
 refine⟨es.modify i λe=>{e with key:=.string (str s),val:=v},clock,?_,?_⟩;unfold Instr.mapUpdate;rw[hF]at hf;simp only[Sem.run_bind,run_underlying h1,Result.andThen_ok,run_getObj' h,Sem.run_pure,hc,hf,hkt];exact MapKept.run_setObj_map _ h;unfold upd0;rw[hF,modify_set,hk,List.map_set];rfl
def grp_same(f:By->By)(got:List By)(t:By):grp f (t::got) (f t)=grp f got (f t)++[t]:=by unfold grp;rw[List.reverse_cons,List.filter_append];simp
def grp_other{f:By->By}{got:List By}{t s:By}(h:f t≠s):grp f (t::got) s=grp f got s:=by unfold grp;rw[List.reverse_cons,List.filter_append];simp[h]
def grp_none{f:By->By}{got:List By}{s:By}(h:¬∃t∈got,f t=s):grp f got s=[]:=by unfold grp;rw[List.filter_eq_nil_iff];intro t ht;simp only[List.mem_reverse]at ht;simp only[beq_iff_eq];exact λe=>h ⟨t,ht,e⟩
def txsCells_snoc(ts:List By)(t:By):txsCells (ts++[t])=txsCells ts++txCells t:=by unfold txsCells;simp
def own_set_map{w:World}{B m:Nat}{e:TypeId}{z n:Nat}{v:Value}{xs:List Value}{es:Array MapEntry}{clock:Nat}(h:w.ownsRow B e z v n xs)(hm:w.heap[m]? =some (.map es clock))(o:Obj):({w with heap:=w.heap.setIfInBounds m o}:World).ownsRow B e z v n xs:=by refine⟨h.1,h.2.imp id λ⟨g,cap,cur,h1,h2,h3,h4⟩=>⟨g,cap,cur,h1,h2,?_,h4⟩⟩;show(w.heap.setIfInBounds m o)[g]? =_;rw[Array.getElem?_setIfInBounds_ne];exact h3;rintro rfl;rw[hm]at h3;cases h3
def own_some{w:World}{B e z n:Nat}{v:Value}{xs:List Value}(h:w.ownsRow B e z v n xs)(hn:0<n):∃g,v.ownBlock=some g:=by rcases h.2 with⟨_,h0⟩|⟨g,cap,cur,rfl,_⟩;omega;exact⟨g,rfl⟩
structure Slot(w:World)(B m:Nat)(f:By->By)(got:List By)(s:By)(es:Array MapEntry)(clock:Nat)(K:List (By×Value)):Prop where
 at_:w.heap[m]? =some (.map es clock)
 key:es.toList.map (λe=>(e.key,e.val))=K.map pairV
 nodup:(K.map (·.1)).Nodup
 mem:∀s,s∈K.map (·.1)↔ ∃t∈got,f t=s
 rows:∀p∈K,w.ownsRow B 56 33 p.2 (grp f got p.1).length (txsCells (grp f got p.1))
 dist:∀(i j:Nat)(p q:By×Value),K[i]? =some p->K[j]? =some q->i≠j->p.2.ownBlock≠q.2.ownBlock
 own:w.ownsRow B 56 33 (val0 K s) (grp f got s).length (txsCells (grp f got s))
def Slot.below{w w':World}{B C m:Nat}{f:By->By}{got:List By}{s:By}{es:Array MapEntry}{clock:Nat}{K:List (By×Value)}(h:Slot w B m f got s es clock K)(hb:Below C w w')(hC:w.heap.size<=C):Slot w' B m f got s es clock K:=⟨(hb.block m (Nat.lt_of_lt_of_le (Array.getElem?_eq_some_iff.1 h.at_).1 hC)).trans h.at_,h.key,h.nodup,h.mem,λp hp=>ownN_below (h.rows p hp) hb hC,h.dist,ownN_below h.own hb hC⟩
def Outs.slot{w:World}{B m:Nat}{f:By->By}{got:List By}(h:Outs w B m f got)(s:By):∃es clock K,Slot w B m f got s es clock K:=by obtain⟨es,clock,K,h1,h2,h3,h4,h5,h6⟩:=h;refine⟨es,clock,K,h1,h2,h3,h4,h5,h6,?_⟩;unfold val0;cases hF:fnd K s 0 with|none=>rw[grp_none (λhx=>fnd_none hF ((h4 s).2 hx))];exact World.ownsRow_nil _ _ _ _|some p=>obtain⟨i,v⟩:=p;obtain⟨k,_,hK⟩:=fnd_some hF;exact h5 _ (List.mem_of_getElem? hK)
def Outs.nil(w:World)(B m:Nat)(f:By->By)(h:w.heap[m]? =some (.map #[] 0)):Outs w B m f []:=⟨#[],0,[],h,rfl,by simp,(λs=>by simp),(λp hp=>by cases hp),λi j p q hp=>by simp at hp⟩
def Slot.put{w w1:World}{B m:Nat}{f:By->By}{got:List By}{t:By}{es es':Array MapEntry}{clock clock':Nat}{K:List (By×Value)}(h:Slot w B m f got (f t) es clock K){v1:Value}(hg:w.grownBy w1 (val0 K (f t)).ownBlock) (hv:w1.ownsRow B 56 33 v1 ((grp f got (f t)).length+1) (txsCells (grp f got (f t))++txCells t)) (hb:v1.ownBlock=(val0 K (f t)).ownBlock∨∃g,v1.ownBlock=some g/\w.heap.size<=g) (hes:es'.toList.map (λe=>(e.key,e.val))=(upd0 K (f t) v1).map pairV):Outs {w1 with heap:=w1.heap.setIfInBounds m (.map es' clock')} B m f (t::got):=by
 have hmlt:m<w.heap.size:=(Array.getElem?_eq_some_iff.1 h.at_).1;have hm1:w1.heap[m]? =some (.map es clock):=by
  rw[hg.block m hmlt];exact h.at_;intro e;rcases h.own.2 with⟨h0,_⟩|⟨g,cap,cur,hg',_,hc,_⟩;rw[h0]at e;cases e;rw[hg']at e;have:m=g:=by have:=e.symm;exact(Option.some.inj this).symm
  subst this;rw[h.at_]at hc;cases hc
 have hm1lt:m<w1.heap.size:=(Array.getElem?_eq_some_iff.1 hm1).1;have hsz:∀p∈K,∃g,p.2.ownBlock=some g/\g<w.heap.size:=λp hp=>by obtain⟨t',ht',e⟩:=(h.mem p.1).1 (List.mem_map_of_mem hp);have hn:0< (grp f got p.1).length:=List.length_pos_of_mem (a:=t') (by unfold grp;simp[ht',e]);obtain⟨g,hg'⟩:=own_some (h.rows p hp) hn;exact⟨g,hg',((h.rows p hp).lt g hg').2⟩
 have hkeep:∀p∈K,p.1≠f t->w1.ownsRow B 56 33 p.2 (grp f (t::got) p.1).length (txsCells (grp f (t::got) p.1)):=λp hp hne=>by
  rw[grp_other (λe=>hne e.symm)];refine(h.rows p hp).kept hg (.inr ?_);obtain⟨g,hg',_⟩:=hsz p hp;unfold val0;cases hF:fnd K (f t) 0 with
  |none=>rw[hg'];exact λe=>by cases e
  |some q=>obtain⟨i,v⟩:=q;obtain⟨k,_,hK⟩:=fnd_some hF;obtain⟨j,hj⟩:=List.getElem?_of_mem hp;refine h.dist j k p _ hj hK λe=>?_;subst e;rw[hj]at hK;exact hne (by rw[Option.some.inj hK])
 have hnew:w1.ownsRow B 56 33 v1 (grp f (t::got) (f t)).length (txsCells (grp f (t::got) (f t))):=by rw[grp_same,List.length_append,txsCells_snoc];exact hv
 obtain⟨g1,hg1⟩:=own_some hv (by omega);cases hF:fnd K (f t) 0 with
 |none=>
 have hU:upd0 K (f t) v1=K++[(f t,v1)]:=by unfold upd0;rw[hF]
 have hV:val0 K (f t)=.slice none 0 0:=by unfold val0;rw[hF]
 have hfresh:w.heap.size<=g1:=by rcases hb with e|⟨g,e,hle⟩;rw[hV,hg1]at e;cases e;rw[hg1]at e;rw[Option.some.inj e];exact hle
 have hnm:=fnd_none hF;rw[hU]at hes;refine⟨es',clock',_,Array.getElem?_setIfInBounds_self_of_lt hm1lt,hes,?_,λs=>?_,λp hp=>own_set_map ?_ hm1 _,λi j p q hp hq hij=>?_⟩;rw[List.map_append,List.nodup_append];exact⟨h.nodup,by simp,λa ha b hb' e=>by simp only[List.map_cons,List.map_nil,List.mem_singleton]at hb';subst hb';subst e;exact hnm ha⟩;rw[List.map_append,List.mem_append,h.mem s];simp only[List.map_cons,List.map_nil,List.mem_singleton,List.mem_cons,List.not_mem_nil,or_false];constructor;rintro(⟨t',h1,h2⟩|rfl);exact⟨t',.inr h1,h2⟩;exact⟨t,.inl rfl,rfl⟩;rintro⟨t',rfl|h1,h2⟩;exact .inr h2.symm;exact .inl ⟨t',h1,h2⟩;rcases List.mem_append.1 hp with hp|hp;exact hkeep p hp λe=>hnm (by rw[<-e];exact List.mem_map_of_mem hp);rw[List.mem_singleton]at hp;subst hp;exact hnew;have hget:∀(i:Nat) p,(K++[(f t,v1)])[i]? =some p->(∃g,i<K.length/\K[i]? =some p/\p.2.ownBlock=some g/\g<w.heap.size)∨(i=K.length/\p=(f t,v1)):=λi p hp=>by
  rw[List.getElem?_append]at hp;split at hp;rename_i hlt;obtain⟨g,h1,h2⟩:=hsz p (List.mem_of_getElem? hp);exact .inl ⟨g,hlt,hp,h1,h2⟩;rename_i hge;have:i-K.length=0:=by rcases Nat.eq_zero_or_pos (i-K.length)with h0|h0;exact h0;rw[List.getElem?_eq_none (by simp;omega)]at hp;cases hp
  rw[this]at hp;exact .inr ⟨by omega,(Option.some.inj hp).symm⟩
 rcases hget i p hp with⟨g,a1,a2,a3,a4⟩|⟨a1,rfl⟩<;>rcases hget j q hq with⟨g',b1,b2,b3,b4⟩|⟨b1,rfl⟩;exact h.dist i j p q a2 b2 hij;rw[a3,hg1];intro e;have:=Option.some.inj e;omega;rw[b3,hg1];intro e;have:=Option.some.inj e;omega;omega
 |some q0=>
 obtain⟨k,v0⟩:=q0;obtain⟨k',hk',hK⟩:=fnd_some hF;rw[Nat.zero_add]at hk';subst hk';have hU:upd0 K (f t) v1=K.set k (f t,v1):=by unfold upd0;rw[hF]
 have hV:val0 K (f t)=v0:=by unfold val0;rw[hF]
 have hkl:k<K.length:=(List.getElem?_eq_some_iff.1 hK).1;rw[hU]at hes;have hmap:(K.set k (f t,v1)).map (·.1)=K.map (·.1):=by rw[List.map_set];apply List.ext_getElem?;intro j;by_cases hj:k=j;subst hj;rw[List.getElem?_set_self (by simpa using hkl),List.getElem?_map,hK];rfl;rw[List.getElem?_set_ne hj]
 have hget:∀(i:Nat) p,(K.set k (f t,v1))[i]? =some p->(i≠k/\K[i]? =some p)∨(i=k/\p=(f t,v1)):=λi p hp=>by by_cases hik:i=k;subst hik;rw[List.getElem?_set_self hkl]at hp;exact .inr ⟨rfl,(Option.some.inj hp).symm⟩;rw[List.getElem?_set_ne (Ne.symm hik)]at hp;exact .inl ⟨hik,hp⟩
 have hne1:∀(i:Nat) p,i≠k->K[i]? =some p->p.2.ownBlock≠v1.ownBlock:=λi p hik hp=>by rcases hb with e|⟨g,e,hle⟩;rw[e,hV];exact h.dist i k p _ hp hK hik;obtain⟨g',h1,h2⟩:=hsz p (List.mem_of_getElem? hp);rw[h1,e];intro e';have:=Option.some.inj e';omega
 refine⟨es',clock',_,Array.getElem?_setIfInBounds_self_of_lt hm1lt,hes,by rw[hmap];exact h.nodup,λs=>?_,λp hp=>own_set_map ?_ hm1 _,λi j p q hp hq hij=>?_⟩;rw[hmap,h.mem s];constructor;rintro⟨t',h1,h2⟩;exact⟨t',List.mem_cons_of_mem _ h1,h2⟩;rintro⟨t',h1,h2⟩;rcases List.mem_cons.1 h1 with rfl|h1;exact(h.mem s).1 (by rw[<-h2];exact List.mem_map_of_mem (List.mem_of_getElem? hK));exact⟨t',h1,h2⟩;obtain⟨i,hi⟩:=List.getElem?_of_mem hp;rcases hget i p hi with⟨hik,hi'⟩|⟨_,rfl⟩;refine hkeep p (List.mem_of_getElem? hi') λe=>hik ?_;have h1:(K.map (·.1))[i]? =some (f t):=by rw[List.getElem?_map,hi',<-e];rfl
 have h2:(K.map (·.1))[k]? =some (f t):=by rw[List.getElem?_map,hK];rfl
 have hil:i< (K.map (·.1)).length:=(List.getElem?_eq_some_iff.1 h1).1;exact(List.getElem?_inj hil h.nodup).1 (h1.trans h2.symm);exact hnew;rcases hget i p hp with⟨a1,a2⟩|⟨a1,rfl⟩<;>rcases hget j q hq with⟨b1,b2⟩|⟨b1,rfl⟩;exact h.dist i j p q a2 b2 hij;exact hne1 i p a1 a2;exact(hne1 j q b1 b2).symm;omega
end
end Ph
section
open Nums
namespace Cp
open Wr En
structure SentOK(n:Nat)(sent:List (Nat×B)):Prop where
 up:(sent.map (·.1)).Pairwise (· < ·)
 lt:∀p∈sent,p.1<n
 full:∀p∈sent,p.2≠ []/\p.2.length<=610
def lookup_mem{sent:List (Nat×B)}{i:Nat}{t:B}(h:sent.lookup i=some t):(i,t)∈sent:=by
 induction sent with
 |nil=>cases h
 |cons p l ih=>
 obtain⟨a,b⟩:=p;rw[List.lookup_cons]at h;split at h;rename_i he;have:i=a:=by simpa using he
 cases h;subst this;exact List.mem_cons_self;exact List.mem_cons_of_mem _ (ih h)
def lookup_none{sent:List (Nat×B)}{i:Nat}(h:sent.lookup i=none):∀p∈sent,p.1≠i:=by
 induction sent with
 |nil=>intro p hp;cases hp
 |cons q l ih=>obtain⟨a,b⟩:=q;rw[List.lookup_cons]at h;split at h;cases h;rename_i he;intro p hp;rcases List.mem_cons.1 hp with rfl|hp;intro e;exact absurd e.symm (by simpa using he);exact ih h p hp
def cnt(sent:List (Nat×B))(i:Nat):Nat:=(sent.filter λp=>decide (p.1<i)).length
def cnt_zero(sent:List (Nat×B)):cnt sent 0=0:=by unfold cnt;rw[List.length_eq_zero_iff,List.filter_eq_nil_iff];simp
theorem cnt_some:∀ {sent:List (Nat×B)}{i:Nat}{t:B},(sent.map (·.1)).Pairwise (· < ·)->sent.lookup i=some t->cnt sent (i+1)=cnt sent i+1
 |[],i,t,_,h=>by cases h
 |(a,b)::l,i,t,hup,h=>by
  simp only[List.map_cons,List.pairwise_cons]at hup;obtain⟨h1,h2⟩:=hup;rw[List.lookup_cons]at h;unfold cnt;split at h;rename_i he;have hia:i=a:=by simpa using he
  subst hia;have e:∀k,k<=i+1->(l.filter λp=>decide (p.1<k))=[]:=λk hk=>by rw[List.filter_eq_nil_iff];intro p hp;have:=h1 p.1 (List.mem_map.2 ⟨p,hp,rfl⟩);simp;omega
  rw[List.filter_cons_of_pos (by simp),List.filter_cons_of_neg (by simp),e (i+1) (by omega),e i (by omega)];rfl;have ih:=cnt_some h2 h;unfold cnt at ih;by_cases ha:a<i;rw[List.filter_cons_of_pos (by simp;omega),List.filter_cons_of_pos (by simpa using ha),List.length_cons,List.length_cons,ih];have hm:=lookup_mem h;have:=h1 i (List.mem_map.2 ⟨_,hm,rfl⟩);omega
def cnt_none{sent:List (Nat×B)}{i:Nat}(h:sent.lookup i=none):cnt sent (i+1)=cnt sent i:=by unfold cnt;congr 1;refine List.filter_congr λp hp=>?_;have:=lookup_none h p hp;simp only[decide_eq_decide];omega
theorem up_len:∀(l:List Nat)(a b:Nat),l.Pairwise (· < ·)->(∀x∈l,a<=x/\x<b)->l.length<=b-a
 |[],_,_,_,_=>Nat.zero_le _|x::l,a,b,h,hb=>by rw[List.pairwise_cons]at h;have h1:=hb x List.mem_cons_self;have h2:=up_len l (x+1) b h.2 λy hy=>⟨h.1 y hy,(hb y (List.mem_cons_of_mem _ hy)).2⟩;rw[List.length_cons];omega
theorem flen{α:Type}(p:α->Bool):∀l:List α,l.length=(l.filter p).length+(l.filter λx=> !p x).length
 |[]=>rfl|x::l=>by have ih:=flen p l;cases h:p x;rw[List.filter_cons_of_neg (by simp[h]),List.filter_cons_of_pos (by simp[h]),List.length_cons,List.length_cons];omega;rw[List.filter_cons_of_pos (by simp[h]),List.filter_cons_of_neg (by simp[h]),List.length_cons,List.length_cons];omega
def cnt_ge{n:Nat}{sent:List (Nat×B)}(h:SentOK n sent){i:Nat}(hn:sent.lookup i=none):sent.length<=cnt sent i+(n-(i+1)):=by
 have hz:((sent.filter λp=> !decide (p.1<i)).map (·.1)).length<=n-(i+1):=by
  refine up_len _ _ _ (h.up.sublist (List.filter_sublist.map _)) λx hx=>?_;obtain⟨p,hp,rfl⟩:=List.mem_map.1 hx;obtain⟨hp1,hp2⟩:=List.mem_filter.1 hp;have:=lookup_none hn p hp1;have h3:¬p.1<i:=by simpa using hp2
  exact⟨by omega,h.lt p hp1⟩
 have:=flen (λp:Nat×B=>decide (p.1<i)) sent;rw[List.length_map]at hz;unfold cnt;omega
structure FI(f:B->B)(P:List B)(sent:List (Nat×B))(shorts:List B)(n i:Nat)(L:List B)(ms:List Nat)(nx:Nat):Prop where
 len:L.length=n
 ahead:∀j,i<=j->j<n->L.getD j []=(sent.lookup j).getD []
 res:fill f P sent n 0 shorts=(L.take i++(fill f P sent (n-i) i (shorts.drop nx)).1,ms++(fill f P sent (n-i) i (shorts.drop nx)).2)
 at_:nx+cnt sent i=i
 le:i<=n
section
variable{f:B->B}{P:List B}{sent:List (Nat×B)}{shorts:List B}{n i:Nat}{L:List B}{ms:List Nat}{nx:Nat}
def take_set_succ{L:List B}{i:Nat}{t:B}(h:i<L.length):(L.set i t).take (i+1)=L.take i++[t]:=by rw[List.take_succ_eq_append_getElem (by rw[List.length_set];exact h),List.getElem_set_self,List.take_set_of_le (Nat.le_refl _)]
def take_getD{L:List B}{i:Nat}(h:i<L.length):L.take (i+1)=L.take i++[L.getD i []]:=by rw[List.take_succ_eq_append_getElem h,List.getD_eq_getElem?_getD,List.getElem?_eq_getElem h];rfl
def getD_set{L:List B}{i j:Nat}{t:B}(h:i≠j):(L.set i t).getD j []=L.getD j []:=by rw[List.getD_eq_getElem?_getD,List.getD_eq_getElem?_getD,List.getElem?_set_ne h]
def FI.skip(h:FI f P sent shorts n i L ms nx)(hs:SentOK n sent)(hi:i<n)(hL:L.getD i []≠ []):FI f P sent shorts n (i+1) L ms nx:=by have ha:=h.ahead i (Nat.le_refl _) hi;cases hx:sent.lookup i with|none=>rw[hx]at ha;exact absurd ha hL|some t=>rw[hx]at ha;have ht:L.getD i []=t:=ha;refine⟨h.len,λj h1 h2=>h.ahead j (by omega) h2,?_,?_,by omega⟩;rw[h.res,show n-i=(n-(i+1))+1 by omega,fill,hx,take_getD (by rw[h.len];exact hi),ht];simp;rw[cnt_some hs.up hx];have:=h.at_;omega
def FI.none(h:FI f P sent shorts n i L ms nx)(hs:SentOK n sent)(hi:i<n)(hL:L.getD i []=[]):sent.lookup i=none:=by have ha:=h.ahead i (Nat.le_refl _) hi;cases hx:sent.lookup i with|none=>rfl|some t=>rw[hx,hL]at ha;exact absurd ha.symm (hs.full _ (lookup_mem hx)).1
def FI.next(h:FI f P sent shorts n i L ms nx)(hs:SentOK n sent)(hn:n=shorts.length+sent.length)(hi:i<n)(hL:L.getD i []=[]):nx<shorts.length:=by have h1:=cnt_ge hs (h.none hs hi hL);have h2:=h.at_;omega
def drop_head{shorts:List B}{nx:Nat}(h:nx<shorts.length):(shorts.drop nx).headD []=shorts.getD nx []/\(shorts.drop nx).tail=shorts.drop (nx+1):=by rw[List.drop_eq_getElem_cons h,List.getD_eq_getElem?_getD,List.getElem?_eq_getElem h];exact⟨rfl,rfl⟩
def FI.hit(h:FI f P sent shorts n i L ms nx)(hs:SentOK n sent)(hn:n=shorts.length+sent.length)(hi:i<n)(hL:L.getD i []=[]){t:B}(ht:hits f P (shorts.getD nx [])=[t]):FI f P sent shorts n (i+1) (L.set i t) ms (nx+1):=by have hx:=h.none hs hi hL;obtain⟨e1,e2⟩:=drop_head (h.next hs hn hi hL);refine⟨by rw[List.length_set];exact h.len,λj h1 h2=>by rw[getD_set (by omega)];exact h.ahead j (by omega) h2,?_,?_,by omega⟩;rw[h.res,show n-i=(n-(i+1))+1 by omega,fill,hx];simp only[e1,ht,e2];rw[take_set_succ (by rw[h.len];exact hi)];simp;rw[cnt_none hx];have:=h.at_;omega
def FI.miss(h:FI f P sent shorts n i L ms nx)(hs:SentOK n sent)(hn:n=shorts.length+sent.length)(hi:i<n)(hL:L.getD i []=[])(ht:(hits f P (shorts.getD nx [])).length≠1):FI f P sent shorts n (i+1) L (ms++[i]) (nx+1):=by
 have hx:=h.none hs hi hL;obtain⟨e1,e2⟩:=drop_head (h.next hs hn hi hL);refine⟨h.len,λj h1 h2=>h.ahead j (by omega) h2,?_,?_,by omega⟩;rw[h.res,show n-i=(n-(i+1))+1 by omega,fill,hx];rw[take_getD (by rw[h.len];exact hi),hL];simp only[e1,e2];generalize hits f P (shorts.getD nx [])=hh at ht;match hh,ht with
 |[],_=>simp
 |[t],ht=>exact absurd rfl ht
 |a::b::l,_=>simp
 rw[cnt_none hx];have:=h.at_;omega
def FI.done(h:FI f P sent shorts n n L ms nx):fill f P sent n 0 shorts=(L,ms):=by rw[h.res,Nat.sub_self,fill];simp only[List.append_nil];rw[List.take_of_length_le (by rw[h.len];exact Nat.le_refl _)]
end
def hits_of{f:B->B}{P got:List B}(h:∀p:B->Bool,got.countP p=P.countP p)(s:B):(Ph.grp f got s).length=(hits f P s).length/\∀t,Ph.grp f got s=[t]->hits f P s=[t]:=by
 have hl:(Ph.grp f got s).length=(hits f P s).length:=by unfold Ph.grp hits;rw[<-List.countP_eq_length_filter,<-List.countP_eq_length_filter,List.countP_reverse,h]
 refine⟨hl,λt ht=>?_⟩;rw[ht,List.length_singleton]at hl;obtain⟨u,hu⟩:=List.length_eq_one_iff.1 hl.symm;rw[hu];have h1:(P.countP λx=>x==t&&f x==s)=1:=by rw[<-h,<-List.countP_reverse,<-List.countP_filter];have:got.reverse.filter (λx=>f x==s)=[t]:=ht;rw[this];simp
 rw[<-List.countP_filter]at h1;have:P.filter (λx=>f x==s)=[u]:=hu;rw[this]at h1;by_cases e:u=t;rw[e];simp[e]at h1
end Cp
namespace Cp
open Wr En
def ints(l:List Nat):List Int:=l.map λ(i:Nat)=>(i:Int)
def ints_len(l:List Nat):(ints l).length=l.length:=List.length_map _
def lookup_full{n:Nat}{sent:List (Nat×B)}(h:SentOK n sent){i:Nat}{t:B}(hx:sent.lookup i=some t):t≠ []/\t.length<=610:=h.full _ (lookup_mem hx)
section
variable{f:B->B}{P:List B}{sent:List (Nat×B)}
def hits_one{s t:B}(h:hits f P s=[t]):t∈P:=by
 have:t∈hits f P s:=by rw[h];exact List.mem_cons_self
 exact(List.mem_filter.1 this).1
theorem fill_ok{N:Nat}(hs:SentOK N sent)(hP:∀t∈P,t≠ []/\t.length<=610):∀(n i:Nat)(ss:List B),(∀t∈(fill f P sent n i ss).1,t.length<=610)/\(∀j,j<n->(fill f P sent n i ss).1.getD j []=[]->i+j∈(fill f P sent n i ss).2)/\Rise (i+n) i (ints (fill f P sent n i ss).2)
 |0,_,_=>⟨λt h=>(by cases h),λj h=>absurd h (Nat.not_lt_zero _),trivial⟩|n+1,i,ss=>by
  have rise_mono:∀(l:List Int)(lo lo':Int)(m:Nat),lo'<=lo->Rise m lo l->Rise m lo' l:=λl=>by cases l with|nil=>intros;trivial|cons a l=>exact λlo lo' m hl h=>⟨Int.le_trans hl h.1,h.2⟩
  rw[fill];split;rename_i t hx;obtain⟨h1,h2,h3⟩:=fill_ok hs hP n (i+1) ss;obtain⟨t1,t2⟩:=lookup_full hs hx;refine⟨λu hu=>?_,λj hj he=>?_,?_⟩;rcases List.mem_cons.1 hu with rfl|hu;exact t2;exact h1 u hu;cases j with|zero=>exact absurd he t1|succ j=>have:=h2 j (by omega) he;rwa[show i+(j+1)=i+1+j by omega]
  rw[show i+(n+1)=i+1+n by omega];exact rise_mono _ _ _ _ (by omega) h3;split;rename_i t ht;obtain⟨h1,h2,h3⟩:=fill_ok hs hP n (i+1) ss.tail;obtain⟨t1,t2⟩:=hP t (hits_one ht);refine⟨λu hu=>?_,λj hj he=>?_,?_⟩;rcases List.mem_cons.1 hu with rfl|hu;exact t2;exact h1 u hu;cases j with|zero=>exact absurd he t1|succ j=>have:=h2 j (by omega) he;rwa[show i+(j+1)=i+1+j by omega]
  rw[show i+(n+1)=i+1+n by omega];exact rise_mono _ _ _ _ (by omega) h3;obtain⟨h1,h2,h3⟩:=fill_ok hs hP n (i+1) ss.tail;refine⟨λu hu=>?_,λj hj he=>?_,?_⟩;rcases List.mem_cons.1 hu with rfl|hu;simp;exact h1 u hu;cases j with|zero=>exact List.mem_cons_self|succ j=>exact List.mem_cons_of_mem _ (by have:=h2 j (by omega) he;rwa[show i+(j+1)=i+1+j by omega])
  rw[show i+(n+1)=i+1+n by omega];exact⟨Int.le_refl _,by show(i:Int)< ((i+1+n:Nat):Int);omega,h3⟩
end
structure Wait(s:RS):Prop where
 some:s.missing≠ []
 head:s.header.length=80
 pos:0<s.txs.length
 le:s.txs.length<=16
 short:∀t∈s.txs,t.length<=610
 asked:∀j,j<s.txs.length->s.txs.getD j []=[]->j∈s.missing
 rise:Rise s.txs.length 0 (ints s.missing)
def Held(s:RS):Prop:=s=idle∨Wait s
def mem_ints{l:List Nat}{j:Nat}(h:j∈l):(j:Int)∈ints l:=List.mem_map.2 ⟨j,h,rfl⟩
def Wait.lt{s:RS}(h:Wait s){j:Nat}(hj:j∈s.missing):j<s.txs.length:=by have:=rise_lt _ _ _ h.rise _ (mem_ints hj);omega
def Wait.few{s:RS}(h:Wait s):s.missing.length<=16:=by rcases rise_len _ _ _ (by omega) h.rise with h1|h1;rw[ints_len]at h1;have:=h.le;omega;have:=congrArg List.length h1;rw[ints_len]at this;simp at this;rw[this];simp
theorem full_put:∀(is:List Nat)(us ts:List B),is.length=us.length->(∀u∈us,u≠ []/\u.length<=610)->(∀t∈ts,t.length<=610)->(∀i∈is,i<ts.length)->(∀j,j<ts.length->ts.getD j []=[]->j∈is)->∀t∈put ts is us,t≠ []/\t.length<=610
 |[],[],ts,_,_,h1,_,h2,t,ht=>by have ht':t∈ts:=ht;refine⟨λe=>?_,h1 t ht'⟩;obtain⟨j,hj,he⟩:=List.mem_iff_getElem.1 ht';have:=h2 j hj (by rw[List.getD_eq_getElem?_getD,List.getElem?_eq_getElem hj];simpa[e]using he);cases this
 |i::is,u::us,ts,hl,hu,h1,hlt,h2,t,ht=>by rw[put]at ht;have hu1:=hu u List.mem_cons_self;have hi:=hlt i List.mem_cons_self;refine full_put is us (ts.set i u) (by simpa using hl) (λx hx=>hu x (List.mem_cons_of_mem _ hx)) (λx hx=>?_) (λx hx=>by rw[List.length_set];exact hlt x (List.mem_cons_of_mem _ hx)) (λj hj he=>?_) t ht;rcases List.mem_or_eq_of_mem_set hx with hx|rfl;exact h1 x hx;exact hu1.2;rw[List.length_set]at hj;by_cases hji:i=j;subst hji;rw[List.getD_eq_getElem?_getD,List.getElem?_set_self hj]at he;exact absurd he hu1.1;rw[getD_set hji]at he;rcases List.mem_cons.1 (h2 j hj he)with rfl|h;exact absurd rfl hji;exact h
 |[],_::_,_,hl,_,_,_,_,_,_=>by simp at hl|_::_,[],_,hl,_,_,_,_,_,_=>by simp at hl
theorem put_snoc:∀(is:List Nat)(us ts:List B)(k:Nat),is.length=us.length->k<is.length->put ts (is.take (k+1)) (us.take (k+1))=(put ts (is.take k) (us.take k)).set (is.getD k 0) (us.getD k [])
 |[],us,ts,k,_,h=>by simp at h|i::is,[],ts,k,hl,_=>by simp at hl|i::is,u::us,ts,0,_,_=>by simp[put]|i::is,u::us,ts,k+1,hl,h=>by rw[List.take_succ_cons,List.take_succ_cons,put,put_snoc is us (ts.set i u) k (by simpa using hl) (by simpa using h)];rfl
theorem put_lookup:∀(sent:List (Nat×B))(ts:List B)(j:Nat),(sent.map (·.1)).Pairwise (· < ·)->(∀p∈sent,p.1<ts.length)->j<ts.length->(put ts (sent.map (·.1)) (sent.map (·.2))).getD j []=(sent.lookup j).getD (ts.getD j [])
 |[],ts,j,_,_,_=>rfl|(a,b)::l,ts,j,hup,hlt,hj=>by
  simp only[List.map_cons,List.pairwise_cons]at hup;rw[List.map_cons,List.map_cons,put,put_lookup l (ts.set a b) j hup.2 (λp hp=>by rw[List.length_set];exact hlt p (List.mem_cons_of_mem _ hp)) (by rw[List.length_set];exact hj),List.lookup_cons];by_cases h:j=a;subst h;have hn:l.lookup j=none:=by cases hx:l.lookup j with|none=>rfl|some t=>have:=hup.1 j (List.mem_map.2 ⟨_,lookup_mem hx,rfl⟩);omega
  rw[hn];simp[List.getElem?_set_self hj,List.getD_eq_getElem?_getD];have:(j==a)=false:=by simpa using h
  rw[this];simp only[getD_set (Ne.symm h)]
def fillAns(f:B->B)(P:List B)(c:Wr.Cb):(Nat×B)×RS:=
 let r:=fill f P c.sent (c.shorts.length+c.sent.length) 0 c.shorts
 if r.2=[]then(finish c.header r.1,idle)else((1,request c.header r.2),⟨c.header,r.1,r.2⟩)
def compact_ok{P:List B}{l:B}{c:Wr.Cb}{r:B}(h:Wr.readCompact l=.ok c r)(hn:c.shorts.Nodup):compact P l=((fillAns (En.short c.header c.nonce) P c).1,0,(fillAns (En.short c.header c.nonce) P c).2):=by unfold compact fillAns;simp only[h,hn,not_true_eq_false,if_false];split<;>rfl
end Cp
end
section
open Go.RowKit Nums
def wpQuiet_loadc{ops:Array Oper}{rest:List Oper}{o:Oper}{a:Act}{C:World->Prop}{Q:Act->Prop}(hgd:o.guard=none)(ty:TypeId)(x:Operand)(ho:o.op=.load ty x) (g:Nat) (l:List Value) (hx:a.eval x=.pointer (some ⟨g,0,none⟩)) (hr:∀w,C w->Row w g l) (d:TypeDesc) (hu:prog.underlying ty=some d) (hi:(prog.info? ty).map (·.size)=some l.length) (fs:_) (hd:d=.struct fs) (h:wpQuiet prog ops C Q rest (a.put o.dst (.agg l.toArray))):wpQuiet prog ops C Q (o::rest) a:=by subst hd;unfold wpQuiet;rw[if_pos (by simp[Region.wanted,hgd])];refine⟨_,λw hw=>?_,h⟩;have:=run_loadAt_mid (P:=prog) w g 0 ty l _ (λj v hv=>by rw[Nat.zero_add,(hr w hw).cell];exact hv) hu rfl hi;unfold Oper.quietAt execOp;simp only[ho,hx,Sem.run_bind,this,Result.andThen_ok,Sem.run_pure,Oper.quietUpon];first|trivial|exact⟨trivial,trivial⟩|exact⟨rfl,rfl⟩|exact⟨rfl,hw⟩
def catchTx_idle(g h:Nat)(w:World):CallsD prog 55 #[.pointer (some ⟨g,0,none⟩),.pointer (some ⟨h,0,none⟩)] .returning w λe u' w'=>e=.returned (.tuple #[])/\u'=.returning/\w'=w:=by refine callsD_of_wpS func55 rfl λc₀ cs hu=>?_;simp only[ntmps55,List.size_toArray,List.length_cons,List.length_nil,Nat.reduceAdd,Nat.reduceSub,Array.replicate_succ,Array.replicate_zero,List.push_toArray,List.append_toArray,List.nil_append,List.cons_append];apply wpS_seq;apply wpS_region;simp[wpOpsS,go_sem,recoverD,hu,Exit.thenS];refine wpS_of_wp ?_;go_wp2_with fail;cases c₀;simp_all[bodyPostS,results,results55]
def catchTx_panicking(g h:Nat)(n m:Int)(l:List Value)(w:World)(hg:Row w g l)(hh:Row w h [.int .i64 m])(hl:l.length=33)(hne:g≠h):CallsD prog 55 #[.pointer (some ⟨g,0,none⟩),.pointer (some ⟨h,0,none⟩)] (.panicking (Fault n)) w λe u' w'=>e=.returned (.tuple #[])/\u'=.panicking [{v:=.iface 121 (.agg #[.int .i64 n]),recovered:=true}]/\Row w' g tx0/\Row w' h [.int .i64 n]/\Keep (λk=>k=g∨k=h) w w':=by
 refine callsD_of_wpS func55 rfl λc₀ cs hu=>?_;simp only[ntmps55,List.size_toArray,List.length_cons,List.length_nil,Nat.reduceAdd,Nat.reduceSub,Array.replicate_succ,Array.replicate_zero,List.push_toArray,List.append_toArray,List.nil_append,List.cons_append];apply wpS_seq;apply wpS_region;unfold Fault at hu;have hta:∀(w:World),(Instr.typeAssert (.iface 121 (.agg #[.int .i64 n])) 20 121 true).run prog w=.ok (.tuple #[.agg #[.int .i64 n],.bool true]) w:=λw=>by kernel_rfl
 simp[wpOpsS,go_sem,recoverD,hu,Exit.thenS];refine wpS_of_wp ?_;have hzg:=hg.lt;have hzh:=hh.lt;have r1:Row ((w.alloc (.cells #[.int .i64 n] 121)).alloc (.cells tx0.toArray 56)) w.heap.size [.int .i64 n]:=(Row.new w [.int .i64 n] 121).alloc _;have r2:Row ((w.alloc (.cells #[.int .i64 n] 121)).alloc (.cells tx0.toArray 56)) (w.heap.size+1) tx0:=by have:=Row.new (w.alloc (.cells #[.int .i64 n] 121)) tx0 56;rwa[World.size_alloc]at this
 have r3:Row ((w.alloc (.cells #[.int .i64 n] 121)).alloc (.cells tx0.toArray 56)) g l:=(hg.alloc _).alloc _;have r4:Row ((w.alloc (.cells #[.int .i64 n] 121)).alloc (.cells tx0.toArray 56)) h [.int .i64 m]:=(hh.alloc _).alloc _;have kk:Keep (λk=>k=g∨k=h) w ((w.alloc (.cells #[.int .i64 n] 121)).alloc (.cells tx0.toArray 56)):=((Keep.refl _ _).alloc _).alloc _;rw[Tryd.zeroTx]at r1 r2 r3 r4 kk;clear hg hh;go_wp2_with fail;generalize(w.alloc _).alloc _=w1 at r1 r2 r3 r4 kk|-;generalize w.heap.size=A at *;have hu:∀u:Reg.Of (λu=>Row u A [.int .i64 n]/\Row u (A+1) tx0),u.w.cell? ⟨A,0,none⟩=some (.int .i64 n):=λu=>u.h.1.cell 0;haveI hne':Nonempty (Reg.Of (λu=>Row u A [.int .i64 n]/\Row u (A+1) tx0)):=⟨⟨w1,r1,r2⟩⟩;refine Reg.startL [0,1,2] 2 mixed (by kernel_rfl) rfl rfl (λc a d v w h=>by cases d<;>exact h) (by as_aux_lemma=>kernel_rfl) rfl (λu=>Row u A [.int .i64 n]/\Row u (A+1) tx0) ⟨r1.drew,r2.drew⟩ ?_;show wpQuiet _ _ _ _ [_,_,_] _;refine wpQuiet_loadc (o:=⟨some 12,_,_,_,_,_⟩) rfl _ _ rfl (A+1) tx0 rfl (λw hw=>by obtain⟨u,rfl⟩:=hw;exact u.h.2) _ underlying56 (infoTx.trans (by rw[tx0_len])) _ rfl ?_;go_frame;repeat(go_big_quiet_step (fail))
 refine wpQuiet_nil ?_;have r1:=r1.drew;have r2:=r2.drew;have r3:=r3.drew;have r4:=r4.drew;have kk:=kk.drew;generalize w1.drew=w2 at r1 r2 r3 r4 kk|-;refine Reg.one 3 _ (by kernel_rfl) rfl rfl ?_;refine store_cells rfl _ _ _ rfl g l tx0 rfl rfl r3 (infoTx.trans (by rw[tx0_len])) (by rw[hl,tx0_len]) (by decide +kernel) ?_;have s1:=r1.setOther (g:=g) (by omega) tx0.toArray;have s2:=r2.setOther (g:=g) (by omega) tx0.toArray;have s3:=r3.setRow tx0;have s4:=r4.setOther (g:=g) (Ne.symm hne) tx0.toArray;have kk:=kk.setRow g tx0.toArray (.inl rfl);generalize w2.setRow g _=w3 at s1 s2 s3 s4 kk|-;refine⟨Reg.cls_mk ⟨s1,s2⟩,?_⟩;refine Reg.one 4 _ (by kernel_rfl) rfl rfl ?_;have hz:=s4.free 0;have hc:=s4.cell 0;try go_frame
 go_wp2_with fail;refine⟨Reg.cls_mk ⟨s1.other (show h≠A by omega) _,s2.other (show h≠A+1 by omega) _⟩,?_⟩
 refine wpAnyH_done (by kernel_rfl) ?_ 0;go_wp2_with fail;refine⟨rfl,_,rfl,.tuple #[],results_none rfl _ _ _,rfl,rfl,s3.other (Ne.symm hne) _,s4.set 0 _,kk.set _ _ (.inr rfl)⟩
def results_c2{fn:Func}{p u:Tmp}{ty:TypeId}(h:fn.results=#[.cell p ty,.cell u 27])(tmps:Array Value)(w:World)(g k:Nat)(l:List Value)(n:Int) (hp:tmps.getD p undef=.pointer (some ⟨g,0,none⟩)) (hu:tmps.getD u undef=.pointer (some ⟨k,0,none⟩)) (hr:Row w g l) (hk:Row w k [.int .i64 n]) (fs:_) (ht:prog.underlying ty=some (.struct fs)) (hi:(prog.info? ty).map (·.size)=some l.length):(results fn tmps).run prog w=.ok (.tuple #[.agg l.toArray,.int .i64 n]) w:=by
 have h2:(loadVar ty ⟨g,0,none⟩).run prog w=.ok (.agg l.toArray) w:=run_loadVar_mid w g 0 _ l _ (λj v hv=>by rw[Nat.zero_add,hr.cell];exact hv) ht rfl hi;have hc:w.cell? ⟨k,0,none⟩=some (.int .i64 n):=hk.cell 0;have hp':tmps[p]?.getD undef=.pointer (some ⟨g,0,none⟩):=by simpa using hp
 have hu':tmps[u]?.getD undef=.pointer (some ⟨k,0,none⟩):=by simpa using hu
 have h3:(loadVar 27 ⟨k,0,none⟩).run prog w=.ok (.int .i64 n) w:=by clear h2;simp[go_sem,hc]
 unfold results;rw[h];simp[asAddr,hp',hu',h2,h3]
def rdTx:Wr.R (List UInt8)->Value
 |.ok t _=>.tuple #[txV t,.int .i64 0]|.bad n=>.tuple #[.agg tx0.toArray,.int .i64 n]
def readTx_calls(l:List UInt8)(w:World)(hT:Tabs w)(hl:l.length<=9223372036854775807):Calls prog 30 #[.string (str l),.func (.func 31) #[] #[]] w λe w'=>e=.returned (rdTx (Wr.readTx l))/\Below w.heap.size w w':=by
 have hmf:=mk_fn;have h1w:=hT.lt;have HT:=Lib.hid hT;have EQ:=Lib.hid (show Wr.readTx l=(Wr.tx l).bind λa r=>if r=[]then .ok a r else .bad 5 from rfl);have r1:Row (((w.alloc (.cells tx0.toArray 56)).alloc (.cells #[.int .i64 0] 27)).alloc (.cells #[.string (str l)] 100)) w.heap.size tx0:=((Row.new w tx0 56).alloc _).alloc _;have r2:Row (((w.alloc (.cells tx0.toArray 56)).alloc (.cells #[.int .i64 0] 27)).alloc (.cells #[.string (str l)] 100)) (w.heap.size+1) [.int .i64 0]:=by have:=Row.new (w.alloc (.cells tx0.toArray 56)) [.int .i64 0] 27;rw[World.size_alloc]at this;exact this.alloc _
 have r3:Row (((w.alloc (.cells tx0.toArray 56)).alloc (.cells #[.int .i64 0] 27)).alloc (.cells #[.string (str l)] 100)) (w.heap.size+2) [.string (str l)]:=by have:=Row.new ((w.alloc (.cells tx0.toArray 56)).alloc (.cells #[.int .i64 0] 27)) [.string (str l)] 100;rw[World.size_alloc,World.size_alloc]at this;exact this
 have hB:Below w.heap.size w (((w.alloc (.cells tx0.toArray 56)).alloc (.cells #[.int .i64 0] 27)).alloc (.cells #[.string (str l)] 100)):=(((Below.refl _ _).alloc (Nat.le_refl _) _).alloc (by simp) _).alloc (by simp;omega) _;rw[Tryd.zeroTx]at r1 r2 r3 hB;clear hT;go_enter_defers func30,ntmps30;go_wp2_with fail;generalize((w.alloc _).alloc _).alloc _=w1 at r1 r2 r3 hB|-;have HB:=Lib.hid hB;have hz:=hB.size;have hz3:=r3.lt;have R1:=Lib.hid r1;have R2:=Lib.hid r2;have T1:=Lib.hid (tx_calls (w.heap.size+2) l w1 (HT.out.below hB h1w) (by omega) r3 hl)
 clear r1 r2 r3 hB;refine T1.out.mono ?_;clear T1;cases hx:Wr.tx l with
 |bad n=>rintro e w2⟨rfl,h⟩;rw[hx]at EQ;have H1:=h.row R1.out R1.out.lt (by omega);have H2:=h.row R2.out R2.out.lt (by omega);refine leaves_cons (f:=55) (args:=#[.pointer (some ⟨w.heap.size,0,none⟩),.pointer (some ⟨w.heap.size+1,0,none⟩)]) (by simp) (by simp[go_sem]) ?_;refine(catchTx_panicking w.heap.size (w.heap.size+1) n 0 tx0 w2 H1 H2 tx0_len (by omega)).mono ?_;rintro e u' w3⟨rfl,rfl,h5,h6,h7⟩;refine⟨_,results_c2 rfl _ _ w.heap.size (w.heap.size+1) tx0 n rfl rfl h5 h6 _ underlying56 (infoTx.trans (by rw[tx0_len])),?_,?_⟩;rw[show Wr.readTx l=.bad n from EQ.out];rfl;exact HB.out.trans ⟨h7.os.trans h.os,h7.tape.trans h.tape,h7.output.trans h.output,Nat.le_trans h.size h7.size,λk hk=>(h7.block k (by have:=h.size;omega) (by omega)).trans (h.block k (by omega) (by omega))⟩
 |ok t r=>
 rintro e w2⟨rfl,h3,h⟩;rw[hx]at EQ;have EQ2:=Lib.hid (show Wr.readTx l=if r=[]then .ok t r else .bad 5 from EQ.out);have H1:=h.row R1.out R1.out.lt (by omega);have H2:=h.row R2.out R2.out.lt (by omega);have hz2:=h.size;have B2:=Lib.hid (show Below w.heap.size w w2 from HB.out.trans ⟨h.os,h.tape,h.output,h.size,λk hk=>h.block k (by omega) (by omega)⟩);have S1:=Lib.hid (H1.setRow (txCells t));have S2:=Lib.hid (H2.setOther (g:=w.heap.size) (by omega) (txCells t).toArray);have S3:=Lib.hid (h3.setOther (g:=w.heap.size) (by omega) (txCells t).toArray);have B3:=Lib.hid (below_setRow B2.out (Nat.le_refl _) (txCells t).toArray);clear EQ h h3 H2 R1 R2 HB hx;go_wp2_with (with_reducible refine store_cells (o:=⟨none,_,_,_,_,_⟩) rfl _ _ _ rfl w.heap.size tx0 (txCells t) rfl rfl H1 (infoTx.trans (by rw[txCells_len])) (by rw[txCells_len,tx0_len]) (txCells_one t) ?_);clear H1;generalize w2.setRow _ _=w3 at S1 S2 S3 B3|-;refine(end_calls (w.heap.size+2) r w3 S3.out).mono ?_;by_cases hr:r=[]
 ·simp only[if_pos hr];rintro e w4⟨rfl,rfl⟩;have hro:=S1.out;have S4:=Lib.hid (S2.out.setOther (g:=w.heap.size) (by omega) (txCells t).toArray);have S5:=Lib.hid (S1.out.setRow (txCells t));have B5:=Lib.hid (below_setRow B3.out (Nat.le_refl _) (txCells t).toArray);have hz5:=S4.out.free 0;have hc5:=S4.out.cell 0;go_wp2_with (first|(refine load_cells (o:=⟨some 19,_,_,_,_,_⟩) rfl _ _ rfl w.heap.size (txCells t) rfl hro _ underlying56 (infoTx.trans (by rw[txCells_len])) _ rfl ?_)|(with_reducible refine store_cells (o:=⟨none,_,_,_,_,_⟩) rfl _ _ _ rfl w.heap.size (txCells t) (txCells t) rfl rfl hro (infoTx.trans (by rw[txCells_len])) rfl (txCells_one t) ?_));refine leaves_cons (f:=55) (args:=#[.pointer (some ⟨w.heap.size,0,none⟩),.pointer (some ⟨w.heap.size+1,0,none⟩)]) (by simp) (by simp[go_sem]) ?_;refine(catchTx_idle w.heap.size (w.heap.size+1) _).mono ?_;rintro e u' w5⟨rfl,rfl,rfl⟩;refine⟨_,results_c2 rfl _ _ w.heap.size (w.heap.size+1) (txCells t) 0 rfl rfl (S5.out.other (show w.heap.size+1≠w.heap.size by omega) _) (S4.out.set 0 _) _ underlying56 (infoTx.trans (by rw[txCells_len])),?_,?_⟩;rw[show Wr.readTx l=.ok t r from EQ2.out.trans (if_pos hr)];rfl;exact B5.out.setCell (show w.heap.size<=w.heap.size+1 by omega) _
 simp only[if_neg hr];rintro e w4⟨rfl,rfl⟩;refine leaves_cons (f:=55) (args:=#[.pointer (some ⟨w.heap.size,0,none⟩),.pointer (some ⟨w.heap.size+1,0,none⟩)]) (by simp) (by simp[go_sem]) ?_;refine(catchTx_panicking w.heap.size (w.heap.size+1) 5 0 (txCells t) w4 S1.out S2.out (txCells_len t) (by omega)).mono ?_;rintro e u' w5⟨rfl,rfl,h5,h6,h7⟩;refine⟨_,results_c2 rfl _ _ w.heap.size (w.heap.size+1) tx0 5 rfl rfl h5 h6 _ underlying56 (infoTx.trans (by rw[tx0_len])),?_,?_⟩;rw[show Wr.readTx l=.bad 5 from EQ2.out.trans (if_neg hr)];rfl;exact B3.out.trans ⟨h7.os,h7.tape,h7.output,h7.size,λk hk=>h7.block k (by have:=B3.out.size;omega) (by omega)⟩
def ta_fault(n:Int):∀(w:World),(Instr.typeAssert (.iface 121 (.agg #[.int .i64 n])) 20 121 true).run prog w=.ok (.tuple #[.agg #[.int .i64 n],.bool true]) w:=λw=>by kernel_rfl
def rdTx_form(x:Wr.R (List UInt8)):∃(cs:List Value)(n:Int),rdTx x=.tuple #[.agg cs.toArray,.int .i64 n]/\cs.length=33/\cs.all (·.oneCell')=true:=by cases x with|ok t r=>exact⟨txCells t,0,rfl,txCells_len t,txCells_one t⟩|bad n=>exact⟨tx0,n,rfl,tx0_len,by decide +kernel⟩
def results_c1{fn:Func}{p u:Tmp}{ty:TypeId}(h:fn.results=#[.cell p ty,.tmp u])(tmps:Array Value)(w:World)(g:Nat)(l:List Value)(v:Value) (hp:tmps.getD p undef=.pointer (some ⟨g,0,none⟩)) (hu:tmps.getD u undef=v) (hr:Row w g l) (fs:_) (ht:prog.underlying ty=some (.struct fs)) (hi:(prog.info? ty).map (·.size)=some l.length):(results fn tmps).run prog w=.ok (.tuple #[.agg l.toArray,v]) w:=by
 have h2:(loadVar ty ⟨g,0,none⟩).run prog w=.ok (.agg l.toArray) w:=run_loadVar_mid w g 0 _ l _ (λj v hv=>by rw[Nat.zero_add,hr.cell];exact hv) ht rfl hi;have hp':tmps[p]?.getD undef=.pointer (some ⟨g,0,none⟩):=by simpa using hp
 have hu':tmps[u]?.getD undef=v:=by simpa using hu
 unfold results;rw[h];simp[asAddr,hp',hu',h2]
def wreadTx_calls(l:List UInt8)(w:World)(hT:Tabs w)(hl:l.length<=9223372036854775807):Calls prog 17 #[.string (str l)] w λe w'=>e=.returned (rdTx (Wr.readTx l))/\Below w.heap.size w w':=by
 obtain⟨cs,n,hE,hcl,hc1⟩:=rdTx_form (Wr.readTx l);rw[hE];have h1w:=hT.lt;have r1:Row (w.alloc (.cells tx0.toArray 56)) w.heap.size tx0:=Row.new w tx0 56;have hB:Below w.heap.size w (w.alloc (.cells tx0.toArray 56)):=(Below.refl _ _).alloc (Nat.le_refl _) _;rw[Tryd.zeroTx]at r1 hB;go_enter func17,ntmps17;go_wp2_with fail;generalize w.alloc _=w1 at r1 hB|-;have HB:=Lib.hid hB;have R1:=Lib.hid r1;have hz:=r1.lt;have T1:=Lib.hid (readTx_calls l w1 (hT.below hB h1w) hl);rw[hE]at T1;clear hT hB r1 hE;refine T1.out.mono ?_;clear T1;rintro e w2⟨rfl,h2⟩;have H1:=R1.out.below h2 hz;have B2:=Lib.hid (HB.out.trans (h2.mono (by omega)))
 have S1:=Lib.hid (H1.setRow cs);have B3:=Lib.hid (below_setRow B2.out (Nat.le_refl _) cs.toArray);clear h2 R1 HB;go_wp2_with (with_reducible refine store_cells (o:=⟨none,_,_,_,_,_⟩) rfl _ _ _ rfl w.heap.size tx0 cs rfl rfl H1 (infoTx.trans (by rw[hcl])) (by rw[hcl,tx0_len]) hc1 ?_);exact bodyPost_ret (v:=.tuple #[.agg cs.toArray,.int .i64 n]) (results_c1 rfl _ _ w.heap.size cs (.int .i64 n) rfl rfl S1.out _ underlying56 (infoTx.trans (by rw[hcl]))) rfl ⟨rfl,B3.out⟩
def twice32(t:List UInt8):(Mk.twice t).length=32:=Sha.sum32 _
def txidV:Wr.R (List UInt8)->Value
 |.ok t _=>.tuple #[.string (str (Mk.twice t)),.int .i64 0]|.bad n=>.tuple #[.string (str []),.int .i64 n]
def txCells_bytes{w:World}{g:Nat}{t:List UInt8}(h:Row w g (txCells t)):Bytes w g 1 (Mk.twice t):=λj hj=>by rw[h.cell];unfold txCells;rw[Nat.add_comm,List.getElem?_cons_succ,w8_get _ _ hj]
def readTx_pos{l:List UInt8}{n:Nat}(h:Wr.readTx l=.bad n):n≠0:=by have:=Rf.fin_done (Rf.tx_ag l);rw[show Wr.fin (Wr.tx l)=.bad n from h]at this;exact this.2
def txid_calls(l:List UInt8)(w:World)(hT:Tabs w)(hl:l.length<=9223372036854775807):Calls prog 7 #[.string (str l)] w λe w'=>e=.returned (txidV (Wr.readTx l))/\Below w.heap.size w w':=by
 have h1w:=hT.lt;have T1:=Lib.hid (wreadTx_calls l w hT hl);clear hT;go_enter func7,ntmps7;go_wp2_with fail;refine T1.out.mono ?_;clear T1;cases hx:Wr.readTx l with
 |bad n=>
 rintro e w1⟨rfl,hb⟩;have hn:=readTx_pos hx;have p1:¬(n:Int)=0:=by omega
 have EQ:=Lib.hid hx;obtain⟨cs,hE,hcl,hc1⟩:∃cs:List Value,rdTx (.bad n)=.tuple #[.agg cs.toArray,.int .i64 n]/\cs.length=33/\cs.all (·.oneCell')=true:=⟨tx0,rfl,tx0_len,by decide +kernel⟩;rw[hE];have r1:Row (w1.alloc (.cells tx0.toArray 56)) w1.heap.size tx0:=Row.new w1 tx0 56;have hB:Below w1.heap.size w1 (w1.alloc (.cells tx0.toArray 56)):=(Below.refl _ _).alloc (Nat.le_refl _) _;have B1:=Lib.hid (hb.trans ((below_setRow hB (Nat.le_refl _) cs.toArray).mono hb.size));rw[Tryd.zeroTx]at r1 hB B1;have H1:=r1;clear hx hb r1 hB hn hE;go_wp2_with (with_reducible refine store_cells (o:=⟨none,_,_,_,_,_⟩) rfl _ _ _ rfl w1.heap.size tx0 cs rfl rfl H1 (infoTx.trans (by rw[hcl])) (by rw[hcl,tx0_len]) hc1 ?_);go_ret2;exact⟨by rw[EQ.out];rfl,B1.out⟩
 |ok t r=>rintro e w1⟨rfl,hb⟩;have EQ:=Lib.hid hx;dsimp only[rdTx];have r1:Row (w1.alloc (.cells tx0.toArray 56)) w1.heap.size tx0:=Row.new w1 tx0 56;have hB:Below w1.heap.size w1 (w1.alloc (.cells tx0.toArray 56)):=(Below.refl _ _).alloc (Nat.le_refl _) _;have B1:=Lib.hid (hb.trans ((below_setRow hB (Nat.le_refl _) (txCells t).toArray).mono hb.size));have H2:=txCells_bytes (r1.setRow (txCells t));rw[Tryd.zeroTx]at r1 hB B1 H2;have H1:=r1;clear hx hb r1 hB;go_wp2_with (first|(with_reducible refine store_cells (o:=⟨none,_,_,_,_,_⟩) rfl _ _ _ rfl w1.heap.size tx0 (txCells t) rfl rfl H1 (infoTx.trans (by rw[txCells_len])) (by rw[txCells_len,tx0_len]) (txCells_one t) ?_)|(with_reducible refine conv_arm (o:=⟨some 16,_,_,_,_,_⟩) rfl _ _ _ _ rfl w1.heap.size 1 32 32 (Mk.twice t) (twice32 t) rfl underlying52 underlying5 underlying9 H2 ?_));go_ret2;exact⟨by rw[EQ.out];rfl,B1.out⟩
def pr0:List Value:=[.string (str []),.slice none 0 0]
def pr(h:List UInt8)(v:Value):List Value:=[.string (str h),v]
def RPP{α:Type}(x:Wr.R α)(hd:α->List UInt8)(t:TypeId)(z:Nat)(n:α->Nat)(xs:α->List Value)(b:Nat)(w:World)(e:Ending)(w':World):Prop:=match x with
 |.ok a r=>∃v,e=.returned (.agg (pr (hd a) v).toArray)/\w'.ownsRow w.heap.size t z v (n a) (xs a)/\Row w' b [.string (str r)]/\But w.heap.size b w w'
 |.bad k=>e=.panicked (Fault (k:Int))/\But w.heap.size b w w'
def RPP.mkBad{α:Type}{x:Wr.R α}{hd:α->List UInt8}{t:TypeId}{z:Nat}{n:α->Nat}{xs:α->List Value}{b:Nat}{w w':World}{k:Nat}(hx:x=.bad k)(h2:But w.heap.size b w w'):RPP x hd t z n xs b w (.panicked (Fault (k:Int))) w':=by subst hx;exact⟨rfl,h2⟩
def RPP.mkOk{α:Type}{x:Wr.R α}{hd:α->List UInt8}{t:TypeId}{z:Nat}{n:α->Nat}{xs:α->List Value}{b:Nat}{w w':World}{a:α}{r:List UInt8}{v:Value}(hx:x=.ok a r)(h1:w'.ownsRow w.heap.size t z v (n a) (xs a))(h2:Row w' b [.string (str r)])(h3:But w.heap.size b w w'):RPP x hd t z n xs b w (.returned (.agg (pr (hd a) v).toArray)) w':=by subst hx;exact⟨v,rfl,h1,h2,h3⟩
def RDP{α:Type}(x:Wr.R α)(hd:α->List UInt8)(t:TypeId)(z:Nat)(n:α->Nat)(xs:α->List Value)(w:World)(e:Ending)(w':World):Prop:=match x with
 |.ok a _=>∃v,e=.returned (.tuple #[.agg (pr (hd a) v).toArray,.int .i64 0])/\w'.ownsRow w.heap.size t z v (n a) (xs a)/\Below w.heap.size w w'
 |.bad k=>e=.returned (.tuple #[.agg pr0.toArray,.int .i64 k])/\Below w.heap.size w w'
def RDP.mkBad{α:Type}{x:Wr.R α}{hd:α->List UInt8}{t:TypeId}{z:Nat}{n:α->Nat}{xs:α->List Value}{w w':World}{k:Nat}(hx:x=.bad k)(h2:Below w.heap.size w w'):RDP x hd t z n xs w (.returned (.tuple #[.agg pr0.toArray,.int .i64 k])) w':=by subst hx;exact⟨rfl,h2⟩
def RDP.mkOk{α:Type}{x:Wr.R α}{hd:α->List UInt8}{t:TypeId}{z:Nat}{n:α->Nat}{xs:α->List Value}{w w':World}{a:α}{r:List UInt8}{v:Value}(hx:x=.ok a r)(h1:w'.ownsRow w.heap.size t z v (n a) (xs a))(h3:Below w.heap.size w w'):RDP x hd t z n xs w (.returned (.tuple #[.agg (pr (hd a) v).toArray,.int .i64 0])) w':=by subst hx;exact⟨v,rfl,h1,h3⟩
structure PI(w:World)(b:Nat)(n:Nat)(lk:List UInt8)(wk:World):Prop where
 cur:Row wk b [.string (str lk)]
 own:Row wk w.heap.size pr0
 but:But w.heap.size b w wk
 le:lk.length<=n
def PI.step{w:World}{b n:Nat}{lk lk':List UInt8}{wk wk':World}(h:PI w b n lk wk)(hb:b<w.heap.size)(h1:Row wk' b [.string (str lk')])(h2:But wk.heap.size b wk wk')(hl:lk'.length<=lk.length):PI w b n lk' wk':=⟨h1,h2.row h.own h.own.lt (by omega),h.but.trans (h2.mono h.but.size),Nat.le_trans hl h.le⟩
def PI.bad{w:World}{b n:Nat}{lk:List UInt8}{wk wk':World}(h:PI w b n lk wk)(h2:But wk.heap.size b wk wk'):But w.heap.size b w wk':=h.but.trans (h2.mono h.but.size)
def own_slice{w:World}{B n:Nat}{e:TypeId}{z:Nat}{v:Value}{xs:List Value}(h:w.ownsRow B e z v n xs):∃a c,v=.slice a n c:=by rcases h.2 with⟨rfl,rfl⟩|⟨g,cap,cur,rfl,_⟩;exact⟨none,0,rfl⟩;exact⟨_,cap,rfl⟩
namespace Wr
def rplR(l:List UInt8):R (List UInt8×List (List UInt8)):=(take 32 l).bind λh r=>(upTo 1 16 r).bind λn r=>(txs n r).map λts=>(h,ts)
end Wr
def info_Block:(prog.info? 105).map (·.size)=some 2:=by kernel_rfl
def pr_one{v:Value}(h:List UInt8)(hv:v.oneCell'=true):(pr h v).all (·.oneCell')=true:=by unfold pr;rw[List.all_cons,List.all_cons,hv];rfl
def make2(w:World):(Instr.makeSlice 52 (.int .i64 (2:Nat)) (.int .i64 (2:Nat))).run prog w=.ok (.slice (some ⟨w.heap.size,0,none⟩) 2 2) (w.alloc (.cells (w8 (List.replicate 2 0)).toArray 5)):=by kernel_rfl
def make4(w:World):(Instr.makeSlice 52 (.int .i64 (4:Nat)) (.int .i64 (4:Nat))).run prog w=.ok (.slice (some ⟨w.heap.size,0,none⟩) 4 4) (w.alloc (.cells (w8 (List.replicate 4 0)).toArray 5)):=by kernel_rfl
def make8(w:World):(Instr.makeSlice 52 (.int .i64 (8:Nat)) (.int .i64 (8:Nat))).run prog w=.ok (.slice (some ⟨w.heap.size,0,none⟩) 8 8) (w.alloc (.cells (w8 (List.replicate 8 0)).toArray 5)):=by kernel_rfl
def low_byte(x:UInt64)(i:Nat):U (shr x (8*i)) % 256=Y (UInt8.ofNat (x.toNat/256^i % 256)):=by
 have h:(shr x (8*i)).toNat=x.toNat/2^ (8*i):=by unfold shr;rw[UInt64.toNat_ofNat'];have:=x.toNat_lt;exact Nat.mod_eq_of_lt (Nat.lt_of_le_of_lt (Nat.div_le_self _ _) this)
 unfold U Y;rw[UInt8.toNat_ofNat',h,show 2^ (8*i)=256^i from Nat.pow_mul 2 8 i];omega
def low_byte'(x:UInt64)(i:Nat):(shr x (8*i)).toUInt8=UInt8.ofNat (x.toNat/256^i % 256):=by apply Y_inj;rw[<-low_byte];unfold U Y;rw[UInt64.toNat_toUInt8];omega
def low_ext(L:List UInt8)(n k:Nat)(hl:L.length=k)(h:∀j,j<k->nth L j=nth (Wr.low n k) j):L=Wr.low n k:=by apply List.ext_getElem?;intro j;by_cases hj:j<k;have:=h j hj;unfold nth at this;rw[List.getD_eq_getElem?_getD,List.getD_eq_getElem?_getD,List.getElem?_eq_getElem (by omega),List.getElem?_eq_getElem (by rw[Wr.low_length];exact hj)]at this;rw[List.getElem?_eq_getElem (by omega),List.getElem?_eq_getElem (by rw[Wr.low_length];exact hj)];exact congrArg some this;rw[List.getElem?_eq_none (by omega),List.getElem?_eq_none (by rw[Wr.low_length];omega)]
def nth_set(L:List UInt8)(i j:Nat)(y:UInt8)(hi:i<L.length):nth (L.set i y) j=if i=j then y else nth L j:=by unfold nth;rw[List.getD_eq_getElem?_getD,List.getElem?_set];split;rename_i h;subst h;simp;rw[List.getD_eq_getElem?_getD]
def low_calls(x:UInt64)(k:Nat)(w:World)(hk:k<=8)(hk1:0<k)(hmk:∀w:World,(Instr.makeSlice 52 (.int .i64 k) (.int .i64 k)).run prog w=.ok (.slice (some ⟨w.heap.size,0,none⟩) k k) (w.alloc (.cells (w8 (List.replicate k 0)).toArray 5))):Calls prog 77 #[.int .u64 (U x),.int .i64 k] w λe w'=>e=.returned (.string (str (Wr.low x.toNat k)))/\Below w.heap.size w w':=by
 have hR:Row (w.alloc (.cells (w8 (List.replicate k 0)).toArray 5)) w.heap.size (w8 (List.replicate k 0)):=Row.new w _ _;have hB:Below w.heap.size w (w.alloc (.cells (w8 (List.replicate k 0)).toArray 5)):=(Below.refl _ _).alloc (Nat.le_refl _) _;go_enter func77,ntmps77;go_wp2_with fail;generalize w.alloc _=w1 at hR hB|-;have H1:=Lib.hid hR;have H2:=Lib.hid hB;clear hR hB hmk;go_loopw [6,11] (λjv iv wr=>∃(i:Nat)(L:List UInt8),i<=k/\iv=.int .i64 i/\L.length=k/\Row wr w.heap.size (w8 L)/\Below w.heap.size w wr/\∀j,j<i->nth L j=nth (Wr.low x.toNat k) j) (λ_ iv _=>k-(intOf iv).toNat)
 exact⟨0,List.replicate k 0,by omega,rfl,by simp,H1.out,H2.out,λj hj=>by omega⟩;clear H1 H2;obtain⟨i,L,hi,rfl,hL,hR,hB,hj⟩:=hrel;by_cases hlt:i<k
 ·have p1:(i:Int)< (k:Int):=by omega
  have h8:0<=8*(i:Int):=by omega
  have e1:=low_byte' x i;have e2:=Wr.low_get x.toNat k i hlt;have hc0:=hR.cell i;rw[w8_get L i (by omega)]at hc0;have hz:=hR.free i;obtain⟨y,hy⟩:∃y,(shr x (8*i)).toUInt8=y:=⟨_,rfl⟩;rw[hy]at e1;rw[<-e1]at e2;have S1:=Lib.hid (show Row (wr.setCell ⟨w.heap.size,i,none⟩ (.int .u8 (Y y))) w.heap.size (w8 (L.set i y))from by rw[<-w8_set];exact hR.set i _);have S2:=Lib.hid (show Below w.heap.size w (wr.setCell ⟨w.heap.size,i,none⟩ (.int .u8 (Y y)))from hB.setCell (Nat.le_refl _) _);have S3:=Lib.hid (show∀j,j<i+1->nth (L.set i y) j=nth (Wr.low x.toNat k) j from λj hj'=>by rw[nth_set L i j y (by omega)];split;rename_i h;subst h;rw[e2];exact hj j (by omega));subst hy;clear hR hB hj e2 e1;go_wp2_with fail;go_roundw
  ·exact⟨i+1,L.set i _,by omega,by go_num,by rw[List.length_set];exact hL,S1.out,S2.out,S3.out⟩
  simp[intOf];omega
 obtain rfl:i=k:=by omega
 have hbt:=hR.bytes;have e:=low_ext L x.toNat i hL hj;subst e;go_wp2_with (with_reducible refine conv_arm (o:=⟨some 24,_,_,_,_,_⟩) rfl _ _ _ _ rfl w.heap.size 0 i i (Wr.low x.toNat i) (Wr.low_length _ _) rfl underlying52 underlying5 underlying9 hbt ?_);go_ret;exact⟨rfl,hB⟩
def size_ofNat(n:Nat)(h:n<18446744073709551616):U (UInt64.ofNat n)=(n:Int)/\(UInt64.ofNat n).toNat=n:=by
 have:(UInt64.ofNat n).toNat=n:=by rw[UInt64.toNat_ofNat'];exact Nat.mod_eq_of_lt h
 exact⟨by unfold U;rw[this],this⟩
def psize_calls(n:Nat)(w:World)(hn:n<18446744073709551616):Calls prog 53 #[.int .u64 n] w λe w'=>e=.returned (.string (str (Wr.sizeB n)))/\Below w.heap.size w w':=by
 obtain⟨hU,hN⟩:=size_ofNat n hn;have L2:=low_calls (UInt64.ofNat n) 2 w (by omega) (by omega) make2;have L4:=low_calls (UInt64.ofNat n) 4 w (by omega) (by omega) make4;have L8:=low_calls (UInt64.ofNat n) 8 w (by omega) (by omega) make8;rw[hU,hN]at L2 L4 L8;have H2:=Lib.hid L2;have H4:=Lib.hid L4;have H8:=Lib.hid L8;clear L2 L4 L8 hU hN;unfold Wr.sizeB;by_cases h1:n<253
 ·rw[if_pos h1];have p1:(n:Int)<253:=by omega
  have e1:(n:Int) % 256=Y (UInt8.ofNat n):=by unfold Y;rw[UInt8.toNat_ofNat'];omega
  have e2:IntKind.u8.wrap (n:Int)=Y (UInt8.ofNat n):=by rw[<-e1];simp[IntKind.wrap,IntKind.bits,IntKind.signed]
  go_enter func53,ntmps53;go_wp2_with fail;go_ret;exact⟨rfl,(Below.refl _ _).alloc (Nat.le_refl _) _⟩
 rw[if_neg h1];have p1:¬(n:Int)<253:=by omega
 by_cases h2:n<65536
 ·rw[if_pos h2];have p2:(n:Int)<65536:=by omega
  go_enter func53,ntmps53;go_wp2_with fail;refine H2.out.mono ?_;rintro e w1⟨rfl,hb⟩;have hl:=Wr.low_length n 2;go_wp2_with fail;go_ret;exact⟨rfl,hb⟩
 rw[if_neg h2];have p2:¬(n:Int)<65536:=by omega
 by_cases h3:n<4294967296
 ·rw[if_pos h3];have p3:(n:Int)<4294967296:=by omega
  go_enter func53,ntmps53;go_wp2_with fail;refine H4.out.mono ?_;rintro e w1⟨rfl,hb⟩;have hl:=Wr.low_length n 4;go_wp2_with fail;go_ret;exact⟨rfl,hb⟩
 rw[if_neg h3];have p3:¬(n:Int)<4294967296:=by omega
 go_enter func53,ntmps53;go_wp2_with fail;refine H8.out.mono ?_;rintro e w1⟨rfl,hb⟩;have hl:=Wr.low_length n 8;go_wp2_with fail;go_ret;exact⟨rfl,hb⟩
def name_calls(l:List UInt8)(w:World)(hT:Tabs w)(hm:l.length<=35184372088832):Calls prog 20 #[.string (str l)] w λe w'=>e=.returned (.string (str (Mk.twice l)))/\Below w.heap.size w w':=by
 have h1:=hT.lt;have hc:=Row.new w [.string (str l)] 9;have hB:Below w.heap.size w (w.alloc (.cells #[.string (str l)] 9)):=(Below.refl _ _).alloc (Nat.le_refl _) _;have T1:=Lib.hid (htwice_one w.heap.size 1 l _ (hT.below hB h1) (hc.cell 0) hm);have HB:=Lib.hid hB;clear hT hc hB;go_enter func20,ntmps20;go_wp2_with fail;refine T1.out.mono ?_;rintro e w2⟨rfl,hb2⟩;have hz2:=hb2.size;rw[World.size_alloc]at hz2;have B2:=Lib.hid (HB.out.trans (hb2.mono (by rw[World.size_alloc];omega)))
 have hR3:Row (w2.alloc (.cells (w8 (List.replicate 32 0)).toArray 54)) w2.heap.size (w8 (List.replicate 32 0)):=Row.new w2 _ _;have hB3:=below_setRow ((Below.refl w2.heap.size w2).alloc (Nat.le_refl _) (.cells (w8 (List.replicate 32 0)).toArray 54)) (Nat.le_refl _) (w8 (Mk.twice l)).toArray;have hR4:=hR3.setRow (w8 (Mk.twice l));rw[Tryd.zeroDg]at hR3 hB3 hR4;have B3:=Lib.hid hB3;clear hb2 T1 hB3;go_wp2_with (first|(with_reducible refine store_dg (o:=⟨none,_,_,_,_,_⟩) rfl _ _ rfl w2.heap.size (List.replicate 32 0) (Mk.twice l) rfl (twice32 l) rfl rfl hR3 ?_)|(with_reducible refine conv_arm (o:=⟨some 8,_,_,_,_,_⟩) rfl _ _ _ _ rfl w2.heap.size 0 32 32 (Mk.twice l) (twice32 l) rfl underlying52 underlying5 underlying9 hR4.bytes ?_));go_ret;exact⟨rfl,B2.out.trans (B3.out.mono (by omega))⟩
def own_cells{w:World}{B n:Nat}{e:TypeId}{z:Nat}{v:Value}{xs:List Value}(h:w.ownsRow B e z v n xs)(hn:0<n):∃g cap,v=.slice (some ⟨g,0,none⟩) n cap/\B<=g/\g<w.heap.size/\∀k,k<n*z->w.cell? ⟨g,k,none⟩=xs[k]?:=by obtain⟨_,⟨_,h0⟩|⟨g,cap,cur,rfl,hb,hg,_,_,_,ht⟩⟩:=h;omega;refine⟨g,cap,rfl,hb,(Array.getElem?_eq_some_iff.1 hg).1,λk hk=>?_⟩;rw[<-ht,List.getElem?_take_of_lt hk];simp[World.cell?,hg]
theorem txsCells_get:∀(ts:List (List UInt8))(i j:Nat),i<ts.length->j<33->(txsCells ts)[33*i+j]? =(txCells (ts.getD i []))[j]?
 |[],i,j,hi,_=>by simp at hi|t::ts,0,j,_,hj=>by have:=txCells_len t;show(txCells t++txsCells ts)[33*0+j]? =_;rw[List.getElem?_append_left (by omega)];simp|t::ts,i+1,j,hi,hj=>by have:=txCells_len t;show(txCells t++txsCells ts)[33*(i+1)+j]? =_;rw[List.getElem?_append_right (by omega),show 33*(i+1)+j-(txCells t).length=33*i+j by omega,txsCells_get ts i j (by simpa using hi) hj];rfl
def TxsAt(w:World)(g:Nat)(ts:List (List UInt8)):Prop:=∀i,i<ts.length->w.rangeAt g (33*i) (txCells (ts.getD i []))
def own_txs{w:World}{B:Nat}{v:Value}{ts:List (List UInt8)}(h:w.ownsRow B 56 33 v ts.length (txsCells ts))(hn:0<ts.length):∃g cap,v=.slice (some ⟨g,0,none⟩) ts.length cap/\B<=g/\g<w.heap.size/\TxsAt w g ts:=by
 obtain⟨g,cap,rfl,hb,hg,hc⟩:=own_cells h hn;refine⟨g,cap,rfl,hb,hg,λi hi j u hu=>?_⟩;have hj:j<33:=by have:=(List.getElem?_eq_some_iff.1 hu).1;rwa[txCells_len]at this
 rw[hc _ (by omega),txsCells_get ts i j hi hj];exact hu
def TxsAt.below{B g:Nat}{ts:List (List UInt8)}{w w':World}(h:TxsAt w g ts)(hb:Below B w w')(hB:g<B):TxsAt w' g ts:=λi hi=>rangeAt_of_block (h i hi) (hb.block g hB)
def load_txat{ops:Array Oper}{rest:List Oper}{o:Oper}{a:Act}{w:World}{Q:Exit->Act->World->Prop}(hgd:o.guard=none)(x:Operand)(ho:o.op=.load 56 x) (g off:Nat) (t:List UInt8) (hx:a.eval x=.pointer (some ⟨g,off,none⟩)) (hr:w.rangeAt g off (txCells t)) (h:wpList prog ops Q rest (a.put o.dst (txV t)) w):wpList prog ops Q (o::rest) a w:=wpList_load_mid hgd _ x ho g off hx (txCells t) _ hr underlying56 rfl (by rw[infoTx,txCells_len]) h
def Mk.joined(ts:List (List UInt8)):List UInt8:=Wr.sizeB ts.length++ts.flatten
theorem flat_short:∀(ts:List (List UInt8)),(∀t∈ts,t.length<=610)->ts.flatten.length<=610*ts.length
 |[],_=>Nat.le_refl _|t::ts,h=>by have h1:=h t List.mem_cons_self;have h2:=flat_short ts λx hx=>h x (List.mem_cons_of_mem _ hx);rw[List.flatten_cons,List.length_append,List.length_cons];omega
def sizeB_short(n:Nat):(Wr.sizeB n).length<=9:=by unfold Wr.sizeB;split;simp;split;simp[Wr.low_length];split;simp[Wr.low_length];simp[Wr.low_length]
def take_flat(ts:List (List UInt8))(i:Nat)(h:i<ts.length):(ts.take (i+1)).flatten=(ts.take i).flatten++ts.getD i []:=by rw[List.take_succ_eq_append_getElem h,List.flatten_append,List.getD_eq_getElem?_getD,List.getElem?_eq_getElem h];simp
def join_calls(v:Value)(ts:List (List UInt8))(B:Nat)(w:World)(ho:w.ownsRow B 56 33 v ts.length (txsCells ts))(hs:∀t∈ts,t.length<=610)(hn:ts.length<=1000):Calls prog 71 #[v] w λe w'=>e=.returned (.string (str (Mk.joined ts)))/\Below w.heap.size w w':=by
 obtain⟨ad,cap,hv⟩:=own_slice ho;have H0:=Lib.hid ho;have HS:=Lib.hid hs;have q1:IntKind.u64.wrap (ts.length:Int)=ts.length:=by rw[u64_wrap,U_nat];omega
 have T1:=Lib.hid (psize_calls ts.length w (by omega));have hl:=sizeB_short ts.length;have HJ:=Lib.hid (show Mk.joined ts=Wr.sizeB ts.length++ts.flatten from rfl);generalize Wr.sizeB ts.length=sz at T1 hl HJ;rw[hv];clear ho hs;go_enter func71,ntmps71;go_wp2_with fail;refine T1.out.mono ?_;rintro e w1⟨rfl,hb1⟩;have B1:=Lib.hid hb1;clear hb1 T1;go_wp2_with fail;go_loopw [3,12] (λsv iv wr=>∃(i:Nat)(s:List UInt8),i<=ts.length/\iv=.int .i64 i/\sv=.string (str s)/\s.length<=9+610*i/\s=sz++(ts.take i).flatten/\Below w.heap.size w wr) (λ_ iv _=>ts.length-(intOf iv).toNat)
 exact⟨0,sz,by omega,rfl,rfl,by omega,by simp,B1.out⟩;obtain⟨i,s,hi,rfl,rfl,hsl,hse,hB⟩:=hrel;have HE:=Lib.hid hse;have HB:=Lib.hid hB;have hzr:=hB.size;clear hse hB;by_cases hlt:i<ts.length
 ·have p1:(i:Int)< (ts.length:Int):=by omega
  obtain⟨g,cap',hv',_,hg,hat⟩:=own_txs H0.out (by omega);rw[hv]at hv';cases hv';have ht:(ts.getD i []).length<=610:=HS.out _ (by rw[List.getD_eq_getElem?_getD,List.getElem?_eq_getElem hlt];exact List.getElem_mem hlt);have HT:=Lib.hid (take_flat ts i hlt);have hra:=(hat.below HB.out hg) i hlt;obtain⟨t,het⟩:∃t,ts.getD i []=t:=⟨_,rfl⟩;rw[het]at ht HT hra;rw[Nat.mul_comm]at hra;have r1:Row (wr.alloc (.cells tx0.toArray 56)) wr.heap.size tx0:=Row.new wr tx0 56;have hB1:Below w.heap.size w (wr.alloc (.cells tx0.toArray 56)):=HB.out.alloc hzr _;have hc:=(r1.setRow (txCells t)).cell 0;rw[show(txCells t)[0]? =some (.string (str t))from rfl]at hc;have B2:=Lib.hid (below_setRow hB1 hzr (txCells t).toArray);rw[Tryd.zeroTx]at r1 hc B2;clear hat het hB1;go_wp2_with (first|(refine load_txat (o:=⟨some 15,_,_,_,_,_⟩) rfl _ rfl g (i*33) t rfl hra ?_)|(with_reducible refine store_cells (o:=⟨none,_,_,_,_,_⟩) rfl _ _ _ rfl wr.heap.size tx0 (txCells t) rfl rfl r1 (infoTx.trans (by rw[txCells_len])) (by rw[txCells_len,tx0_len]) (txCells_one t) ?_));go_roundw
  ·exact⟨i+1,s++t,by omega,by go_num,rfl,by rw[List.length_append];omega,by rw[HE.out,HT.out,List.append_assoc],B2.out⟩
  simp[intOf];omega
 obtain rfl:i=ts.length:=by omega
 go_wp2_with fail;go_ret;exact⟨by rw[HJ.out,HE.out,List.take_of_length_le (Nat.le_refl _)];rfl,HB.out⟩
end
section
open Nums
namespace Rf
open Wr (R)
def blk(k:Nat)(l:List UInt8):(List UInt8×List (List UInt8))×St:=
 let p:=take k (l,0);let q:=within 1 16 p.2;let r:=txs q.1 q.2
 ((p.1,r.1),r.2)
end Rf
end
section
open Go.RowKit Nums
namespace Wr
def take_len{n:Nat}{l t r:List UInt8}(h:take n l=.ok t r):t.length=n:=by unfold take at h;by_cases c:l.length<n;rw[if_pos c]at h;cases h;rw[if_neg c]at h;cases h;rw[List.length_take];omega
def fin_inv{α:Type}{x:R α}{a:α}{r:List UInt8}(h:fin x=.ok a r):x=.ok a r:=by
 unfold fin at h;cases x with
 |bad e=>cases h
 |ok b s=>have h':(if s=[]then(.ok b s:R α)else .bad 5)=.ok a r:=h;by_cases hs:s=[];rw[if_pos hs]at h';exact h';rw[if_neg hs]at h';cases h'
end Wr
def Row.of_block{w w':World}{b:Nat}{l:List Value}(h:Row w b l)(e:w'.heap[b]? =w.heap[b]?):Row w' b l:=by obtain⟨T,h⟩:=h;exact⟨T,by rw[e];exact h⟩
end
section
open Nums
namespace Wr
def body_min{l:List UInt8}{u:Unit}{r:List UInt8}(h:body l=.ok u r):r.length+4<=l.length:=by
 unfold body at h;cases h1:take 4 l with
 |bad e=>rw[h1]at h;cases h
 |ok a s=>
 rw[h1,R.bind_ok]at h;have hs:s.length+4=l.length:=by unfold take at h1;split at h1;cases h1;cases h1;rw[List.length_drop];omega
 have ht:Tail s ((upTo 1 4 s).bind λn r=>(rep inp n r).bind λ_ r=>(upTo 1 4 r).bind λn r=>(rep outp n r).bind λ_ r=>(take 4 r).void):=(upTo_tail _ _ s).bind λn r _=>(rep_tail inp_tail n r).bind λ_ r _=>(upTo_tail _ _ r).bind λn r _=>(rep_tail outp_tail n r).bind λ_ r _=>(take_tail 4 r).void;have:=ht.le h;omega
def tx_inv{l t r:List UInt8}(h:tx l=.ok t r):t≠ []/\t.length<=610:=by
 unfold tx at h;cases hb:body l with
 |bad e=>rw[hb]at h;cases h
 |ok u s=>rw[hb,R.bind_ok]at h;cases h;have h1:=body_min hb;have h2:=body_eats l u _ hb;refine⟨λe=>?_,?_⟩;have:=congrArg List.length e;rw[List.length_take]at this;simp at this;omega;rw[List.length_take];omega
theorem txs_inv:∀(n:Nat)(l:List UInt8)(ts:List (List UInt8))(r:List UInt8),txs n l=.ok ts r->ts.length=n/\∀t∈ts,t≠ []/\t.length<=610
 |0,l,ts,r,h=>by cases h;exact⟨rfl,λt ht=>by cases ht⟩
 |n+1,l,ts,r,h=>by
  rw[txs]at h;cases hx:tx l with
  |bad e=>rw[hx]at h;cases h
  |ok t s=>
  rw[hx,R.bind_ok]at h;cases hy:txs n s with
  |bad e=>rw[hy]at h;cases h
  |ok us q=>rw[hy]at h;cases h;obtain⟨h1,h2⟩:=txs_inv n s us _ hy;exact⟨by rw[List.length_cons,h1],λx hx'=>by rcases List.mem_cons.1 hx' with rfl|hx';exact tx_inv hx;exact h2 x hx'⟩
def index_inv{next bound:Nat}{l:List UInt8}{i:Nat}{r:List UInt8}(h:index next bound l=.ok i r):next<=i/\i<bound:=by
 unfold index at h;cases hx:size l with
 |bad e=>rw[hx]at h;cases h
 |ok d s=>rw[hx,R.bind_ok]at h;split at h;cases h;cases h;omega
theorem pairs_inv(bound:Nat):∀(n next:Nat)(l:List UInt8)(ps:List (Nat×List UInt8))(r:List UInt8),pairs bound n next l=.ok ps r->ps.length=n/\(ps.map (·.1)).Pairwise (· < ·)/\(∀p∈ps,next<=p.1/\p.1<bound)/\∀p∈ps,p.2≠ []/\p.2.length<=610
 |0,next,l,ps,r,h=>by cases h;exact⟨rfl,List.Pairwise.nil,(λp hp=>by cases hp),λp hp=>by cases hp⟩
 |n+1,next,l,ps,r,h=>by
  rw[pairs]at h;cases hx:index next bound l with
  |bad e=>rw[hx]at h;cases h
  |ok i s=>
  rw[hx,R.bind_ok]at h;cases hy:tx s with
  |bad e=>rw[hy]at h;cases h
  |ok t s2=>
  rw[hy,R.bind_ok]at h;cases hz:pairs bound n (i+1) s2 with
  |bad e=>rw[hz]at h;cases h
  |ok qs s3=>rw[hz]at h;cases h;obtain⟨h1,h2,h3,h4⟩:=pairs_inv bound n (i+1) s2 qs _ hz;have hi:=index_inv hx;refine⟨by rw[List.length_cons,h1],?_,?_,?_⟩;rw[List.map_cons,List.pairwise_cons];refine⟨λy hy'=>?_,h2⟩;obtain⟨p,hp,rfl⟩:=List.mem_map.1 hy';have:=(h3 p hp).1;dsimp only;omega;intro p hp;rcases List.mem_cons.1 hp with rfl|hp;exact hi;have:=h3 p hp;omega;intro p hp;rcases List.mem_cons.1 hp with rfl|hp;exact tx_inv hy;exact h4 p hp
theorem takes_inv(k:Nat):∀(n:Nat)(l:List UInt8)(ss:List (List UInt8))(r:List UInt8),takes k n l=.ok ss r->ss.length=n/\∀s∈ss,s.length=k
 |0,l,ss,r,h=>by cases h;exact⟨rfl,λs hs=>by cases hs⟩
 |n+1,l,ss,r,h=>by
  rw[takes]at h;cases hx:take k l with
  |bad e=>rw[hx]at h;cases h
  |ok t s=>
  rw[hx,R.bind_ok]at h;cases hy:takes k n s with
  |bad e=>rw[hy]at h;cases h
  |ok us q=>rw[hy]at h;cases h;obtain⟨h1,h2⟩:=takes_inv k n s us _ hy;exact⟨by rw[List.length_cons,h1],λx hx'=>by rcases List.mem_cons.1 hx' with rfl|hx';exact Rf.take_len hx;exact h2 x hx'⟩
structure CbOK(c:Cb):Prop where
 head:c.header.length=80
 nonce:c.nonce.length=8
 pos:0<c.shorts.length+c.sent.length
 le:c.shorts.length+c.sent.length<=16
 sent:Cp.SentOK (c.shorts.length+c.sent.length) c.sent
 six:∀s∈c.shorts,s.length=6
def cpt_inv{l:List UInt8}{c:Cb}{r:List UInt8}(h:readCompact l=.ok c r):CbOK c:=by
 have h:=fin_inv h;cases h1:take 80 l with
 |bad e=>rw[h1]at h;cases h
 |ok hd s1=>
 rw[h1,R.bind_ok]at h;cases h2:take 8 s1 with
 |bad e=>rw[h2]at h;cases h
 |ok nn s2=>
 rw[h2,R.bind_ok]at h;cases h3:upTo 0 16 s2 with
 |bad e=>rw[h3]at h;cases h
 |ok n s3=>
 rw[h3,R.bind_ok]at h;cases h4:takes 6 n s3 with
 |bad e=>rw[h4]at h;cases h
 |ok ss s4=>
 rw[h4,R.bind_ok]at h;cases h5:upTo 0 (16-ss.length) s4 with
 |bad e=>rw[h5]at h;cases h
 |ok m s5=>
 rw[h5,R.bind_ok]at h;split at h;cases h;rename_i hz;cases h6:pairs (m+ss.length) m 0 s5 with
 |bad e=>rw[h6]at h;cases h
 |ok ps s6=>rw[h6]at h;cases h;obtain⟨e1,e2,e3,e4⟩:=pairs_inv _ _ _ _ _ _ h6;obtain⟨e5,e6⟩:=takes_inv _ _ _ _ _ h4;have l3:=upTo_le h3;have l5:=upTo_le h5;refine⟨Rf.take_len h1,Rf.take_len h2,by dsimp only;omega,by dsimp only;omega,⟨e2,λp hp=>?_,e4⟩,e6⟩;have:=(e3 p hp).2;dsimp only;omega
def rpl_inv{l:List UInt8}{a:List UInt8×List (List UInt8)}{r:List UInt8}(h:readReply l=.ok a r):a.1.length=32/\1<=a.2.length/\a.2.length<=16/\∀t∈a.2,t≠ []/\t.length<=610:=by
 have h:=fin_inv h;cases h1:take 32 l with
 |bad e=>rw[h1]at h;cases h
 |ok t s=>
 rw[h1,R.bind_ok]at h;cases h2:upTo 1 16 s with
 |bad e=>rw[h2]at h;cases h
 |ok n s2=>
 rw[h2,R.bind_ok]at h;cases h3:txs n s2 with
 |bad e=>rw[h3]at h;cases h
 |ok ts s3=>rw[h3]at h;cases h;obtain⟨h4,h5⟩:=txs_inv n s2 ts _ h3;have:=upTo_le h2;exact⟨Rf.take_len h1,by dsimp only;omega,by dsimp only;omega,h5⟩
end Wr
namespace Sd
open Wr
def Loc{α:Type}(p:List UInt8->R α):Prop:=∀l a r,p l=.ok a r->∃u,l=u++r/\∀x,p (u++x)=.ok a x
def bind_inv{α β:Type}{x:R α}{f:α->List UInt8->R β}{b:β}{s:List UInt8}(h:x.bind f=.ok b s):∃a r,x=.ok a r/\f a r=.ok b s:=by
 cases x with
 |bad e=>cases h
 |ok a r=>exact⟨a,r,rfl,h⟩
def Loc.pure{α:Type}(a:α):Loc λl=>R.ok a l:=λl b r h=>by cases h;exact⟨[],rfl,λx=>rfl⟩
theorem Loc.bad{α:Type}(e:Nat):Loc (α:=α) λ_=>R.bad e:=λl b r h=>by cases h
def Loc.bind{α β:Type}{p:List UInt8->R α}{f:α->List UInt8->R β}(hp:Loc p)(hf:∀a,Loc (f a)):Loc λl=>(p l).bind f:=λl b s h=>by obtain⟨a,r,h1,h2⟩:=bind_inv h;obtain⟨u,rfl,hu⟩:=hp l a r h1;obtain⟨v,rfl,hv⟩:=hf a r b s h2;refine⟨u++v,by rw[List.append_assoc],λx=>?_⟩;rw[List.append_assoc];show(p (u++(v++x))).bind f=_;rw[hu,R.bind_ok,hv]
def Loc.void{α:Type}{p:List UInt8->R α}(hp:Loc p):Loc λl=>(p l).void:=λl b s h=>by
 have h:(p l).void=.ok b s:=h;cases hx:p l with
 |bad e=>rw[hx]at h;cases h
 |ok a r=>rw[hx]at h;cases h;obtain⟨u,e,hu⟩:=hp _ _ _ hx;exact⟨u,e,λx=>by show(p (u++x)).void=_;rw[hu];rfl⟩
def Loc.map{α β:Type}{p:List UInt8->R α}(f:α->β)(hp:Loc p):Loc λl=>(p l).map f:=by have:(λl=>(p l).map f)=λl=>(p l).bind λa r=>.ok (f a) r:=funext λl=>R.map_bind _ _;rw[this];exact hp.bind λa=>Loc.pure _
def Loc.ite{α:Type}{c:Prop}[Decidable c]{p q:List UInt8->R α}(hp:Loc p)(hq:Loc q):Loc λl=>if c then p l else q l:=by by_cases hc:c;simpa only[hc,if_true]using hp;simpa only[hc,if_false]using hq
def take_loc(n:Nat):Loc (take n):=λl a r h=>by
 unfold take at h;split at h;cases h;rename_i hl;cases h;refine⟨l.take n,(List.take_append_drop n l).symm,λx=>?_⟩;have e:(l.take n).length=n:=by rw[List.length_take];omega
 unfold take;rw[if_neg (by rw[List.length_append,e];omega),List.take_left' e,List.drop_left' e]
def size_loc:Loc size:=(take_loc 1).bind λt=>Loc.ite (Loc.pure _) ((take_loc _).bind λu=>Loc.ite (Loc.bad _) (Loc.pure _))
def upTo_loc(lo hi:Nat):Loc (upTo lo hi):=size_loc.bind λx=>Loc.ite (Loc.bad _) (Loc.pure _)
def script_loc:Loc script:=(upTo_loc 0 40).bind λn=>(take_loc n).void
def inp_loc:Loc inp:=(take_loc 36).bind λ_=>script_loc.bind λ_=>(take_loc 4).void
def outp_loc:Loc outp:=(take_loc 8).bind λ_=>script_loc
theorem rep_loc{p:List UInt8->R Unit}(hp:Loc p):∀n,Loc (rep p n)
 |0=>Loc.pure ()|n+1=>hp.bind λ_=>rep_loc hp n
def body_loc:Loc body:=(take_loc 4).bind λ_=>(upTo_loc 1 4).bind λn=>(rep_loc inp_loc n).bind λ_=>(upTo_loc 1 4).bind λn=>(rep_loc outp_loc n).bind λ_=>(take_loc 4).void
def tx_inv{l t r:List UInt8}(h:tx l=.ok t r):l=t++r/\∀x,tx (t++x)=.ok t x:=by
 obtain⟨u,s,h1,h2⟩:=bind_inv h;cases h2;obtain⟨v,e,hv⟩:=body_loc l u _ h1;have ev:l.take (l.length-r.length)=v:=by subst e;rw[List.length_append,Nat.add_sub_cancel];exact List.take_left' rfl
 rw[ev];refine⟨e,λx=>?_⟩;unfold tx;rw[hv,R.bind_ok,List.length_append,Nat.add_sub_cancel];congr 1;exact List.take_left' rfl
def Tx(t:List UInt8):Prop:=tx t=.ok t []
def Tx.app{t:List UInt8}(h:Tx t)(x:List UInt8):tx (t++x)=.ok t x:=(tx_inv h).2 x
def Tx.of{l t r:List UInt8}(h:tx l=.ok t r):Tx t:=by have:=(tx_inv h).2 [];rwa[List.append_nil]at this
def Tx.read{t:List UInt8}(h:Tx t):readTx t=.ok t []:=by unfold readTx fin;rw[show tx t=.ok t []from h];rfl
def Tx.of_read{t a r:List UInt8}(h:readTx t=.ok a r):Tx a/\a=t:=by obtain⟨b,s,h1,h2⟩:=bind_inv h;split at h2;rename_i hs;cases h2;subst hs;obtain⟨e,_⟩:=tx_inv h1;rw[List.append_nil]at e;exact⟨Tx.of h1,e.symm⟩;cases h2
theorem txs_all:∀(n:Nat)(l:List UInt8)(ts:List (List UInt8))(r:List UInt8),txs n l=.ok ts r->∀t∈ts,Tx t
 |0,l,ts,r,h=>by cases h;exact λt ht=>by cases ht
 |n+1,l,ts,r,h=>by
  obtain⟨t,s,h1,h2⟩:=bind_inv h;cases hy:txs n s with
  |bad e=>rw[hy]at h2;cases h2
  |ok us q=>rw[hy]at h2;cases h2;intro x hx;rcases List.mem_cons.1 hx with rfl|hx;exact Tx.of h1;exact txs_all n s us _ hy x hx
theorem pairs_all(bound:Nat):∀(n next:Nat)(l:List UInt8)(ps:List (Nat×List UInt8))(r:List UInt8),pairs bound n next l=.ok ps r->∀p∈ps,Tx p.2
 |0,next,l,ps,r,h=>by cases h;exact λp hp=>by cases hp
 |n+1,next,l,ps,r,h=>by
  obtain⟨i,s,_,h2⟩:=bind_inv h;obtain⟨t,s2,h3,h4⟩:=bind_inv h2;cases hz:pairs bound n (i+1) s2 with
  |bad e=>rw[hz]at h4;cases h4
  |ok qs s3=>rw[hz]at h4;cases h4;intro p hp;rcases List.mem_cons.1 hp with rfl|hp;exact Tx.of h3;exact pairs_all bound n (i+1) s2 qs _ hz p hp
def upTo_small{lo hi:Nat}(hh:hi<253){l:List UInt8}{m:Nat}{r:List UInt8}(h:upTo lo hi l=.ok m r):0<l.length/\m=(nth l 0).toNat/\lo<=m/\m<=hi/\r=l.drop 1:=by
 obtain⟨x,s,h1,h2⟩:=bind_inv h;split at h2;cases h2;rename_i hx;cases h2;obtain⟨t,s,h3,h4⟩:=bind_inv h1;unfold take at h3;split at h3;cases h3;rename_i hl;cases h3;have h0:0<l.length:=by omega
 have e0:nth (l.take 1) 0=nth l 0:=by cases l with|nil=>simp at h0|cons y l=>rfl
 rw[e0]at h4;split at h4;cases h4;exact⟨h0,rfl,by omega,by omega,rfl⟩;rename_i hb;exfalso;obtain⟨u,s,h5,h6⟩:=bind_inv h4;split at h6;cases h6;rename_i hq;cases h6;have:253<=least (nth l 0):=by unfold least;split<;>(try split)<;>omega
 omega
def take_drop{n:Nat}{l a r:List UInt8}(h:take n l=.ok a r):n<=l.length/\r=l.drop n:=by unfold take at h;split at h;cases h;cases h;exact⟨by omega,rfl⟩
def nth_drop(l:List UInt8)(n i:Nat):nth (l.drop n) i=nth l (n+i):=by unfold nth;simp
def script_drop{l:List UInt8}{u:Unit}{r:List UInt8}(h:script l=.ok u r):1+(nth l 0).toNat<=l.length/\(nth l 0).toNat<=40/\r=l.drop (1+(nth l 0).toNat):=by
 obtain⟨n,s,h1,h2⟩:=bind_inv h;obtain⟨g0,rfl,_,g3,rfl⟩:=upTo_small (by omega) h1;cases hx:take (nth l 0).toNat (l.drop 1)with
 |bad e=>rw[hx]at h2;cases h2
 |ok a q=>rw[hx]at h2;cases h2;obtain⟨k1,k2⟩:=take_drop hx;rw[List.length_drop]at k1;exact⟨by omega,g3,by rw[k2,List.drop_drop]⟩
def inp_drop{l:List UInt8}{u:Unit}{r:List UInt8}(h:inp l=.ok u r):36+1+(nth l 36).toNat+4<=l.length/\(nth l 36).toNat<=40/\r=l.drop (36+1+(nth l 36).toNat+4):=by
 obtain⟨a,s,h1,h2⟩:=bind_inv h;obtain⟨v,s2,h3,h4⟩:=bind_inv h2;obtain⟨g1,rfl⟩:=take_drop h1;obtain⟨k1,k2,rfl⟩:=script_drop h3;rw[nth_drop,List.length_drop]at k1;rw[nth_drop]at k2;cases hx:take 4 ((l.drop 36).drop (1+(nth (l.drop 36) 0).toNat))with
 |bad e=>rw[hx]at h4;cases h4
 |ok a q=>rw[hx]at h4;cases h4;obtain⟨k3,k4⟩:=take_drop hx;rw[nth_drop,List.length_drop,List.length_drop]at k3;rw[nth_drop,List.drop_drop,List.drop_drop]at k4;simp only[Nat.add_zero]at k1 k2 k3 k4;exact⟨by omega,k2,by rw[k4];congr 1;omega⟩
def outp_drop{l:List UInt8}{u:Unit}{r:List UInt8}(h:outp l=.ok u r):8+1+(nth l 8).toNat<=l.length/\(nth l 8).toNat<=40/\r=l.drop (8+1+(nth l 8).toNat):=by obtain⟨a,s,h1,h2⟩:=bind_inv h;obtain⟨g1,rfl⟩:=take_drop h1;obtain⟨k1,k2,rfl⟩:=script_drop h2;rw[nth_drop,List.length_drop]at k1;rw[nth_drop]at k2;simp only[Nat.add_zero]at k1 k2;exact⟨by omega,k2,by rw[nth_drop,List.drop_drop];simp only[Nat.add_zero];congr 1;omega⟩
def body_parts{l:List UInt8}{u:Unit}{r:List UInt8}(h:body l=.ok u r):4<l.length/\∃r2 r3,1<=(nth l 4).toNat/\(nth l 4).toNat<=4/\rep inp (nth l 4).toNat (l.drop 5)=.ok () r2/\0<r2.length/\1<=(nth r2 0).toNat/\(nth r2 0).toNat<=4/\rep outp (nth r2 0).toNat (r2.drop 1)=.ok () r3/\4<=r3.length/\r=r3.drop 4:=by
 obtain⟨a,s,h1,h2⟩:=bind_inv h;obtain⟨g1,rfl⟩:=take_drop h1;obtain⟨n,s,h3,h4⟩:=bind_inv h2;obtain⟨k0,rfl,k1,k2,rfl⟩:=upTo_small (by omega) h3;obtain⟨_,r2,h5,h6⟩:=bind_inv h4;obtain⟨m,s,h7,h8⟩:=bind_inv h6;obtain⟨m0,rfl,m1,m2,rfl⟩:=upTo_small (by omega) h7;obtain⟨_,r3,h9,h10⟩:=bind_inv h8;cases hx:take 4 r3 with
 |bad e=>rw[hx]at h10;cases h10
 |ok a q=>rw[hx]at h10;cases h10;obtain⟨k3,k4⟩:=take_drop hx;rw[nth_drop]at k1 k2 h5;rw[List.length_drop]at k0;rw[List.drop_drop]at h5;exact⟨by omega,r2,r3,k1,k2,h5,m0,m1,m2,h9,k3,k4⟩
end Sd
namespace Sd
open Wr Cp
def Tx.ne{t:List UInt8}(h:Tx t):t≠ []:=(Wr.tx_inv h).1
def Tx.len{t:List UInt8}(h:Tx t):t.length<=610:=(Wr.tx_inv h).2
structure Blk(b:List UInt8)(h:List UInt8)(ts:List (List UInt8)):Prop where
 head:h.length=80
 pos:0<ts.length
 le:ts.length<=16
 all:∀t∈ts,Tx t
 bytes:b=h++(sizeB ts.length++ts.flatten)
 root:(Mk.root (ts.map Mk.twice) false).1=(h.drop 36).take 32
 twins:(Mk.root (ts.map Mk.twice) false).2=false
def finish_blk{h:List UInt8}{ts:List (List UInt8)}(hh:h.length=80)(h0:0<ts.length)(h1:ts.length<=16)(ha:∀t∈ts,Tx t)(hd:(finish h ts).1=2):Blk (finish h ts).2 h ts:=by
 unfold finish at hd|-;by_cases hc:(Mk.root (ts.map Mk.twice) false).2=true∨(Mk.root (ts.map Mk.twice) false).1≠(h.drop 36).take 32;rw[if_pos hc]at hd;cases hd;rw[if_neg hc];have e1:(Mk.root (ts.map Mk.twice) false).2=false:=by cases hb:(Mk.root (ts.map Mk.twice) false).2 with|false=>rfl|true=>exact absurd (.inl hb) hc
 have e2:(Mk.root (ts.map Mk.twice) false).1=(h.drop 36).take 32:=Classical.byContradiction λe=>hc (.inr e);exact⟨hh,h0,h1,ha,rfl,e2,e1⟩
def Held(s:RS):Prop:=∀t∈s.txs,t≠ []->Tx t
def held_idle:Held idle:=λt ht=>by cases ht
theorem fill_tx{f:List UInt8->List UInt8}{P:List (List UInt8)}{sent:List (Nat×List UInt8)}(hP:∀t∈P,Tx t)(hs:∀p∈sent,Tx p.2):∀(n i:Nat)(ss:List (List UInt8)),∀t∈(fill f P sent n i ss).1,t≠ []->Tx t
 |0,_,_=>λt ht=>by cases ht
 |n+1,i,ss=>by rw[fill];split;rename_i t hx;intro u hu hn;rcases List.mem_cons.1 hu with rfl|hu;exact hs _ (lookup_mem hx);exact fill_tx hP hs n (i+1) ss u hu hn;split;rename_i t ht;intro u hu hn;rcases List.mem_cons.1 hu with rfl|hu;exact hP _ (hits_one ht);exact fill_tx hP hs n (i+1) ss.tail u hu hn;intro u hu hn;rcases List.mem_cons.1 hu with rfl|hu;exact absurd rfl hn;exact fill_tx hP hs n (i+1) ss.tail u hu hn
def cpt_all{l:List UInt8}{c:Cb}{r:List UInt8}(h:readCompact l=.ok c r):∀p∈c.sent,Tx p.2:=by
 have h:=fin_inv h;obtain⟨hd,s1,_,h⟩:=bind_inv h;obtain⟨nn,s2,_,h⟩:=bind_inv h;obtain⟨n,s3,_,h⟩:=bind_inv h;obtain⟨ss,s4,_,h⟩:=bind_inv h;obtain⟨m,s5,_,h⟩:=bind_inv h;split at h;cases h;cases h6:pairs (m+ss.length) m 0 s5 with
 |bad e=>rw[h6]at h;cases h
 |ok ps s6=>rw[h6]at h;cases h;exact pairs_all _ _ _ _ _ _ h6
def rpl_all{l:List UInt8}{a:List UInt8×List (List UInt8)}{r:List UInt8}(h:readReply l=.ok a r):∀t∈a.2,Tx t:=by
 have h:=fin_inv h;obtain⟨t,s,_,h⟩:=bind_inv h;obtain⟨n,s2,_,h⟩:=bind_inv h;cases h3:txs n s2 with
 |bad e=>rw[h3]at h;cases h
 |ok ts s3=>rw[h3]at h;cases h;exact txs_all _ _ _ _ h3
def compact_sound{P:List (List UInt8)}(hP:∀t∈P,Tx t)(l:List UInt8):Held (compact P l).2.2/\((compact P l).1.1=2->(compact P l).2.1=0->∃h ts,Blk (compact P l).1.2 h ts):=by unfold compact;cases hx:readCompact l with|bad e=>exact⟨held_idle,λh=>by cases h⟩|ok c r=>dsimp only;have hc:=cpt_inv hx;have ht:=fill_tx (f:=En.short c.header c.nonce) hP (cpt_all hx) (c.shorts.length+c.sent.length) 0 c.shorts;have hok:=fill_ok (f:=En.short c.header c.nonce) (P:=P) hc.sent (λt h=>⟨(hP t h).ne,(hP t h).len⟩) (c.shorts.length+c.sent.length) 0 c.shorts;have hl:=fill_length (En.short c.header c.nonce) P c.sent (c.shorts.length+c.sent.length) 0 c.shorts;generalize fill (En.short c.header c.nonce) P c.sent (c.shorts.length+c.sent.length) 0 c.shorts=q at ht hok hl|-;split;exact⟨held_idle,λh=>by cases h⟩;split;rename_i hq;refine⟨held_idle,λhd _=>⟨c.header,q.1,finish_blk hc.head (by have:=hc.pos;omega) (by have:=hc.le;omega) (λt h=>?_) hd⟩⟩;refine ht t h λe=>?_;obtain⟨j,hj,he⟩:=List.mem_iff_getElem.1 h;have:=hok.2.1 j (by omega) (by rw[List.getD_eq_getElem?_getD,List.getElem?_eq_getElem hj];simpa[e]using he);rw[hq]at this;cases this;exact⟨ht,λh=>by cases h⟩
theorem put_mem:∀(is:List Nat)(us ts:List (List UInt8)),∀t∈put ts is us,t∈ts∨t∈us
 |[],us,ts=>λt h=>.inl (by cases us<;>exact h)|_::_,[],ts=>λt h=>.inl h|i::is,u::us,ts=>λt h=>by rcases put_mem is us (ts.set i u) t h with h|h;rcases List.mem_or_eq_of_mem_set h with h|h;exact .inl h;exact .inr (h▸List.mem_cons_self);exact .inr (List.mem_cons_of_mem _ h)
def reply_sound{s:RS}(hs:Cp.Held s)(ht:Held s)(l:List UInt8):Held (reply s l).2.2/\((reply s l).1.1=2->(reply s l).2.1=0->∃h ts,Blk (reply s l).1.2 h ts):=by
 unfold reply;cases hx:readReply l with
 |bad e=>exact⟨ht,λh=>by cases h⟩|ok a r=>
 obtain⟨n,ts⟩:=a;dsimp only;by_cases h0:s.missing=[];rw[if_pos h0];exact⟨ht,λh=>by cases h⟩;rw[if_neg h0];by_cases h1:n≠Mk.twice s.header;rw[if_pos h1];exact⟨ht,λh=>by cases h⟩;rw[if_neg h1];by_cases h2:ts.length≠s.missing.length;rw[if_pos h2];exact⟨ht,λh=>by cases h⟩;rw[if_neg h2];have hw:Wait s:=by rcases hs with rfl|hw;exact absurd rfl h0;exact hw
 have hts:∀t∈ts,Tx t:=rpl_all hx;refine⟨held_idle,λhd _=>⟨s.header,put s.txs s.missing ts,finish_blk hw.head (by rw[put_length];exact hw.pos) (by rw[put_length];exact hw.le) (λt h=>?_) hd⟩⟩;have hf:=full_put s.missing ts s.txs (by omega) (λu hu=>⟨(hts u hu).ne,(hts u hu).len⟩) hw.short (λi hi=>hw.lt hi) hw.asked t h;rcases put_mem _ _ _ t h with h|h;exact ht t h hf.1;exact hts t h
end Sd
namespace Sd
open Wr
def sd:Nat->List UInt8->R Unit
 |0=>inp|_=>outp
def fore(s:Nat):Nat:=36-28*s
def aft(s:Nat):Nat:=4-4*s
def At(b rest:List UInt8):Nat->Nat->Prop
 |0,q=>q<b.length/\(nth b q).toNat<=4/\∃r2 r3,rep inp (nth b q).toNat (b.drop (q+1))=.ok () r2/\0<r2.length/\(nth r2 0).toNat<=4/\rep outp (nth r2 0).toNat (r2.drop 1)=.ok () r3/\4<=r3.length/\rest=r3.drop 4|1,q=>q<b.length/\(nth b q).toNat<=4/\∃r3,rep outp (nth b q).toNat (b.drop (q+1))=.ok () r3/\4<=r3.length/\rest=r3.drop 4|_,q=>4<=(b.drop q).length/\rest=(b.drop q).drop 4
def at_start{b t rest:List UInt8}{p:Nat}(h:Tx t)(hb:b.drop p=t++rest):At b rest 0 (p+4):=by obtain⟨u,s,h1,h2⟩:=bind_inv (h.app rest);injection h2 with _ e2;subst e2;rw[<-hb]at h1;obtain⟨h4,r2,r3,k1,k2,k3,k4,k5,k6,k7,k8,k9⟩:=body_parts h1;rw[nth_drop]at k2 k3;rw[List.drop_drop]at k3;rw[List.length_drop]at h4;exact⟨by omega,k2,r2,r3,k3,k4,k6,k7,k8,k9⟩
def at_in{b rest:List UInt8}{s q:Nat}(hs:s<2)(h:At b rest s q):q<b.length/\(nth b q).toNat<=4/\∃r,rep (sd s) (nth b q).toNat (b.drop (q+1))=.ok () r/\∀q',b.drop q'=r->At b rest (s+1) q':=by
 match s,hs with
 |0,_=>
  obtain⟨h1,h2,r2,r3,h3,h4,h5,h6,h7,h8⟩:=h;refine⟨h1,h2,r2,h3,λq' e=>?_⟩
  subst e;rw[List.length_drop]at h4;rw[nth_drop,Nat.add_zero]at h5;rw[nth_drop,Nat.add_zero,List.drop_drop]at h6;exact⟨by omega,h5,r3,h6,h7,h8⟩
 |1,_=>
  obtain⟨h1,h2,r3,h6,h7,h8⟩:=h;refine⟨h1,h2,r3,h6,λq' e=>?_⟩
  subst e;exact⟨h7,h8⟩
def at_step{b r:List UInt8}{s q m:Nat}(hs:s<2)(h:rep (sd s) (m+1) (b.drop q)=.ok () r):q+fore s<b.length/\(nth b (q+fore s)).toNat<=40/\q+fore s+(1+(nth b (q+fore s)).toNat+aft s)<=b.length/\rep (sd s) m (b.drop (q+fore s+(1+(nth b (q+fore s)).toNat+aft s)))=.ok () r:=by
 obtain⟨u,r',h1,h2⟩:=bind_inv h;match s,hs with
 |0,_=>
  obtain⟨k1,k2,k3⟩:=inp_drop h1;subst k3;rw[nth_drop,List.length_drop]at k1;rw[nth_drop]at k2;rw[nth_drop,List.drop_drop]at h2;refine⟨by show q+36<_;omega,k2,by show q+36+(1+(nth b (q+36)).toNat+4)<=_;omega,?_⟩
  rw[show q+fore 0+(1+(nth b (q+fore 0)).toNat+aft 0)=q+(36+1+(nth b (q+36)).toNat+4)by show q+36+(1+(nth b (q+36)).toNat+4)=_;omega]
  exact h2
 |1,_=>
  obtain⟨k1,k2,k3⟩:=outp_drop h1;subst k3;rw[nth_drop,List.length_drop]at k1;rw[nth_drop]at k2;rw[nth_drop,List.drop_drop]at h2;refine⟨by show q+8<_;omega,k2,by show q+8+(1+(nth b (q+8)).toNat+0)<=_;omega,?_⟩
  rw[show q+fore 1+(1+(nth b (q+fore 1)).toNat+aft 1)=q+(8+1+(nth b (q+8)).toNat)by show q+8+(1+(nth b (q+8)).toNat+0)=_;omega]
  exact h2
def rep_zero{p:List UInt8->R Unit}{l r:List UInt8}(h:rep p 0 l=.ok () r):l=r:=by cases h;rfl
def at_end{b rest:List UInt8}{q:Nat}(h:At b rest 2 q):q+4<=b.length/\b.drop (q+4)=rest:=by obtain⟨h1,h2⟩:=h;rw[List.length_drop]at h1;rw[List.drop_drop]at h2;exact⟨by omega,h2.symm⟩
def at_piece{b t rest:List UInt8}{p q:Nat}(hb:b.drop p=t++rest)(hp:p<=q)(hq:q<=b.length)(he:b.drop q=rest):(b.drop p).take (q-p)=t:=by have hl:=congrArg List.length hb;have hr:=congrArg List.length he;rw[List.length_append,List.length_drop]at hl;rw[List.length_drop]at hr;rw[hb,List.take_left' (by omega)]
def Blk.nth80{b h:List UInt8}{ts:List (List UInt8)}(hb:Blk b h ts):81<=b.length/\(nth b 80).toNat=ts.length:=by
 have e:sizeB ts.length=[UInt8.ofNat ts.length]:=by unfold sizeB;rw[if_pos (by have:=hb.le;omega)]
 have hh:=hb.head;have hl:=hb.le;rw[hb.bytes,e];refine⟨by simp;omega,?_⟩;unfold nth;rw[List.getD_eq_getElem?_getD,List.getElem?_append_right (by omega),hh];simp;omega
def Blk.drop{b h:List UInt8}{ts:List (List UInt8)}(hb:Blk b h ts){i:Nat}(hi:i<=ts.length):b.drop (81+(ts.take i).flatten.length)=(ts.drop i).flatten:=by
 have e:sizeB ts.length=[UInt8.ofNat ts.length]:=by unfold sizeB;rw[if_pos (by have:=hb.le;omega)]
 have hh:=hb.head;have e2:ts.flatten=(ts.take i).flatten++(ts.drop i).flatten:=by rw[<-List.flatten_append,List.take_append_drop]
 rw[hb.bytes,e,e2,<-List.append_assoc,<-List.append_assoc];exact List.drop_left' (by simp;omega)
def Blk.one{b h:List UInt8}{ts:List (List UInt8)}(hb:Blk b h ts){i:Nat}(hi:i<ts.length):Tx (ts.getD i [])/\b.drop (81+(ts.take i).flatten.length)=ts.getD i []++(ts.drop (i+1)).flatten/\(ts.take (i+1)).flatten.length=(ts.take i).flatten.length+(ts.getD i []).length:=by
 have e:ts.getD i []=ts[i]:=by rw[List.getD_eq_getElem?_getD,List.getElem?_eq_getElem hi];rfl
 refine⟨by rw[e];exact hb.all _ (List.getElem_mem hi),?_,?_⟩;rw[hb.drop (by omega),e,List.drop_eq_getElem_cons hi,List.flatten_cons];rw[e,List.take_succ_eq_append_getElem hi,List.flatten_append,List.length_append];simp
def Blk.len{b h:List UInt8}{ts:List (List UInt8)}(hb:Blk b h ts):b.length=81+ts.flatten.length:=by have:=congrArg List.length (hb.drop (Nat.zero_le _));rw[List.length_drop]at this;have:=hb.nth80.1;simp at *;omega
end Sd
end
section
namespace Pl
abbrev B:=List UInt8
def lt_irr(a:B):¬a<a:=List.lt_irrefl a
def lt_tr{a b c:B}(h:a<b)(k:b<c):a<c:=List.lt_trans h k
def lt_tri(a b:B):a<b∨a=b∨b<a:=by by_cases h:a<b;exact .inl h;by_cases k:b<a;exact .inr (.inr k);exact .inr (.inl (List.le_antisymm (List.not_lt.1 k) (List.not_lt.1 h)))
variable(key:B->B)
def at'(id:B):List B->Nat×Bool
 |[]=>(0,false)|x::l=>if key x<id then((at' id l).1+1,(at' id l).2)else(0,key x==id)
def Up(l:List B):Prop:=l.Pairwise λx y=>key x<key y
def ins(t:B)(l:List B):List B:=l.take (at' key (key t) l).1++[t]++l.drop (at' key (key t) l).1
theorem at_mem(id:B):∀l,Up key l->((at' key id l).2=true↔ ∃t∈l,key t=id)
 |[],_=>by simp[at']|x::l,h=>by obtain⟨h1,h2⟩:=List.pairwise_cons.1 h;rw[at'];by_cases hx:key x<id;rw[if_pos hx];dsimp only;rw[at_mem id l h2];constructor;rintro⟨t,ht,e⟩;exact⟨t,List.mem_cons_of_mem _ ht,e⟩;rintro⟨t,ht,e⟩;rcases List.mem_cons.1 ht with rfl|ht;rw[e]at hx;exact absurd hx (lt_irr _);exact⟨t,ht,e⟩;rw[if_neg hx];dsimp only;rw[beq_iff_eq];constructor;intro e;exact⟨x,List.mem_cons_self,e⟩;rintro⟨t,ht,e⟩;rcases List.mem_cons.1 ht with rfl|ht;exact e;exact absurd (e▸h1 t ht) hx
def ins_nil(t:B):ins key t []=[t]:=rfl
def ins_cons(t x:B)(l:List B):ins key t (x::l)=if key x<key t then x::ins key t l else t::x::l:=by unfold ins;rw[at'];split;simp;simp
theorem mem_ins(t:B):∀(l:List B)(x:B),x∈ins key t l↔x=t∨x∈l
 |[],x=>by simp[ins_nil]|y::l,x=>by rw[ins_cons];split;rw[List.mem_cons,mem_ins t l,List.mem_cons];constructor;rintro(h|h|h);exact .inr (.inl h);exact .inl h;exact .inr (.inr h);rintro(h|h|h);exact .inr (.inl h);exact .inl h;exact .inr (.inr h);rw[List.mem_cons]
theorem ins_len(t:B):∀l,(ins key t l).length=l.length+1
 |[]=>rfl|x::l=>by rw[ins_cons];split;simp[ins_len t l];simp
theorem ins_up(t:B):∀l,Up key l->(at' key (key t) l).2=false->Up key (ins key t l)
 |[],_,_=>by rw[ins_nil];exact List.pairwise_singleton _ _|x::l,h,hn=>by
  obtain⟨h1,h2⟩:=List.pairwise_cons.1 h;rw[ins_cons];rw[at']at hn;by_cases hx:key x<key t;rw[if_pos hx]at hn|-;refine List.pairwise_cons.2 ⟨λy hy=>?_,ins_up t l h2 hn⟩;rcases(mem_ins key t l y).1 hy with rfl|hy;exact hx;exact h1 y hy;rw[if_neg hx]at hn|-;have hne:key x≠key t:=by simpa using hn
  have hlt:key t<key x:=by rcases lt_tri (key x) (key t)with h|h|h;exact absurd h hx;exact absurd h hne;exact h
  refine List.pairwise_cons.2 ⟨λy hy=>?_,h⟩;rcases List.mem_cons.1 hy with rfl|hy;exact hlt;exact lt_tr hlt (h1 y hy)
end Pl
end
section
open Nums
open Go.RowKit
namespace Mp
abbrev B:=List UInt8
def eqB:List Value->List UInt8->Bool
 |[],[]=>true|.int .u8 x::l,y::m=>decide (x=Y y)&&eqB l m|_,_=>false
theorem eqB_self:∀m:List UInt8,eqB (w8 m) m=true
 |[]=>rfl|y::m=>by show(decide (Y y=Y y)&&eqB (w8 m) m)=true;rw[eqB_self m];simp
theorem eqB_eq:∀(l:List Value)(m:List UInt8),eqB l m=true->l=w8 m
 |[],[],_=>rfl|[],_::_,h=>by simp[eqB]at h|v::l,[],h=>by cases v<;>simp[eqB]at h
 |v::l,y::m,h=>by
  cases v<;>try(simp[eqB]at h;done)
  rename_i k x;cases k<;>try(simp[eqB]at h;done)
  simp only[eqB,Bool.and_eq_true,decide_eq_true_eq]at h;obtain⟨rfl,h2⟩:=h;rw[eqB_eq l m h2];rfl
def txR(v:Value):Option (DataW Unit×List MemPlace):=match v with
 |.agg a=>match a.toList with
  |.string s::l=>if eqB l (Mk.twice s.data.toList)then some (.lit (.string s.data.toList),[])else if s.data.toList.isEmpty&&eqB l (List.replicate 32 0)then some (.nil,[])else none
  |_=>none
 |_=>none
def str_list(t:B):(str t).data.toList=t:=by unfold str;simp
def txR_tx(t:B):txR (txV t)=some (.lit (.string t),[]):=by unfold txR txV txCells;simp only[str_list,eqB_self,if_true]
def str_of_list(s:ByteArray):str s.data.toList=s:=by unfold str;simp
def txR_inv{v:Value}{z:DataW Unit×List MemPlace}(h:txR v=some z):(∃t,v=txV t/\z=(.lit (.string t),[]))∨(v=.agg tx0.toArray/\z=(.nil,[])):=by
 unfold txR at h;cases v with
 |agg a=>
 dsimp only at h;split at h;rename_i s l hl;split at h;rename_i he;left;refine⟨s.data.toList,?_,(Option.some.inj h).symm⟩;unfold txV txCells;rw[str_of_list,<-eqB_eq _ _ he,<-hl];split at h;rename_i he;simp only[Bool.and_eq_true,List.isEmpty_iff]at he;right;refine⟨?_,(Option.some.inj h).symm⟩;have h1:s=str []:=by rw[<-str_of_list s,he.1]
 have h2:a.toList=tx0:=by rw[hl,eqB_eq _ _ he.2,h1];rfl
 rw[<-h2];cases h;cases h
 |_=>cases h
def keyBytes_lits(d:B):keyBytes (lits d)=d:=by
 unfold keyBytes lits;induction d with
 |nil=>rfl|cons x l ih=>
 rw[List.map_cons,List.flatMap_cons,ih];have:Lit.keyBytes (.int .u8 (Y x))=[x]:=by
  have e:(Y x % 2^IntKind.u8.bits).toNat=x.toNat:=by have:x.toNat<256:=x.toNat_lt;unfold Y;simp[IntKind.bits];omega
  show bytesBE (IntKind.u8.bits/8) (Y x % 2^IntKind.u8.bits).toNat=[x];rw[e];simp[bytesBE,bytesLE,IntKind.bits]
 rw[this];rfl
def key_dg(d:B)(h:d.length=32):keyOf prog 54 (.agg (w8 d).toArray)=some (.string d):=by obtain⟨n,hn⟩:∃n,prog.types.size+1=n+2:=⟨prog.types.size-1,by kernel_rfl⟩;unfold keyOf;simp only[underlying54,formed_dg d h,show prog.keyType 54=true by kernel_rfl,Bool.and_self,if_true];rw[hn,show(Value.agg (w8 d).toArray).cells.toList=w8 d by simp[Value.cells],keyLits_dg n d h];simp only[Option.map_some,keyBytes_lits]
def ents(P:List B):List (Lit×DataW Unit):=P.map λt=>(Lit.string (Mk.twice t),DataW.lit (.string t))
def D(P:List B):DataW Unit:=.map (ents P)
theorem before_iff:∀(a b:B),bytesBefore a b=decide (a<b)
 |[],[]=>by simp[bytesBefore]|[],_::_=>by simp[bytesBefore]|_::_,[]=>by simp[bytesBefore]|a::r,b::s=>by rw[bytesBefore,before_iff r s,Bool.eq_iff_iff];simp[List.cons_lt_cons_iff]
def same_iff(a b:B):(Lit.string a).sameKey (.string b)=(a==b):=by simp[Lit.sameKey]
def has_ents(P:List B)(id:B)(h:Pl.Up Mk.twice P):Maps.has (D P) (.string id)=(Pl.at' Mk.twice id P).2:=by rw[Bool.eq_iff_iff,Pl.at_mem Mk.twice id P h];show(ents P).any _=true↔_;simp[ents,same_iff]
def size_ents(P:List B):Maps.size (D P)=P.length:=by show(ents P).length=_;simp[ents]
theorem ins_ents(t:B):∀(P:List B),(∀y∈P,Mk.twice y≠Mk.twice t)->DataW.insert (Lit.string (Mk.twice t),DataW.lit (.string t)) (ents P)=ents (Pl.ins Mk.twice t P)
 |[],_=>rfl|y::l,h=>by have ih:=ins_ents t l λz hz=>h z (List.mem_cons_of_mem _ hz);have hy:=h y List.mem_cons_self;rw[Pl.ins_cons];show(if(Lit.string (Mk.twice t)).before (.string (Mk.twice y))then _ else _::DataW.insert _ (ents l))=_;rw[ih];have hb:(Lit.string (Mk.twice t)).before (.string (Mk.twice y))=decide (Mk.twice t<Mk.twice y):=before_iff _ _;rw[hb];rcases Pl.lt_tri (Mk.twice y) (Mk.twice t)with h1|h1|h1;have h2:¬Mk.twice t<Mk.twice y:=λh3=>Pl.lt_irr _ (Pl.lt_tr h1 h3);rw[if_pos h1,if_neg (by simpa using h2)];rfl;exact absurd h1 hy;have h2:¬Mk.twice y<Mk.twice t:=λh3=>Pl.lt_irr _ (Pl.lt_tr h1 h3);rw[if_neg h2,if_pos (by simpa using h1)];rfl
def put_ents(t:B)(P:List B)(h:Pl.Up Mk.twice P)(hn:(Pl.at' Mk.twice (Mk.twice t) P).2=false):(D P).put (.string (Mk.twice t)) (.lit (.string t))=D (Pl.ins Mk.twice t P):=by
 have hne:∀y∈P,Mk.twice y≠Mk.twice t:=λy hy e=>by rw[(Pl.at_mem Mk.twice (Mk.twice t) P h).2 ⟨y,hy,e⟩]at hn;cases hn
 show DataW.map (DataW.insert _ ((ents P).filter _))=_;rw[List.filter_eq_self.2 λp hp=>?_,ins_ents t P hne];· rfl
 obtain⟨y,hy,rfl⟩:=List.mem_map.1 hp;simp[same_iff,hne y hy]
def laidP:laidOutB prog=true:=by kernel_rfl
def law:Maps.Keyed prog 54:=.of_law (deep_law_laid laidP (m:=2) (by omega) (of_decide_eq_true (by kernel_rfl)) (by kernel_rfl) (by kernel_rfl))
structure Map(w:World)(m:Nat)(P:List B):Prop where
 own:w.ownsMap prog 54 txR m 20 (D P)
 up:Pl.Up Mk.twice P
 le:P.length<=20
 short:∀t∈P,t.length<=610
end Mp
namespace Reg
def take1{P:Program}{ops:Array Oper}{Q:Exit->Act->World->Prop}{S:World->Prop}{fuel:Nat}{L:Array Bool}{a:Act}{w:World}(i:Nat)(o:Oper)(v:Value)(hi:ops[i]? =some o)(hg:o.guard=none)(hsel:Region.noSelect ops=true) (hB:takeB ops [i] L=true) (hQ:∀c (a:Act) d v w,Q (.panic c) (a.put d v) w->Q (.panic c) a w) (hy:∀w,S w->(execOp a.eval o).run P w=.ok (.value v) w) (hS:S w) (h:wpAnyH P .any ops Q S fuel (L.setIfInBounds i true) (a.put o.dst v) w):wpAnyH P .any ops Q S (fuel+1) L a w:=by simp only[takeB,Bool.and_eq_true,Bool.and_true]at hB;exact wpAnyH_take hi hsel hB.2 hB.1 (λc a w hq=>hQ c _ _ _ w hq) (.inl ⟨by simp[Region.wanted,hg],hy⟩) hS h
def lookup_run{P:Program}{ev:Operand->Value}{o:Oper}{w:World}{v:Value}{t:TypeId}{x k:Operand}{c:Bool}(hop:o.op=.lookup t x k c)(h:(Instr.lookup t (ev x) (ev k) c).run P w=.ok v w):(execOp ev o).run P w=.ok (.value v) w:=by unfold execOp;simp only[hop,Sem.run_bind,h,Result.andThen_ok,Sem.run_pure]
end Reg
namespace Mp
def zeroTx(w:World):(zeroValue 56).run prog w=.ok (.agg tx0.toArray) w:=by kernel_rfl
def look_det{w0:World}{m:Nat}{P:List B}(h:w0.ownsMap prog 54 txR m 20 (D P))(hup:Pl.Up Mk.twice P)(d:B)(hd:d.length=32):∃(es:Array MapEntry)(clock:Nat)(cs:List Value),w0.heap[m]? =some (.map es clock)/\cs.length=33/\cs.all (·.oneCell')=true/\∀w:World,w.heap[m]? =some (.map es clock)->(Instr.lookup 31 (.map (some m)) (.agg (w8 d).toArray) true).run prog w=.ok (.tuple #[.agg cs.toArray,.bool (Pl.at' Mk.twice d P).2]) w:=by
 have hhas:=has_ents P d hup;obtain⟨es,clock,hb,F,hs,hD⟩:=h;have hkey:=key_dg d hd;have hpw:=((Go.MapKept.stamped_iff es clock).1 F.stamped).2.2;have look:=λ(w:World) (hw:w.heap[m]? =some (.map es clock))=>Maps.fit_look true law underlying31 (zeroTx w) hw F hkey;rcases look w0 hb with⟨_,hno,hat⟩|⟨e0,y,hm0,hk0,_,hR,hat,_⟩;refine⟨es,clock,tx0,hb,tx0_len,by decide +kernel,λw hw=>?_⟩;rw[<-hhas,hD,Maps.has_false_of_atKey hat];rcases look w hw with⟨hrun,_,_⟩|⟨e1,_,hm1,hk1,_⟩;exact hrun;exact absurd hk1 (hno e1 hm1);have hcs:∃cs:List Value,e0.val=.agg cs.toArray/\cs.length=33/\cs.all (·.oneCell')=true:=by rcases txR_inv hR with⟨t,ht,_⟩|⟨ht,_⟩;exact⟨txCells t,ht,txCells_len t,txCells_one t⟩;exact⟨tx0,ht,tx0_len,by decide +kernel⟩
 obtain⟨cs,hv,hl,h1⟩:=hcs;refine⟨es,clock,cs,hb,hl,h1,λw hw=>?_⟩;rw[<-hhas,hD,Maps.has_true_of_atKey hat,<-hv];rcases look w hw with⟨_,hno,_⟩|⟨e1,_,hm1,hk1,hrun,_⟩;exact absurd hk0 (hno e0 hm0);have:e1=e0:=by obtain⟨i,hi,rfl⟩:=List.mem_iff_getElem.1 hm1;obtain⟨j,hj,rfl⟩:=List.mem_iff_getElem.1 hm0;rcases Nat.lt_trichotomy i j with h|h|h;exact absurd (hk1.trans hk0.symm) (List.pairwise_iff_getElem.1 hpw i j hi hj h);subst h;rfl;exact absurd (hk0.trans hk1.symm) (List.pairwise_iff_getElem.1 hpw j i hj hi h)
 rw[this]at hrun;exact hrun
def Map.new(w:World):Map (w.alloc (.map #[] 0)) w.heap.size [] where
 own:=(World.ownsMap_made w _ _ _).mono (by omega);up:=List.Pairwise.nil;le:=by simp
 short:=λt ht=>by cases ht
theorem Map.alloc{w:World}{m:Nat}{P:List B}(h:Map w m P)(o:Obj):Map (w.alloc o) m P:=⟨h.own.alloc o,h.up,h.le,h.short⟩
theorem Map.lt{w:World}{m:Nat}{P:List B}(h:Map w m P):m<w.heap.size:=h.own.lt
def own_block{w w':World}{m n:Nat}{D:DataW Unit}(h:w.ownsMap prog 54 txR m n D)(hb:w'.heap[m]? =w.heap[m]?):w'.ownsMap prog 54 txR m n D:=by obtain⟨es,clock,h1,r⟩:=h;exact⟨es,clock,hb.trans h1,r⟩
def Map.block{w w':World}{m:Nat}{P:List B}(h:Map w m P)(hb:w'.heap[m]? =w.heap[m]?):Map w' m P:=⟨own_block h.own hb,h.up,h.le,h.short⟩
def Map.below{B:Nat}{w w':World}{m:Nat}{P:List Mp.B}(h:Map w m P)(hb:Below B w w')(hm:m<B):Map w' m P:=h.block (hb.block m hm)
def own_tight{w:World}{m n n':Nat}{D:DataW Unit}(h:w.ownsMap prog 54 txR m n D)(hs:Maps.size D<=n'):w.ownsMap prog 54 txR m n' D:=by obtain⟨es,clock,hb,F,_,hD⟩:=h;refine⟨es,clock,hb,F,?_,hD⟩;rw[hD]at hs;simpa[Maps.size,length_sorted]using hs
def but_of_turned{w w':World}{m B:Nat}(h:w.mapTurned w' m):But B m w w':=by obtain⟨es,clock,es',clock',hb,rfl⟩:=h;exact⟨rfl,rfl,rfl,by simp[Go.ChangeMaps.setBlock],λk _ hk=>Go.ChangeMaps.heap_setBlock_other hb _ hk⟩
def quiet_tx{ops:Array Oper}{rest:List Oper}{o:Oper}{a:Act}{C:World->Prop}{Q:Act->Prop}(hgd:o.guard=none)(x:Operand)(ho:o.op=.load 56 x) (g off:Nat) (t:List UInt8) (hx:a.eval x=.pointer (some ⟨g,off,none⟩)) (hr:∀w,C w->w.rangeAt g off (txCells t)) (h:wpQuiet prog ops C Q rest (a.put o.dst (txV t))):wpQuiet prog ops C Q (o::rest) a:=by unfold wpQuiet;rw[if_pos (by simp[Region.wanted,hgd])];refine⟨_,λw hw=>?_,h⟩;have:=run_loadAt_mid (P:=prog) w g off 56 (txCells t) _ (hr w hw) underlying56 rfl (by rw[infoTx,txCells_len]);unfold Oper.quietAt execOp;simp only[ho,hx,Sem.run_bind,this,Result.andThen_ok,Sem.run_pure,Oper.quietUpon];first|trivial|exact⟨trivial,trivial⟩|exact⟨rfl,rfl⟩|exact⟨rfl,hw⟩
end Mp
namespace Mp
def readTx_whole{l t r:List UInt8}(h:Wr.readTx l=.ok t r):t=l/\l.length<=610:=by
 have h':(Wr.tx l).bind (λa r=>if r=[]then .ok a r else .bad 5)=.ok t r:=h;unfold Wr.tx at h';cases hb:Wr.body l with
 |bad e=>rw[hb]at h';cases h'
 |ok u s=>rw[hb]at h';have h2:(if s=[]then(.ok (l.take (l.length-s.length)) s:Wr.R (List UInt8))else .bad 5)=.ok t r:=h';by_cases hs:s=[];rw[if_pos hs]at h2;subst hs;have hl:=Wr.body_eats l u _ hb;cases h2;simp at hl|-;exact hl;rw[if_neg hs]at h2;cases h2
def readTx_short{l t r:List UInt8}(h:Wr.readTx l=.ok t r):t.length<=610:=by obtain⟨rfl,h2⟩:=readTx_whole h;exact h2
def addErr(P:List B)(x:Wr.R (List UInt8)):Nat:=match x with
 |.bad n=>n
 |.ok t _=>if(Pl.at' Mk.twice (Mk.twice t) P).2 then 10 else if P.length=20 then 9 else 0
def addP(P:List B)(x:Wr.R (List UInt8)):List B:=match x with
 |.bad _=>P
 |.ok t _=>if(Pl.at' Mk.twice (Mk.twice t) P).2 then P else if P.length=20 then P else Pl.ins Mk.twice t P
end Mp
def AddS(r A m:Nat)(cs:List Value)(o:Obj)(u:World):Prop:=u.cell? ⟨r,0,none⟩=some (.map (some m))/\Row u A cs/\u.heap[m]? =some o
def AddS.load{r A m:Nat}{t:List UInt8}{o:Obj}{u:World}(h:AddS r A m (txCells t) o u):u.rangeAt A 1 (w8 (Mk.twice t)):=λj v hv=>by rw[h.2.1.cell,Nat.add_comm];unfold txCells;rw[List.getElem?_cons_succ];exact hv
def AddS.mono{r A m:Nat}{cs:List Value}{o:Obj}{u u':World}(h:AddS r A m cs o u)(hb:∀k,k<u.heap.size->u'.heap[k]? =u.heap[k]?):AddS r A m cs o u':=⟨(World.cell?_of_block (w:=u) (hb r (World.block_lt_of_cell? _ _ h.1))).trans h.1,h.2.1.imp λ_ h'=>(hb A h.2.1.lt).trans h',(hb m (Array.getElem?_eq_some_iff.1 h.2.2).1).trans h.2.2⟩
def RowS(r A m:Nat)(cs:List Value)(u:World):Prop:=u.cell? ⟨r,0,none⟩=some (.map (some m))/\Row u A cs
def RowS.load{r A m:Nat}{t:List UInt8}{u:World}(h:RowS r A m (txCells t) u):u.rangeAt A 1 (w8 (Mk.twice t)):=λj v hv=>by rw[h.2.cell,Nat.add_comm];unfold txCells;rw[List.getElem?_cons_succ];exact hv
def add_calls(l:List UInt8)(r m:Nat)(P:List Mp.B)(w:World)(hT:Tabs w)(hl:l.length<=9223372036854775807)(hr:w.cell? ⟨r,0,none⟩=some (.map (some m)))(hM:Mp.Map w m P)(hrw:r<w.heap.size)(hrm:r≠m):Calls prog 8 #[.pointer (some ⟨r,0,none⟩),.string (str l)] w λe w'=>e=.returned (.int .i64 (Mp.addErr P (Wr.readTx l):Int))/\Mp.Map w' m (Mp.addP P (Wr.readTx l))/\But w.heap.size m w w':=by
 have h1w:=hT.lt;have T1:=Lib.hid (wreadTx_calls l w hT hl);have HM:=Lib.hid hM;have hmw:=hM.lt;have HR:=Lib.hid hr;clear hT hM hr;go_enter func8,ntmps8;go_wp2_with fail;refine T1.out.mono ?_;clear T1;cases hx:Wr.readTx l with
 |bad n=>
 rintro e w1⟨rfl,hb⟩;have hn:=readTx_pos hx;have p1:¬(n:Int)=0:=by omega
 have EQ:=Lib.hid hx;obtain⟨cs,hE,hcl,hc1⟩:∃cs:List Value,rdTx (.bad n)=.tuple #[.agg cs.toArray,.int .i64 n]/\cs.length=33/\cs.all (·.oneCell')=true:=⟨tx0,rfl,tx0_len,by decide +kernel⟩;rw[hE];have r1:Row (w1.alloc (.cells tx0.toArray 56)) w1.heap.size tx0:=Row.new w1 tx0 56;have hB:Below w1.heap.size w1 (w1.alloc (.cells tx0.toArray 56)):=(Below.refl _ _).alloc (Nat.le_refl _) _;have B1:=Lib.hid (hb.trans ((below_setRow hB (Nat.le_refl _) cs.toArray).mono hb.size));rw[Tryd.zeroTx]at r1 hB B1;have H1:=r1;clear hx hb r1 hB hn hE;go_wp2_with (with_reducible refine store_cells (o:=⟨none,_,_,_,_,_⟩) rfl _ _ _ rfl w1.heap.size tx0 cs rfl rfl H1 (infoTx.trans (by rw[hcl])) (by rw[hcl,tx0_len]) hc1 ?_);go_ret;exact⟨by rw[EQ.out];rfl,by rw[EQ.out];exact HM.out.below B1.out hmw,But.of_below B1.out⟩
 |ok t rest=>
 rintro e w1⟨rfl,hb⟩;have EQ:=Lib.hid hx;have htl:t.length<=610:=Mp.readTx_short hx;dsimp only[rdTx];have r1:Row (w1.alloc (.cells tx0.toArray 56)) w1.heap.size tx0:=Row.new w1 tx0 56;have hB:Below w1.heap.size w1 (w1.alloc (.cells tx0.toArray 56)):=(Below.refl _ _).alloc (Nat.le_refl _) _;have B1:=Lib.hid (hb.trans ((below_setRow hB (Nat.le_refl _) (txCells t).toArray).mono hb.size));have H2:=r1.setRow (txCells t);rw[Tryd.zeroTx]at r1 hB B1 H2;have H1:=r1;clear r1 hx hB;go_upto_region 4 with(with_reducible refine store_cells (o:=⟨none,_,_,_,_,_⟩) rfl _ _ _ rfl w1.heap.size tx0 (txCells t) rfl rfl H1 (infoTx.trans (by rw[txCells_len])) (by rw[txCells_len,tx0_len]) (txCells_one t) ?_);clear H1;obtain⟨A,hA⟩:∃A,w1.heap.size=A:=⟨_,rfl⟩;have hAw:w.heap.size<=A:=hA▸hb.size;rw[hA]at B1 H2|-;clear hA hb;generalize World.setRow _ A (txCells t).toArray=w2 at B1 H2|-;have hr2:=(World.cell?_of_block (w:=w) (a:=⟨r,0,none⟩) (B1.out.block r hrw)).trans HR.out;have M2:=HM.out.below B1.out hmw;have h32:=twice32 t;obtain⟨es,clock,cs,hes,hcl,hc1,hlook⟩:=Mp.look_det M2.own M2.up (Mk.twice t) h32;have MM:=Lib.hid M2;have HL:=Lib.hid hlook;have hS2:AddS r A m (txCells t) (.map es clock) w2:=⟨hr2,H2,hes⟩;have hu0:∀u:Reg.Of (AddS r A m (txCells t) (.map es clock)),u.w.cell? ⟨r,0,none⟩=some (.map (some m)):=λu=>u.h.1;haveI hne:Nonempty (Reg.Of (AddS r A m (txCells t) (.map es clock))):=⟨⟨w2,hS2⟩⟩;clear hr2 M2 hlook;refine Reg.startL [0,1,2,3,4,5] 7 mixed (by kernel_rfl) rfl rfl (λc a d v w h=>by cases d<;>exact h) (by as_aux_lemma=>kernel_rfl) rfl (AddS r A m (txCells t) (.map es clock)) hS2 ?_;show wpQuiet _ _ _ _ [_,_,_,_,_,_] _;iterate 5 (go_big_quiet_step (fail))
 refine wpQuiet_load (o:=⟨some 23,_,_,_,_,_⟩) rfl _ rfl A 1 (Mk.twice t) h32 rfl (λw hw=>by obtain⟨u,rfl⟩:=hw;exact u.h.load) ?_;try go_frame
 refine wpQuiet_nil ?_;refine Reg.take1 6 ⟨some 24,.lookup 31 (.tmp 21) (.tmp 23) true,_,_,_,_⟩ (.tuple #[.agg cs.toArray,.bool (Pl.at' Mk.twice (Mk.twice t) P).2]) rfl rfl (by kernel_rfl) (by as_aux_lemma=>kernel_rfl) (λc a d v w h=>by cases d<;>exact h) (λu hu=>?_) (Reg.cls_mk hS2) ?_;obtain⟨u',rfl⟩:=hu;exact Reg.lookup_run rfl (HL.out _ u'.h.2.2);obtain⟨ok,hok⟩:∃b,(Pl.at' Mk.twice (Mk.twice t) P).2=b:=⟨_,rfl⟩;rw[hok];try go_frame
 refine Reg.restL [7,8,9] 3 (by rfl) (by kernel_rfl) (by rfl) (λc a d v w h=>by cases d<;>exact h) (by as_aux_lemma=>kernel_rfl) (by rfl) (Reg.cls_mk hS2) ?_;show wpQuiet _ _ _ _ [_,_,_] _;repeat(go_big_quiet_step (fail))
 refine wpQuiet_nil ?_;refine Reg.one 10 _ (by kernel_rfl) rfl rfl ?_;try go_frame
 go_wp2_with fail;have r3:Row (w2.alloc (.cells tx0.toArray 56)) w2.heap.size tx0:=Row.new w2 tx0 56;have S3:AddS r A m (txCells t) (.map es clock) (w2.alloc (.cells tx0.toArray 56)):=hS2.mono λk hk=>Below.heap_alloc _ _ _ hk
 have B3:Below w.heap.size w (w2.alloc (.cells tx0.toArray 56)):=B1.out.alloc B1.out.size _;have M3:=MM.out.alloc (.cells tx0.toArray 56);rw[Tryd.zeroTx]at r3 S3 B3 M3;have hD:w.heap.size<=w2.heap.size:=B1.out.size;have hAD:A<w2.heap.size:=H2.lt;have hmD:=MM.out.lt;obtain⟨D,hDe⟩:∃D,w2.heap.size=D:=⟨_,rfl⟩;rw[hDe]at r3 hD hAD hmD|-;have HOK:=Lib.hid hok;clear MM H2 hes hS2 hok HL HM B1 hDe;generalize w2.alloc _=w3 at r3 S3 B3 M3|-;refine⟨Reg.cls_mk S3,?_⟩;refine Reg.one 11 _ (by kernel_rfl) rfl rfl ?_;have S4:AddS r A m (txCells t) (.map es clock) (w3.drew.setRow D cs.toArray):=⟨(World.cell?_of_block (w:=w3) (a:=⟨r,0,none⟩) (setRow_other w3 D r _ (by omega))).trans S3.1,S3.2.1.imp λ_ h'=>(setRow_other w3 D A _ (by omega)).trans h',(setRow_other w3 D m _ (by omega)).trans S3.2.2⟩;have B4:=Lib.hid (below_setRow (w:=w3.drew) B3.drew hD cs.toArray);have M4:=Lib.hid (Mp.Map.block M3 (setRow_other w3.drew D m cs.toArray (by omega)));refine store_cells (o:=⟨none,.store 56 (.tmp 7) (.tmp 25),_,_,_,_⟩) rfl _ _ _ rfl D tx0 cs rfl rfl r3 (infoTx.trans (by rw[hcl])) (by rw[hcl,tx0_len]) hc1 ?_;generalize w3.drew.setRow D cs.toArray=w4 at S4 B4 M4|-;refine⟨Reg.cls_mk S4,?_⟩;refine Reg.one 12 _ (by kernel_rfl) rfl rfl ?_;try go_frame
 clear hne hu0 r3 S3 B3 M3;go_wp2_with fail;refine⟨Reg.cls_mk S4,?_⟩;refine wpAnyH_done (by kernel_rfl) ?_ 0;have hr4:=S4.1;have N4:=Lib.hid (But.of_below (S:=m) B4.out);have S5:=Lib.hid S4;clear S4;have hr4':=hr4;cases ok
 ·have hlen:=M4.out.own.len underlying31 3;rw[Mp.size_ents]at hlen;by_cases hfull:P.length=20
  ·rw[hfull]at hlen;go_wp2_with fail;go_ret;refine⟨?_,?_,N4.out⟩;rw[EQ.out];show _=Ending.returned (.int .i64 ((if(Pl.at' Mk.twice (Mk.twice t) P).2 then 10 else if P.length=20 then 9 else 0:Nat):Int));rw[HOK.out,if_neg (by simp),if_pos hfull];rfl;rw[EQ.out];show Mp.Map w4 m (if(Pl.at' Mk.twice (Mk.twice t) P).2 then P else if P.length=20 then P else _);rw[HOK.out,if_neg (by simp),if_pos hfull];exact M4.out
  have hle:=M4.out.le;have hpl:¬(P.length:Int)=20:=by omega
  go_upto_region 9 with fail;have hS9:RowS r A m (txCells t) w4:=⟨S5.out.1,S5.out.2.1⟩;have hu0:∀u:Reg.Of (RowS r A m (txCells t)),u.w.cell? ⟨r,0,none⟩=some (.map (some m)):=λu=>u.h.1;haveI hne:Nonempty (Reg.Of (RowS r A m (txCells t))):=⟨⟨w4,hS9⟩⟩;clear hr4 hr4' hlen;refine Reg.startL [0,1,2,3,4,5,6] 1 mixed (by kernel_rfl) rfl rfl (λc a d v w h=>by cases d<;>exact h) (by as_aux_lemma=>kernel_rfl) rfl (RowS r A m (txCells t)) hS9 ?_;show wpQuiet _ _ _ _ [_,_,_,_,_,_,_] _;iterate 5 (go_big_quiet_step (fail))
  refine wpQuiet_load (o:=⟨some 39,_,_,_,_,_⟩) rfl _ rfl A 1 (Mk.twice t) h32 rfl (λw hw=>by obtain⟨u,rfl⟩:=hw;exact u.h.load) ?_;try go_frame
  refine Mp.quiet_tx (o:=⟨some 40,_,_,_,_,_⟩) rfl _ rfl A 0 t rfl (λw hw=>by obtain⟨u,rfl⟩:=hw;exact λj v hv=>by rw[u.h.2.cell,Nat.zero_add];exact hv) ?_;try go_frame
  refine wpQuiet_nil ?_;refine Reg.one 7 _ (by kernel_rfl) rfl rfl ?_;refine wpList_mapUpdate_in _ (o:=⟨none,.mapUpdate 31 (.tmp 37) (.tmp 39) (.tmp 40),_,_,_,_⟩) rfl _ _ _ _ rfl 54 56 Mp.law underlying31 Mp.txR m 20 (Mp.D P) rfl (show w4.drew.ownsMap _ _ _ _ _ _ from M4.out.own) (by unfold maxLen;omega) (.agg (w8 (Mk.twice t)).toArray) (txV t) (Lit.string (Mk.twice t)) rfl rfl (Mp.key_dg _ h32) (.lit (.string t)) [] (Mp.txR_tx t) ?_;intro w5 hown5 hturn5;have hw45:But w.heap.size m w4 w5:=((But.refl w.heap.size m w4).drew).trans (Mp.but_of_turned (w:=w4.drew) hturn5);have N5:=Lib.hid (N4.out.trans hw45);have hpos:=S5.out.2.1.lt;have hS5:RowS r A m (txCells t) w5:=by obtain⟨es0,c0,es1,c1,_,rfl⟩:=hturn5;exact⟨(World.cell?_of_block (w:=w4.drew) (a:=⟨r,0,none⟩) (Go.ChangeMaps.heap_setBlock_other (w:=w4.drew) S5.out.2.2 _ hrm)).trans hS9.1,hS9.2.imp λ_ h'=>(Go.ChangeMaps.heap_setBlock_other (w:=w4.drew) S5.out.2.2 _ (by omega)).trans h'⟩
  have M5:Mp.Map w5 m (Pl.ins Mk.twice t P):=by rw[Mp.put_ents t P M4.out.up HOK.out]at hown5;have hil:=Pl.ins_len Mk.twice t P;refine⟨Mp.own_tight hown5 (by rw[Mp.size_ents];omega),Pl.ins_up Mk.twice t P M4.out.up HOK.out,by omega,λy hy=>?_⟩;rcases(Pl.mem_ins Mk.twice t P y).1 hy with rfl|hy;exact htl;exact M4.out.short y hy
  have MM5:=Lib.hid M5;clear hown5 hturn5 M5 hne hu0 hS9 M4 N4 S5;refine⟨Reg.cls_mk hS5,?_⟩;refine wpAnyH_done (by kernel_rfl) ?_ 0;clear hS5;go_wp2_with fail;go_ret;refine⟨?_,?_,N5.out⟩;rw[EQ.out];show _=Ending.returned (.int .i64 ((if(Pl.at' Mk.twice (Mk.twice t) P).2 then 10 else if P.length=20 then 9 else 0:Nat):Int));rw[HOK.out,if_neg (by simp),if_neg hfull];rfl;rw[EQ.out];show Mp.Map w5 m (if(Pl.at' Mk.twice (Mk.twice t) P).2 then P else if P.length=20 then P else _);rw[HOK.out,if_neg (by simp),if_neg hfull];exact MM5.out
 go_wp2_with fail;go_ret;refine⟨?_,?_,N4.out⟩
 rw[EQ.out];show _=Ending.returned (.int .i64 ((if(Pl.at' Mk.twice (Mk.twice t) P).2 then 10 else if P.length=20 then 9 else 0:Nat):Int));rw[HOK.out,if_pos rfl];rfl;rw[EQ.out];show Mp.Map w4 m (if(Pl.at' Mk.twice (Mk.twice t) P).2 then P else if P.length=20 then P else _);rw[HOK.out,if_pos rfl];exact M4.out
end
section
open Go.Proofs Go.Shelf
def sortRen:Ren where
 f:=λx=>match x with
  |190=>18
  |125=>33
  |258=>32
  |128=>67
  |129=>68
  |302=>58
  |303=>59
  |304=>60
  |305=>61
  |306=>62
  |307=>63
  |308=>64
  |309=>65
  |310=>66
  |333=>78
  |329=>79
  |330=>80
  |334=>81
  |335=>82
  |336=>83
  |344=>87
  |n=>n
 t:=λx=>match x with
  |31=>25
  |9=>9
  |3=>3
  |46=>95
  |0=>0
  |51=>132
  |53=>79
  |4=>4
  |183=>124
  |182=>123
  |131=>129
  |5=>5
  |218=>146
  |222=>149
  |228=>155
  |229=>156
  |n=>n
 g:=λn=>n
def sortLaid:Lays.n190 prog sortRen where
 mixed:=Eq.refl true;f125:=Eq.trans func33 (congrArg some (Eq.refl (Body.n125 sortRen)));f128:=Eq.trans func67 (congrArg some (Eq.refl (Body.n128 sortRen)));f129:=Eq.trans func68 (congrArg some (Eq.refl (Body.n129 sortRen)));f190:=Eq.trans func18 (congrArg some (Eq.refl (Body.n190 sortRen)));f258:=Eq.trans func32 (congrArg some (Eq.refl (Body.n258 sortRen)));f302:=Eq.trans func58 (congrArg some (Eq.refl (Body.n302 sortRen)));f303:=Eq.trans func59 (congrArg some (Eq.refl (Body.n303 sortRen)));f304:=Eq.trans func60 (congrArg some (Eq.refl (Body.n304 sortRen)));f305:=Eq.trans func61 (congrArg some (Eq.refl (Body.n305 sortRen)));f306:=Eq.trans func62 (congrArg some (Eq.refl (Body.n306 sortRen)));f307:=Eq.trans func63 (congrArg some (Eq.refl (Body.n307 sortRen)));f308:=Eq.trans func64 (congrArg some (Eq.refl (Body.n308 sortRen)));f309:=Eq.trans func65 (congrArg some (Eq.refl (Body.n309 sortRen)));f310:=Eq.trans func66 (congrArg some (Eq.refl (Body.n310 sortRen)));f329:=Eq.trans func79 (congrArg some (Eq.refl (Body.n329 sortRen)));f330:=Eq.trans func80 (congrArg some (Eq.refl (Body.n330 sortRen)));f333:=Eq.trans func78 (congrArg some (Eq.refl (Body.n333 sortRen)));f334:=Eq.trans func81 (congrArg some (Eq.refl (Body.n334 sortRen)));f335:=Eq.trans func82 (congrArg some (Eq.refl (Body.n335 sortRen)));f336:=Eq.trans func83 (congrArg some (Eq.refl (Body.n336 sortRen)));f344:=Eq.trans func87 (congrArg some (Eq.refl (Body.n344 sortRen)));t0:=underlying0;a0:=isAgg0;z0:=sizeOf0;v0:=zeroValue0;t3:=underlying3;a3:=isAgg3;z3:=sizeOf3;v3:=zeroValue3;t4:=underlying4;a4:=isAgg4;z4:=sizeOf4;v4:=zeroValue4;t5:=underlying5;a5:=isAgg5;z5:=sizeOf5;v5:=zeroValue5;t9:=underlying9;a9:=isAgg9;z9:=sizeOf9;v9:=zeroValue9;t31:=underlying25;a31:=isAgg25;z31:=sizeOf25;v31:=zeroValue25;t46:=underlying95;a46:=isAgg95;z46:=sizeOf95;v46:=zeroValue95;t51:=underlying132;a51:=isAgg132;z51:=sizeOf132;v51:=zeroValue132;t53:=underlying79;a53:=isAgg79;z53:=sizeOf79;v53:=zeroValue79;t131:=underlying129;a131:=isAgg129;z131:=sizeOf129;v131:=zeroValue129;t182:=underlying123;a182:=isAgg123;z182:=sizeOf123;v182:=zeroValue123;t183:=underlying124;a183:=isAgg124;z183:=sizeOf124;v183:=zeroValue124;t218:=underlying146;a218:=isAgg146;z218:=sizeOf146;v218:=zeroValue146;t222:=underlying149;a222:=isAgg149;z222:=sizeOf149;v222:=zeroValue149;t228:=underlying155;a228:=isAgg155;z228:=sizeOf155;v228:=zeroValue155;t229:=underlying156;a229:=isAgg156;z229:=sizeOf156;v229:=zeroValue156
def sort_calls(blk off cap:Nat)(ss:List (List UInt8))(w:World)(hH:Sort.Holds encStr w blk off ss.toArray)(hblk:blk<w.heap.size)(hsz:ss.length<4611686018427387904):Calls prog 18 #[.slice (some ⟨blk,off,none⟩) ss.length cap] w λe w'=>e=.returned (.tuple #[])/\∃n os,w'=Sort.grow (Sort.putRow encStr (Sort.ahead w n) blk off (ss.mergeSort λx y=>decide (x<=y)).toArray) os:=Any.slices_Sort_string sortLaid blk off cap ss w hH hblk hsz
end
section
open Nums
open Go.RowKit
def len64_zero(w:World):Calls prog 68 #[.int .u64 0] w λe w'=>e=.returned (.int .i64 0)/\w'=w:=by go_enter func68,ntmps68;go_wp2_with fail;go_ret;exact⟨congrArg (λz=>Ending.returned (.int .i64 z)) (show wrap64 (wrap64 (Lib.len8 0))=0 by decide +kernel),rfl⟩
def len_zero(w:World):Calls prog 33 #[.int .u64 0] w λe w'=>e=.returned (.int .i64 0)/\w'=w:=by go_enter func33,ntmps33;go_wp2_with fail;refine(len64_zero w).mono ?_;rintro e w1⟨rfl,rfl⟩;go_wp2_with fail;go_ret;exact⟨rfl,rfl⟩
def insnil(w:World):Calls prog 58 #[.slice none 0 0,.int .i64 0,.int .i64 0] w λe w'=>e=.returned (.tuple #[])/\w'=w:=by
 go_enter func58,ntmps58;go_wp2_with fail;refine wp_loop_rounds 1 ?_;rw[rounds_succ];go_wp2_with fail
 go_end0;exact⟨rfl,rfl⟩
def pdq_nil(w:World):Calls prog 32 #[.slice none 0 0,.int .i64 0,.int .i64 0,.int .i64 0] w λe w'=>e=.returned (.tuple #[])/\w'=w:=by go_enter func32,ntmps32;go_wp2_with fail;refine wp_loop_rounds 1 ?_;rw[rounds_succ];go_wp2_with fail;refine(insnil _).mono ?_;rintro e w1⟨rfl,rfl⟩;go_wp2_with fail;refine bodyPost_ret (results_none rfl _ _ _) rfl ?_;exact⟨rfl,rfl⟩
def sortnil_calls(w:World):Calls prog 18 #[.slice none 0 0] w λe w'=>e=.returned (.tuple #[])/\w'=w:=by
 go_enter func18,ntmps18;go_wp2_with fail;rw[show U (toU 0)=0 by decide +kernel]
 refine(len_zero w).mono ?_;rintro e w1⟨rfl,rfl⟩;go_wp2_with fail;refine(pdq_nil _).mono ?_;rintro e w1⟨rfl,rfl⟩;go_wp2_with fail;go_end0;exact⟨rfl,rfl⟩
theorem mapM_all{α β:Type}{f:α->Option β}:∀ {l:List α}{r:List β},l.mapM f=some r->∀x∈l,∃y,f x=some y
 |[],_,_,x,hx=>by cases hx
 |a::l,r,h,x,hx=>by
  rw[List.mapM_cons]at h;cases ha:f a with
  |none=>rw[ha]at h;cases h
  |some y=>
  rw[ha]at h;cases hl:l.mapM f with
  |none=>rw[hl]at h;cases h
  |some r'=>rcases List.mem_cons.1 hx with rfl|hx;exact⟨y,ha⟩;exact mapM_all hl x hx
def byteOf:Value->UInt8
 |.int _ n=>UInt8.ofNat n.toNat|_=>0
def u8_inv{d:Nat}{c:Value}{ls:List Lit}(h:prog.keyLits (d+1) 5 [c]=some ls):c=.int .u8 (Y (byteOf c)):=by
 unfold Program.keyLits at h;simp only[underlying5]at h;cases c<;>try(simp at h;done)
 rename_i k n;dsimp only at h;split at h;rename_i hk;obtain⟨rfl,hw⟩:=hk;have hn:0<=n/\n<=255:=by simp[Lit.wf,IntKind.min,IntKind.max,IntKind.signed,IntKind.bits]at hw;omega
 have:Y (byteOf (.int .u8 n))=n:=by unfold byteOf Y;simp only[UInt8.toNat_ofNat'];omega
 rw[this];cases h
def key_inv{v:Value}{kl:Lit}(h:keyOf prog 54 v=some kl):∃d:List UInt8,d.length=32/\v=.agg (w8 d).toArray/\kl=.string d:=by
 have h0:=h;obtain⟨n,hn⟩:∃n,prog.types.size+1=n+2:=⟨prog.types.size-1,by kernel_rfl⟩;unfold keyOf at h;simp only[underlying54,show prog.keyType 54=true by kernel_rfl,Bool.true_and]at h;split at h
 ·rename_i hf;cases v<;>try(simp[Value.formed,underlying54]at hf;done)
  rename_i cs;have hsz:cs.toList.length=32:=by simp only[Value.formed,underlying54,cellsDg,beq_iff_eq]at hf;simpa using hf
  rw[hn,show(Value.agg cs).cells.toList=cs.toList by simp[Value.cells]]at h;cases hl:prog.keyLits (n+2) 54 cs.toList with
  |none=>rw[hl]at h;cases h
  |some ls=>
  unfold Program.keyLits at hl;simp only[underlying54,cellsDg,hsz,if_true,cellsU8]at hl;cases hm:(List.range 32).mapM (λi=>prog.keyLits (n+1) 5 ((cs.toList.drop (i*1)).take 1))with
  |none=>rw[hm]at hl;cases hl
  |some r=>
  have hall:=mapM_all hm;have hcell:∀i (hi:i<cs.toList.length),cs.toList[i]=.int .u8 (Y (byteOf cs.toList[i])):=λi hi=>by obtain⟨y,hy⟩:=hall i (List.mem_range.2 (by omega));rw[Nat.mul_one,List.drop_eq_getElem_cons hi]at hy;exact u8_inv hy
  have hcs:cs.toList=w8 (cs.toList.map byteOf):=by apply List.ext_getElem;simp[w8];intro i h1 h2;have:=hcell i h1;simp only[w8,List.getElem_map];exact this
  have hd:(cs.toList.map byteOf).length=32:=by simpa using hsz
  have hv:Value.agg cs=.agg (w8 (cs.toList.map byteOf)).toArray:=by rw[<-hcs]
  refine⟨_,hd,hv,?_⟩;rw[hv,Mp.key_dg _ hd]at h0;exact(Option.some.inj h0).symm
 cases h
end
section
open Go.RowKit Nums
namespace Sd
theorem flat_le:∀(ts:List (List UInt8)),(∀t∈ts,t.length<=610)->ts.flatten.length<=610*ts.length
 |[],_=>by simp|t::l,h=>by have h1:=h t (List.mem_cons_self ..);have h2:=flat_le l λx hx=>h x (List.mem_cons_of_mem _ hx);rw[List.flatten_cons,List.length_append,List.length_cons];omega
end Sd
def parts_calls(b h:List UInt8)(ts:List (List UInt8))(hb:Sd.Blk b h ts)(w:World):Calls prog 14 #[.string (str b)] w λe w'=>∃v,e=.returned (.tuple #[v,.bool true])/\w'.ownsRow w.heap.size 9 1 v ts.length (wt ts)/\Below w.heap.size w w':=by
 have HB:=Lib.hid hb;have hn:=hb.nth80;have hts:=hb.le;have hbl:=hb.len;have hfl:=Sd.flat_le ts λt ht=>(hb.all t ht).len;have hb9:b.length<=10000:=by omega
 have p1:¬(b.length:Int)<81:=by omega
 have p2:(80:Int)< (b.length:Int):=by omega
 have hY:Y (nth b 80)=(ts.length:Int):=by unfold Y;omega
 obtain⟨i0,hi0,hz0,hz1,hz2⟩:=info_parts infoStr;have HI:=Lib.hid hi0;have HBL:=Lib.hid hbl;have HY:=Lib.hid hY;clear hi0 hb hfl hn hbl hY;go_enter func14,ntmps14;go_wp2_with fail;simp only[show((80:Int).toNat)=80 from rfl,HY.out];go_wp2_with fail;go_loopw [4,6,17] (λov av iv wr=>∃c:Nat,c<=ts.length/\iv=.int .i64 c/\av=.int .i64 ((81+(ts.take c).flatten.length:Nat):Int)/\wr.ownsRow w.heap.size 9 1 ov c (wt (ts.take c))/\Below w.heap.size w wr) (λ_ _ iv _=>ts.length-(intOf iv).toNat)
 exact⟨0,by omega,rfl,rfl,World.ownsRow_nil _ _ _ _,Below.refl _ _⟩;obtain⟨c,hc,rfl,rfl,how,hbw⟩:=hrel;have OW:=Lib.hid how;have BW:=Lib.hid hbw;clear how hbw;by_cases hlt:c<ts.length
 ·have p3:(c:Int)< (ts.length:Int):=by omega
  obtain⟨hx,hd,he⟩:=HB.out.one hlt;have A0:=Sd.at_start hx hd;have hpl:81+(ts.take c).flatten.length+(ts.getD c []).length<=b.length:=by have:=congrArg List.length hd;rw[List.length_drop,List.length_append]at this;have h4:=hx.len;have:=List.length_pos_iff.2 hx.ne;omega
  have etk:ts.take (c+1)=ts.take c++[ts.getD c []]:=by rw[List.take_succ_eq_append_getElem hlt,List.getD_eq_getElem?_getD,List.getElem?_eq_getElem hlt];rfl
  have EK:=Lib.hid etk;have HE:=Lib.hid he;have HD:=Lib.hid hd;clear etk he hd hx;obtain⟨p,hp⟩:∃p,81+(ts.take c).flatten.length=p:=⟨_,rfl⟩;rw[hp]at A0 HD hpl|-;have HP:=Lib.hid hp;clear hp;have AA:=Lib.hid A0;clear A0;go_wp2_with fail;go_loopw [6,22] (λav iv wx=>∃s q:Nat,s<=2/\iv=.int .i64 s/\av=.int .i64 q/\Sd.At b (ts.drop (c+1)).flatten s q/\p<=q/\q<=b.length/\wx=wr) (λ_ iv _=>2-(intOf iv).toNat)
  ·exact⟨0,p+4,by omega,rfl,by go_num,AA.out,by omega,by have:=AA.out.1;omega,rfl⟩
  obtain⟨s,q,hs,rfl,rfl,hat,hq1,hq2,rfl⟩:=hrel;clear AA;by_cases hs2:s<2
  ·have p4:(s:Int)<2:=by omega
   obtain⟨a1,a2,r,a3,a4⟩:=Sd.at_in hs2 hat;have p5:¬(q:Int)≥ (b.length:Int):=by omega
   have p6:(q:Int)< (b.length:Int):=by omega
   have A4:=Lib.hid a4;have A3:=Lib.hid a3;obtain⟨kk,hkk⟩:∃kk,(nth b q).toNat=kk:=⟨_,rfl⟩;have hYq:Y (nth b q)=(kk:Int):=by unfold Y;omega
   rw[hkk]at A3 a2;clear a3 a4 hat hkk;go_wp2_with fail;go_loopw [6,36] (λav iv wx=>∃m q2:Nat,m<=kk/\iv=.int .i64 m/\av=.int .i64 q2/\Wr.rep (Sd.sd s) (kk-m) (b.drop q2)=.ok () r/\q<=q2/\q2<=b.length/\wx=wr) (λ_ iv _=>kk-(intOf iv).toNat)
   ·exact⟨0,q+1,by omega,rfl,by go_num,A3.out,by omega,by omega,rfl⟩
   obtain⟨m,q2,hm,rfl,rfl,hr,hq3,hq4,rfl⟩:=hrel;clear A3;by_cases hml:m<kk
   ·have p7:(m:Int)< (kk:Int):=by omega
    rw[show kk-m=kk-(m+1)+1 by omega]at hr;obtain⟨b1,b2,b3,b4⟩:=Sd.at_step hs2 hr;have B4:=Lib.hid b4;have q7:(36:Int) - 28*(s:Int)=(Sd.fore s:Int):=by unfold Sd.fore;omega
    have q8:(4:Int)*(s:Int)=4-(Sd.aft s:Int):=by unfold Sd.aft;omega
    have hf:Sd.fore s<=36:=by unfold Sd.fore;omega
    have ha:Sd.aft s<=4:=by unfold Sd.aft;omega
    generalize Sd.fore s=fo at q7 b1 b2 b3 B4 hf;generalize Sd.aft s=af at q8 b3 B4 ha;obtain⟨jj,hjj⟩:∃jj,(nth b (q2+fo)).toNat=jj:=⟨_,rfl⟩;have hYj:Y (nth b (q2+fo))=(jj:Int):=by unfold Y;omega
    rw[hjj]at B4 b2 b3;clear hr b4 hjj;have p8:¬(q2:Int)+fo≥ (b.length:Int):=by omega
    have p9:(q2:Int)+fo< (b.length:Int):=by omega
    go_wp2_with fail;go_roundw
    ·exact⟨m+1,q2+fo+(1+jj+af),by omega,by go_num,congrArg (Value.int .i64) (by omega),B4.out,by omega,by omega,trivial⟩
    simp[intOf];omega
   obtain rfl:m=kk:=by omega
   rw[Nat.sub_self]at hr;have H4:=Lib.hid (A4.out q2 (Sd.rep_zero hr));clear hr A4;go_wp2_with fail;go_roundw
   ·exact⟨s+1,q2,by omega,by go_num,rfl,H4.out,by omega,by omega,trivial⟩
   simp[intOf];omega
  obtain rfl:s=2:=by omega
  obtain⟨e1,e2⟩:=Sd.at_end hat;have PC:=Lib.hid (Sd.at_piece HD.out (by omega:p<=q+4) (by omega) e2);have q1:¬(q:Int)+4>(b.length:Int):=by omega
  have hz:w.heap.size<=wr.heap.size:=BW.out.size;generalize ts.getD c []=t at HE EK HD PC hpl;clear hat e2;have n1:((q:Int)+4).toNat=q+4:=by omega
  obtain⟨oa,oc,rfl⟩:=own_lenN OW.out;go_wp2_with (at_builtin;refine wpList_append_own _ rfl _ _ 25 rfl w.heap.size 9 i0 (.string ByteArray.empty) 1 16 underlying25 HI.out hz0 hz1 hz2 rfl (by decide) _ _ _ rfl (OW.out.alloc _) ⟨wr.heap.size,0,none⟩ 1 1 [.string (str (List.take (q+4-p) (List.drop p b)))] rfl rfl (cell_one_new _ _ _) (wt_one [List.take (q+4-p) (List.drop p b)]) (by unfold maxLen;omega) (by omega) (by rw[World.size_alloc];omega) ?_;intro v5 w5 hown5 hgr5 _;have H1:=Lib.hid hown5;have H2:=Lib.hid hgr5;clear hown5 hgr5);have hb5:Below w.heap.size wr w5:=((Below.refl w.heap.size wr).alloc hz _).grown H2.out (by rw[World.size_alloc];omega) (λq hq=>(OW.out.lt q hq).1);have B5:=Lib.hid (BW.out.trans hb5);have O5:=Lib.hid (show w5.ownsRow w.heap.size 9 1 v5 (c+1) (wt (ts.take (c+1)))from by rw[EK.out,<-wt_snoc,<-PC.out];exact H1.out);have hE:=HE.out;have hP:=HP.out;have hD:=congrArg List.length PC.out;rw[List.length_take,List.length_drop]at hD;clear H1 H2 hb5;go_roundw
  ·exact⟨c+1,by omega,by go_num,congrArg (Value.int .i64) (by omega),O5.out,B5.out⟩
  simp[intOf];omega
 obtain rfl:c=ts.length:=by omega
 have o1:=OW.out;rw[List.take_of_length_le (Nat.le_refl _)]at o1|-;have O1:=Lib.hid o1;clear OW o1;have hbl:=HBL.out;rw[<-hbl];clear hbl;go_wp2_with fail;have EQ:(81+ts.flatten.length:Nat)=b.length:=HBL.out.symm;go_ret2;exact⟨_,rfl,O1.out,BW.out⟩
def built_Reply(s:ByteArray)(a:Option Addr)(n c:Nat):prog.built 63 [(0,.string s),(1,.slice a n c)]=some #[.string s,.slice a n c]:=by kernel_rfl
def info_Reply:(prog.info? 63).map (·.size)=some 2:=by kernel_rfl
def build_Reply{ops:Array Oper}{rest:List Oper}{o:Oper}{a:Act}{w:World}{Q:Exit->Act->World->Prop}(hgd:o.guard=none)(x y:Operand)(ho:o.op=.build 63 #[(0,x),(1,y)]) (s:List UInt8) (v:Value) (hv:∃a n c,v=.slice a n c) (hx:a.eval x=.string (str s)) (hy:a.eval y=v) (h:wpList prog ops Q rest (a.put o.dst (.agg (pr s v).toArray)) w):wpList prog ops Q (o::rest) a w:=by obtain⟨ad,n,c,rfl⟩:=hv;refine wpList_buildTo hgd 63 _ ho _ rfl _ ?_ h;simp only[List.map_toArray,List.map_cons,List.map_nil,hx,hy];exact built_Reply (str s) ad n c
def Reply1_calls(b:Nat)(l:List UInt8)(w:World)(hT:Tabs w)(h1b:1<b)(hr:Row w b [.string (str l)])(hl:l.length<=9223372036854775807):Calls prog 35 #[.pointer (some ⟨b,0,none⟩)] w (RPP (Wr.rplR l) (λa=>a.1) 56 33 (λa=>a.2.length) (λa=>txsCells a.2) b w):=by
 have hb:=hr.lt;have h1w:=hT.lt;have hk:=And.intro h1b hl;clear hk;have I0:PI w b l.length l (w.alloc (.cells pr0.toArray 63)):=⟨hr.alloc _,Row.new w _ _,(But.refl _ _ _).alloc (Nat.le_refl _) _,Nat.le_refl _⟩;rw[show pr0.toArray=#[Value.string (str []),.slice none 0 0]from rfl]at I0;have HT:=Lib.hid hT;have EQ:=Lib.hid (show Wr.rplR l=(Wr.take 32 l).bind λh r=>(Wr.upTo 1 16 r).bind λn r=>(Wr.txs n r).map λts=>(h,ts)from rfl);clear hr hT;go_enter func35,ntmps35;go_upto_region 1 with fail;generalize w.alloc _=w1 at I0|-;have T1:=Lib.hid (take_calls b 32 l w1 I0.cur (by omega));have J:=Lib.hid I0;clear I0;go_wp2_with fail;refine T1.out.mono ?_;clear T1;cases hx:Wr.take 32 l with
 |bad n=>rintro e w2⟨rfl,h⟩;rw[hx]at EQ;exact⟨rfl,RPP.mkBad EQ.out (J.out.bad h)⟩
 |ok t1 r1=>
 rintro e w2⟨rfl,h3,h4⟩;rw[hx]at EQ;have EQ2:=Lib.hid (show Wr.rplR l=(Wr.upTo 1 16 r1).bind λn r=>(Wr.txs n r).map λts=>(t1,ts)from EQ.out);have J2:=Lib.hid (J.out.step hb h3 h4 ((Wr.take_tail 32 l).le hx));have T2:=Lib.hid (upTo_calls b 1 16 r1 w2 h3 (by omega) (by omega));clear h3 h4 J EQ hx;go_wp2_with fail;refine T2.out.mono ?_;clear T2;cases hx:Wr.upTo 1 16 r1 with
 |bad n=>rintro e w3⟨rfl,h⟩;rw[hx]at EQ2;exact⟨rfl,RPP.mkBad EQ2.out (J2.out.bad h)⟩
 |ok n r2=>
 rintro e w3⟨rfl,h3,h4⟩;rw[hx]at EQ2;have hn:=(Wr.upTo_le hx).2;have EQ3:=Lib.hid (show Wr.rplR l=(Wr.txs n r2).map λts=>(t1,ts)from EQ2.out);have J3:=Lib.hid (J2.out.step hb h3 h4 ((Wr.upTo_tail 1 16 r1).le hx));clear h3 h4 J2 EQ2 hx;have T3:=Lib.hid (txs_calls b n r2 w3 (J3.out.but.tabs HT.out h1w h1b) h1b J3.out.cur (Nat.le_trans J3.out.le hl) (by omega));go_wp2_with fail;refine T3.out.mono ?_;clear T3;cases hx:Wr.txs n r2 with
 |bad k=>rintro e w4⟨rfl,h⟩;rw[hx]at EQ3;exact⟨rfl,RPP.mkBad EQ3.out (J3.out.bad h)⟩
 |ok ts r3=>rintro e w4⟨v,rfl,h2,h3,h4⟩;rw[hx]at EQ3;have J4:=Lib.hid (J3.out.step hb h3 h4 ((Wr.txs_tail n r2).le hx));have hro:=J4.out.own;have hz3:=J3.out.but.size;have hz3':=J3.out.own.lt;have hv:=own_slice h2;have hv1:=ownN_one h2;have O1:=Lib.hid (ownN_row (S:=w.heap.size) h2 (pr t1 v).toArray (by omega));clear h2 h3 h4 J3 hx;go_wp2_with (first|(refine build_Reply (o:=⟨some 15,_,_,_,_,_⟩) rfl _ _ rfl t1 v (by obtain⟨a,c,h⟩:=hv;exact⟨a,_,c,h⟩) rfl rfl ?_)|(with_reducible refine store_cells (o:=⟨none,_,_,_,_,_⟩) rfl _ _ _ rfl w.heap.size pr0 (pr t1 v) rfl rfl hro (info_Reply.trans rfl) rfl (pr_one t1 hv1) ?_));obtain⟨T2,hT2⟩:=hro.setRow (pr t1 v);exact bodyPost_ret (v:=.agg (pr t1 v).toArray) (results_cell_row (fn:=Tryd.f35) rfl _ _ w.heap.size T2 _ (0,0) _ rfl hT2 underlying63 rfl (info_Reply.trans rfl)) rfl (RPP.mkOk (a:=(t1,ts)) EQ3.out (ownN_le O1.out hz3) (J4.out.cur.setOther (by omega) _) (J4.out.but.trans (But.of_below (below_setRow (Below.refl _ _) (Nat.le_refl _) _))))
def catchReply_idle(g h:Nat)(w:World):CallsD prog 69 #[.pointer (some ⟨g,0,none⟩),.pointer (some ⟨h,0,none⟩)] .returning w λe u' w'=>e=.returned (.tuple #[])/\u'=.returning/\w'=w:=by refine callsD_of_wpS func69 rfl λc₀ cs hu=>?_;simp only[ntmps69,List.size_toArray,List.length_cons,List.length_nil,Nat.reduceAdd,Nat.reduceSub,Array.replicate_succ,Array.replicate_zero,List.push_toArray,List.append_toArray,List.nil_append,List.cons_append];apply wpS_seq;apply wpS_region;simp[wpOpsS,go_sem,recoverD,hu,Exit.thenS];refine wpS_of_wp ?_;go_wp2_with fail;cases c₀;simp_all[bodyPostS,results,results69]
def catchReply_panicking(g h:Nat)(n m:Int)(l:List Value)(w:World)(hg:Row w g l)(hh:Row w h [.int .i64 m])(hl:l.length=2)(hne:g≠h):CallsD prog 69 #[.pointer (some ⟨g,0,none⟩),.pointer (some ⟨h,0,none⟩)] (.panicking (Fault n)) w λe u' w'=>e=.returned (.tuple #[])/\u'=.panicking [{v:=.iface 121 (.agg #[.int .i64 n]),recovered:=true}]/\Row w' g pr0/\Row w' h [.int .i64 n]/\Keep (λk=>k=g∨k=h) w w':=by
 refine callsD_of_wpS func69 rfl λc₀ cs hu=>?_;simp only[ntmps69,List.size_toArray,List.length_cons,List.length_nil,Nat.reduceAdd,Nat.reduceSub,Array.replicate_succ,Array.replicate_zero,List.push_toArray,List.append_toArray,List.nil_append,List.cons_append];apply wpS_seq;apply wpS_region;unfold Fault at hu;have hta:=ta_fault n;simp[wpOpsS,go_sem,recoverD,hu,Exit.thenS];refine wpS_of_wp ?_;have hzg:=hg.lt;have hzh:=hh.lt;have r1:Row ((w.alloc (.cells #[.int .i64 n] 121)).alloc (.cells #[.string (str []),.slice none 0 0] 63)) w.heap.size [.int .i64 n]:=(Row.new w [.int .i64 n] 121).alloc _;have r2:Row ((w.alloc (.cells #[.int .i64 n] 121)).alloc (.cells #[.string (str []),.slice none 0 0] 63)) (w.heap.size+1) pr0:=by have:=Row.new (w.alloc (.cells #[.int .i64 n] 121)) pr0 63;rw[World.size_alloc]at this;exact this
 have r3:Row ((w.alloc (.cells #[.int .i64 n] 121)).alloc (.cells #[.string (str []),.slice none 0 0] 63)) g l:=(hg.alloc _).alloc _;have r4:Row ((w.alloc (.cells #[.int .i64 n] 121)).alloc (.cells #[.string (str []),.slice none 0 0] 63)) h [.int .i64 m]:=(hh.alloc _).alloc _;have kk:Keep (λk=>k=g∨k=h) w ((w.alloc (.cells #[.int .i64 n] 121)).alloc (.cells #[.string (str []),.slice none 0 0] 63)):=((Keep.refl _ _).alloc _).alloc _;clear hg hh;go_wp2_with fail;generalize(w.alloc _).alloc _=w1 at r1 r2 r3 r4 kk|-;generalize w.heap.size=A at *;have hu:∀u:Reg.Of (λu=>Row u A [.int .i64 n]/\Row u (A+1) pr0),u.w.cell? ⟨A,0,none⟩=some (.int .i64 n):=λu=>u.h.1.cell 0;haveI hne':Nonempty (Reg.Of (λu=>Row u A [.int .i64 n]/\Row u (A+1) pr0)):=⟨⟨w1,r1,r2⟩⟩;refine Reg.startL [0,1,2] 2 mixed (by kernel_rfl) rfl rfl (λc a d v w h=>by cases d<;>exact h) (by as_aux_lemma=>kernel_rfl) rfl (λu=>Row u A [.int .i64 n]/\Row u (A+1) pr0) ⟨r1.drew,r2.drew⟩ ?_;show wpQuiet _ _ _ _ [_,_,_] _;refine wpQuiet_loadc (o:=⟨some 12,_,_,_,_,_⟩) rfl _ _ rfl (A+1) pr0 rfl (λw hw=>by obtain⟨u,rfl⟩:=hw;exact u.h.2) _ underlying63 (info_Reply.trans rfl) _ rfl ?_;go_frame;repeat(go_big_quiet_step (fail))
 refine wpQuiet_nil ?_;have r1:=r1.drew;have r2:=r2.drew;have r3:=r3.drew;have r4:=r4.drew;have kk:=kk.drew;generalize w1.drew=w2 at r1 r2 r3 r4 kk|-;refine Reg.one 3 _ (by kernel_rfl) rfl rfl ?_;refine store_cells rfl _ _ _ rfl g l pr0 rfl rfl r3 (info_Reply.trans rfl) (by rw[hl];rfl) (by decide +kernel) ?_;have s1:=r1.setOther (g:=g) (by omega) pr0.toArray;have s2:=r2.setOther (g:=g) (by omega) pr0.toArray;have s3:=r3.setRow pr0;have s4:=r4.setOther (g:=g) (Ne.symm hne) pr0.toArray;have kk:=kk.setRow g pr0.toArray (.inl rfl);generalize w2.setRow g _=w3 at s1 s2 s3 s4 kk|-;refine⟨Reg.cls_mk ⟨s1,s2⟩,?_⟩;refine Reg.one 4 _ (by kernel_rfl) rfl rfl ?_;have hz:=s4.free 0;have hc:=s4.cell 0;try go_frame
 go_wp2_with fail;refine⟨Reg.cls_mk ⟨s1.other (show h≠A by omega) _,s2.other (show h≠A+1 by omega) _⟩,?_⟩
 refine wpAnyH_done (by kernel_rfl) ?_ 0;go_wp2_with fail;refine⟨rfl,_,rfl,.tuple #[],results_none rfl _ _ _,rfl,rfl,s3.other (Ne.symm hne) _,s4.set 0 _,kk.set _ _ (.inr rfl)⟩
def readReply_calls(l:List UInt8)(w:World)(hT:Tabs w)(hl:l.length<=9223372036854775807):Calls prog 34 #[.string (str l),.func (.func 35) #[] #[]] w (RDP (Wr.readReply l) (λa=>a.1) 56 33 (λa=>a.2.length) (λa=>txsCells a.2) w):=by
 have hmf:=mk_fn;have h1w:=hT.lt;have HT:=Lib.hid hT;have EQ:=Lib.hid (show Wr.readReply l=(Wr.rplR l).bind λa r=>if r=[]then .ok a r else .bad 5 from rfl);have r1:Row (((w.alloc (.cells #[.string (str []),.slice none 0 0] 63)).alloc (.cells #[.int .i64 0] 27)).alloc (.cells #[.string (str l)] 100)) w.heap.size pr0:=((Row.new w pr0 63).alloc _).alloc _;have r2:Row (((w.alloc (.cells #[.string (str []),.slice none 0 0] 63)).alloc (.cells #[.int .i64 0] 27)).alloc (.cells #[.string (str l)] 100)) (w.heap.size+1) [.int .i64 0]:=by have:=Row.new (w.alloc (.cells pr0.toArray 63)) [.int .i64 0] 27;rw[World.size_alloc]at this;exact this.alloc _
 have r3:Row (((w.alloc (.cells #[.string (str []),.slice none 0 0] 63)).alloc (.cells #[.int .i64 0] 27)).alloc (.cells #[.string (str l)] 100)) (w.heap.size+2) [.string (str l)]:=by have:=Row.new ((w.alloc (.cells pr0.toArray 63)).alloc (.cells #[.int .i64 0] 27)) [.string (str l)] 100;rw[World.size_alloc,World.size_alloc]at this;exact this
 have hB:Below w.heap.size w (((w.alloc (.cells #[.string (str []),.slice none 0 0] 63)).alloc (.cells #[.int .i64 0] 27)).alloc (.cells #[.string (str l)] 100)):=(((Below.refl _ _).alloc (Nat.le_refl _) _).alloc (by simp) _).alloc (by simp;omega) _;clear hT;go_enter_defers func34,ntmps34;go_wp2_with fail;generalize((w.alloc _).alloc _).alloc _=w1 at r1 r2 r3 hB|-;have HB:=Lib.hid hB;have hz:=hB.size;have hz3:=r3.lt;have R1:=Lib.hid r1;have R2:=Lib.hid r2;have T1:=Lib.hid (Reply1_calls (w.heap.size+2) l w1 (HT.out.below hB h1w) (by omega) r3 hl)
 clear r1 r2 r3 hB;refine T1.out.mono ?_;clear T1;cases hx:Wr.rplR l with
 |bad n=>rintro e w2⟨rfl,h⟩;rw[hx]at EQ;have H1:=h.row R1.out R1.out.lt (by omega);have H2:=h.row R2.out R2.out.lt (by omega);refine leaves_cons (f:=69) (args:=#[.pointer (some ⟨w.heap.size,0,none⟩),.pointer (some ⟨w.heap.size+1,0,none⟩)]) (by simp) (by simp[go_sem]) ?_;refine(catchReply_panicking w.heap.size (w.heap.size+1) n 0 pr0 w2 H1 H2 rfl (by omega)).mono ?_;rintro e u' w3⟨rfl,rfl,h5,h6,h7⟩;refine⟨_,results_c2 rfl _ _ w.heap.size (w.heap.size+1) pr0 n rfl rfl h5 h6 _ underlying63 (info_Reply.trans rfl),?_⟩;exact RDP.mkBad EQ.out (HB.out.trans ⟨h7.os.trans h.os,h7.tape.trans h.tape,h7.output.trans h.output,Nat.le_trans h.size h7.size,λk hk=>(h7.block k (by have:=h.size;omega) (by omega)).trans (h.block k (by omega) (by omega))⟩)
 |ok t r=>
 rintro e w2⟨v,rfl,ho,h3,h⟩;rw[hx]at EQ;have EQ2:=Lib.hid (show Wr.readReply l=if r=[]then .ok t r else .bad 5 from EQ.out);have H1:=h.row R1.out R1.out.lt (by omega);have H2:=h.row R2.out R2.out.lt (by omega);have hz2:=h.size;have hv1:=ownN_one ho;have B2:=Lib.hid (show Below w.heap.size w w2 from HB.out.trans ⟨h.os,h.tape,h.output,h.size,λk hk=>h.block k (by omega) (by omega)⟩);have S1:=Lib.hid (H1.setRow (pr t.1 v));have S2:=Lib.hid (H2.setOther (g:=w.heap.size) (by omega) (pr t.1 v).toArray);have S3:=Lib.hid (h3.setOther (g:=w.heap.size) (by omega) (pr t.1 v).toArray);have B3:=Lib.hid (below_setRow B2.out (Nat.le_refl _) (pr t.1 v).toArray);have O3:=Lib.hid (ownN_row (S:=w.heap.size) ho (pr t.1 v).toArray (by omega));clear EQ h h3 H2 R1 R2 HB hx ho;go_wp2_with (with_reducible refine store_cells (o:=⟨none,_,_,_,_,_⟩) rfl _ _ _ rfl w.heap.size pr0 (pr t.1 v) rfl rfl H1 (info_Reply.trans rfl) rfl (pr_one t.1 hv1) ?_);clear H1;generalize w2.setRow _ _=w3 at S1 S2 S3 B3 O3|-;refine(end_calls (w.heap.size+2) r w3 S3.out).mono ?_;by_cases hr:r=[]
 ·simp only[if_pos hr];rintro e w4⟨rfl,rfl⟩;have hro:=S1.out;have S4:=Lib.hid (S2.out.setOther (g:=w.heap.size) (by omega) (pr t.1 v).toArray);have S5:=Lib.hid (S1.out.setRow (pr t.1 v));have B5:=Lib.hid (below_setRow B3.out (Nat.le_refl _) (pr t.1 v).toArray);have O5:=Lib.hid (ownN_row (S:=w.heap.size) O3.out (pr t.1 v).toArray (by omega));have hz5:=S4.out.free 0;have hc5:=S4.out.cell 0;go_wp2_with (first|(refine load_cells (o:=⟨some 19,_,_,_,_,_⟩) rfl _ _ rfl w.heap.size (pr t.1 v) rfl hro _ underlying63 (info_Reply.trans rfl) _ rfl ?_)|(with_reducible refine store_cells (o:=⟨none,_,_,_,_,_⟩) rfl _ _ _ rfl w.heap.size (pr t.1 v) (pr t.1 v) rfl rfl hro (info_Reply.trans rfl) rfl (pr_one t.1 hv1) ?_));refine leaves_cons (f:=69) (args:=#[.pointer (some ⟨w.heap.size,0,none⟩),.pointer (some ⟨w.heap.size+1,0,none⟩)]) (by simp) (by simp[go_sem]) ?_;refine(catchReply_idle w.heap.size (w.heap.size+1) _).mono ?_;rintro e u' w5⟨rfl,rfl,rfl⟩;refine⟨_,results_c2 rfl _ _ w.heap.size (w.heap.size+1) (pr t.1 v) 0 rfl rfl (S5.out.other (show w.heap.size+1≠w.heap.size by omega) _) (S4.out.set 0 _) _ underlying63 (info_Reply.trans rfl),?_⟩;exact RDP.mkOk (EQ2.out.trans (if_pos hr)) (ownN_le (ownN_cell O5.out _ (by show w.heap.size+1<_;omega)) hz) (B5.out.setCell (show w.heap.size<=w.heap.size+1 by omega) _)
 simp only[if_neg hr];rintro e w4⟨rfl,rfl⟩;refine leaves_cons (f:=69) (args:=#[.pointer (some ⟨w.heap.size,0,none⟩),.pointer (some ⟨w.heap.size+1,0,none⟩)]) (by simp) (by simp[go_sem]) ?_;refine(catchReply_panicking w.heap.size (w.heap.size+1) 5 0 (pr t.1 v) w4 S1.out S2.out rfl (by omega)).mono ?_;rintro e u' w5⟨rfl,rfl,h5,h6,h7⟩;refine⟨_,results_c2 rfl _ _ w.heap.size (w.heap.size+1) pr0 5 rfl rfl h5 h6 _ underlying63 (info_Reply.trans rfl),?_⟩;exact RDP.mkBad (k:=5) (EQ2.out.trans (if_neg hr)) (B3.out.trans ⟨h7.os,h7.tape,h7.output,h7.size,λk hk=>h7.block k (by have:=B3.out.size;omega) (by omega)⟩)
def wreadReply_calls(l:List UInt8)(w:World)(hT:Tabs w)(hl:l.length<=9223372036854775807):Calls prog 19 #[.string (str l)] w (RDP (Wr.readReply l) (λa=>a.1) 56 33 (λa=>a.2.length) (λa=>txsCells a.2) w):=by
 have h1w:=hT.lt;have r1:Row (w.alloc (.cells #[.string (str []),.slice none 0 0] 63)) w.heap.size pr0:=Row.new w pr0 63;have hB:Below w.heap.size w (w.alloc (.cells #[.string (str []),.slice none 0 0] 63)):=(Below.refl _ _).alloc (Nat.le_refl _) _;go_enter func19,ntmps19;go_wp2_with fail;generalize w.alloc _=w1 at r1 hB|-;have HB:=Lib.hid hB;have R1:=Lib.hid r1;have hz:=r1.lt;have T1:=Lib.hid (readReply_calls l w1 (hT.below hB h1w) hl);clear hT hB r1;refine T1.out.mono ?_;clear T1;cases hx:Wr.readReply l with
 |bad n=>have EQ:=Lib.hid hx;clear hx;rintro e w2⟨rfl,h2⟩;have H1:=R1.out.below h2 hz;have B2:=Lib.hid (HB.out.trans (h2.mono (by omega)));have S1:=Lib.hid (H1.setRow pr0);have B3:=Lib.hid (below_setRow B2.out (Nat.le_refl _) pr0.toArray);clear h2 R1 HB;go_wp2_with (with_reducible refine store_cells (o:=⟨none,_,_,_,_,_⟩) rfl _ _ _ rfl w.heap.size pr0 pr0 rfl rfl H1 (info_Reply.trans rfl) rfl (by decide +kernel) ?_);exact bodyPost_ret (v:=.tuple #[.agg pr0.toArray,.int .i64 n]) (results_c1 rfl _ _ w.heap.size pr0 (.int .i64 n) rfl rfl S1.out _ underlying63 (info_Reply.trans rfl)) rfl (RDP.mkBad EQ.out B3.out)
 |ok t r=>have EQ:=Lib.hid hx;clear hx;rintro e w2⟨v,rfl,ho,h2⟩;have hv1:=ownN_one ho;have H1:=R1.out.below h2 hz;have B2:=Lib.hid (HB.out.trans (h2.mono (by omega)));have S1:=Lib.hid (H1.setRow (pr t.1 v));have B3:=Lib.hid (below_setRow B2.out (Nat.le_refl _) (pr t.1 v).toArray);have O3:=Lib.hid (ownN_row (S:=w.heap.size) ho (pr t.1 v).toArray (by omega));clear h2 R1 HB ho;go_wp2_with (with_reducible refine store_cells (o:=⟨none,_,_,_,_,_⟩) rfl _ _ _ rfl w.heap.size pr0 (pr t.1 v) rfl rfl H1 (info_Reply.trans rfl) rfl (pr_one t.1 hv1) ?_);exact bodyPost_ret (v:=.tuple #[.agg (pr t.1 v).toArray,.int .i64 0]) (results_c1 rfl _ _ w.heap.size (pr t.1 v) (.int .i64 0) rfl rfl S1.out _ underlying63 (info_Reply.trans rfl)) rfl (RDP.mkOk EQ.out (ownN_le O3.out (by omega)) B3.out)
end
