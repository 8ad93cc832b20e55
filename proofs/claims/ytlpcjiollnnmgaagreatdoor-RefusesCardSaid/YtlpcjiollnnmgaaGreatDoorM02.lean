import Derived.Test.YtlpcjiollnnmgaaGreatDoorM01
set_option maxRecDepth 100000
set_option maxHeartbeats 8000000
set_option linter.all false
namespace Go.Proofs.YtlpcjiollnnmgaaGreatDoor
open Go.Proofs.Tryz
namespace Ph
open Nums
open Go.RowKit
abbrev By:=List UInt8
def grp(f:By->By)(got:List By)(s:By):List By:=got.reverse.filter λt=>f t==s
def pairV(p:By×Value):Value×Value:=(.string (str p.1),p.2)
def Outs(w:World)(B m:Nat)(f:By->By)(got:List By):Prop:=∃(es:Array MapEntry)(clock:Nat)(K:List (By×Value)),w.heap[m]? =some (.map es clock)/\es.toList.map (λe=>(e.key,e.val))=K.map pairV/\(K.map (·.1)).Nodup/\(∀s,s∈K.map (·.1)↔ ∃t∈got,f t=s)/\(∀p∈K,w.ownsRow B 69 33 p.2 (grp f got p.1).length (txsCells (grp f got p.1)))/\∀(i j:Nat)(p q:By×Value),K[i]? =some p->K[j]? =some q->i≠j->p.2.ownBlock≠q.2.ownBlock
def fnd:List (By×Value)->By->Nat->Option (Nat×Value)
 |[],_,_=>none|p::K,s,i=>if p.1=s then some (i,p.2)else fnd K s (i+1)
def str_beq(a b:By):(str a==str b)=decide (a=b):=by rw[beq_toListBytes,str_toList,str_toList,Bool.eq_iff_iff,beq_iff_eq,decide_eq_true_eq]
theorem findNow_str:∀(es:List MapEntry)(K:List (By×Value)),es.map (λe=>(e.key,e.val))=K.map pairV->∀(s:By)(i:Nat),Instr.findNow .string (.string (str s)) es i=some (fnd K s i)
 |[],[],_,s,i=>rfl|[],p::K,h,_,_=>by simp at h|e::es,[],h,_,_=>by simp at h|e::es,p::K,h,s,i=>by simp only[List.map_cons,List.cons.injEq]at h;obtain⟨h1,h2⟩:=h;have hk:e.key=.string (str p.1):=(Prod.mk.inj h1).1;have hv:e.val=p.2:=(Prod.mk.inj h1).2;unfold Instr.findNow fnd;rw[hk];unfold Instr.sameNow;dsimp only;rw[str_beq];by_cases hs:p.1=s;rw[if_pos hs];rw[show decide (s=p.1)=true from by simp[hs],hv];rw[if_neg hs];rw[show decide (s=p.1)=false from by simp;exact λe=>hs e.symm];exact findNow_str es K h2 s (i+1)
theorem fnd_none:∀ {K:List (By×Value)}{s:By}{i:Nat},fnd K s i=none->s∉K.map (·.1)
 |[],_,_,_=>by simp|p::K,s,i,h=>by unfold fnd at h;split at h;cases h;rename_i hs;have:=fnd_none h;simp only[List.map_cons,List.mem_cons,not_or];exact⟨λe=>hs e.symm,this⟩
theorem fnd_some:∀ {K:List (By×Value)}{s:By}{i j:Nat}{v:Value},fnd K s i=some (j,v)->∃k,j=i+k/\K[k]? =some (s,v)
 |[],_,_,_,_,h=>by cases h
 |p::K,s,i,j,v,h=>by unfold fnd at h;split at h;rename_i hs;cases h;exact⟨0,rfl,by subst hs;rfl⟩;obtain⟨k,h1,h2⟩:=fnd_some h;exact⟨k+1,by omega,by simpa using h2⟩
def val0(K:List (By×Value))(s:By):Value:=match fnd K s 0 with
 |some (_,v)=>v
 |none=>.slice none 0 0
def upd0(K:List (By×Value))(s:By)(v:Value):List (By×Value):=match fnd K s 0 with
 |some (i,_)=>K.set i (s,v)
 |none=>K++[(s,v)]
section
variable{w:World}{m clock:Nat}{es:Array MapEntry}{K:List (By×Value)}
def run_getObj'{P}(h:w.heap[m]? =some (.map es clock)):(getObj m).run P w=.ok (.map es clock) w:=by simp[getObj,Sem.run,h]
def zeroTxs:(zeroValue 38).run prog w=.ok (.slice none 0 0) w:=by kernel_rfl
def look_run(h:w.heap[m]? =some (.map es clock))(hk:es.toList.map (λe=>(e.key,e.val))=K.map pairV)(s:By):(Instr.lookup 90 (.map (some m)) (.string (str s)) false).run prog w=.ok (val0 K s) w:=by unfold Instr.lookup;have h1:=underlying90;have hc:(Instr.checkKey es.isEmpty (9999+1) 9 (.string (str s))).run prog w=.ok () w:=MapKept.run_checkKey underlying9 (by trivial) _ _;have hf:(Instr.findKey 9 (.string (str s)) es.toList).run prog w=.ok (fnd K s 0) w:=MapKept.run_findKey underlying9 (findNow_str es.toList K hk s 0);simp only[Sem.run_bind,run_underlying h1,Result.andThen_ok,run_getObj' h,Sem.run_pure,hc,hf];unfold val0;cases fnd K s 0 with|none=>simp only[Sem.run_bind,zeroTxs,Result.andThen_ok,Sem.run_pure];rfl|some p=>obtain⟨i,v⟩:=p;simp only[Sem.run_pure,Result.andThen_ok];rfl
def modify_set(es:Array MapEntry) i k v:(es.modify i λe=>{e with key:=k,val:=v}).toList.map (λe=>(e.key,e.val))=(es.toList.map λe=>(e.key,e.val)).set i (k,v):=by apply List.ext_getElem?;intro j;rw[List.getElem?_map,Array.getElem?_toList,Array.getElem?_modify,List.getElem?_set];by_cases hij:i=j;subst hij;rw[if_pos rfl,if_pos rfl];by_cases hi:i<es.size;rw[Array.getElem?_eq_getElem hi,if_pos (by simpa using hi)];rfl;rw[Array.getElem?_eq_none (by omega),if_neg (by simpa using hi)];rfl;rw[if_neg hij,if_neg hij,List.getElem?_map,Array.getElem?_toList]
def upd_run(h:w.heap[m]? =some (.map es clock))(hk:es.toList.map (λe=>(e.key,e.val))=K.map pairV)(s:By)(v:Value):∃es' clock',(Instr.mapUpdate 90 (.map (some m)) (.string (str s)) v).run prog w=.ok () {w with heap:=w.heap.setIfInBounds m (.map es' clock')}/\es'.toList.map (λe=>(e.key,e.val))=(upd0 K s v).map pairV:=by
 have h1:=underlying90;have hc:(Instr.checkKey false (9999+1) 9 (.string (str s))).run prog w=.ok () w:=MapKept.run_checkKey underlying9 (by trivial) _ _;have hf:(Instr.findKey 9 (.string (str s)) es.toList).run prog w=.ok (fnd K s 0) w:=MapKept.run_findKey underlying9 (findNow_str es.toList K hk s 0);cases hF:fnd K s 0 with
 |none=>refine⟨es.push {key:=.string (str s),val:=v,born:=clock},clock+1,?_,?_⟩;unfold Instr.mapUpdate;rw[hF]at hf;simp only[Sem.run_bind,run_underlying h1,Result.andThen_ok,run_getObj' h,Sem.run_pure,hc,hf];exact MapKept.run_setObj_map _ h;unfold upd0;rw[hF,Array.toList_push,List.map_append,hk,List.map_append];rfl|some p=>
 obtain⟨i,v0⟩:=p;obtain⟨k,hi,hK⟩:=fnd_some hF;rw[Nat.zero_add]at hi;subst hi;have hes:∃e,es[i]? =some e/\e.key=.string (str s):=by
  have:(es.toList.map λe=>(e.key,e.val))[i]? =(K.map pairV)[i]?:=by rw[hk]
  rw[List.getElem?_map,List.getElem?_map,hK,Array.getElem?_toList]at this;obtain⟨e,he,hp⟩:=Option.map_eq_some_iff.1 this;exact⟨e,he,(Prod.mk.inj hp).1⟩
 obtain⟨e,he,hkey⟩:=hes;have hkt:(Instr.keyThatStays (((es[i]?).map (·.key)).getD (.string (str s))) (.string (str s))).run prog w=.ok (.string (str s)) w:=by rw[he];simp only[Option.map_some,Option.getD_some,hkey];unfold Instr.keyThatStays;rw[if_pos (by simp[Instr.sameBits,beq_toListBytes])];rfl
 refine⟨es.modify i λe=>{e with key:=.string (str s),val:=v},clock,?_,?_⟩;unfold Instr.mapUpdate;rw[hF]at hf;simp only[Sem.run_bind,run_underlying h1,Result.andThen_ok,run_getObj' h,Sem.run_pure,hc,hf,hkt];exact MapKept.run_setObj_map _ h;unfold upd0;rw[hF,modify_set,hk,List.map_set];rfl
def grp_same f got t:grp f (t::got) (f t)=grp f got (f t)++[t]:=by unfold grp;rw[List.reverse_cons,List.filter_append];simp
def grp_other{f got t s}(h:f t≠s):grp f (t::got) s=grp f got s:=by unfold grp;rw[List.reverse_cons,List.filter_append];simp[h]
def grp_none{f got s}(h:¬∃t∈got,f t=s):grp f got s=[]:=by unfold grp;rw[List.filter_eq_nil_iff];intro t ht;simp only[List.mem_reverse]at ht;simp only[beq_iff_eq];exact λe=>h ⟨t,ht,e⟩
def txsCells_snoc(ts:List By)(t:By):txsCells (ts++[t])=txsCells ts++txCells t:=by unfold txsCells;simp
def own_set_map{w:World}{B m e z n v xs es clock}(h:w.ownsRow B e z v n xs)(hm:w.heap[m]? =some (.map es clock)) o:({w with heap:=w.heap.setIfInBounds m o}:World).ownsRow B e z v n xs:=by refine⟨h.1,h.2.imp id λ⟨g,cap,cur,h1,h2,h3,h4⟩=>⟨g,cap,cur,h1,h2,?_,h4⟩⟩;show(w.heap.setIfInBounds m o)[g]? =_;rw[Array.getElem?_setIfInBounds_ne];exact h3;rintro rfl;rw[hm]at h3;cases h3
def own_some{w:World}{B e z n:Nat}{v:Value}{xs:List Value}(h:w.ownsRow B e z v n xs)(hn:0<n):∃g,v.ownBlock=some g:=by rcases h.2 with⟨_,h0⟩|⟨g,cap,cur,rfl,_⟩;omega;exact⟨g,rfl⟩
structure Slot(w:World)(B m:Nat)(f:By->By)(got:List By)(s:By)(es:Array MapEntry)(clock:Nat)(K:List (By×Value)):Prop where
 at_:w.heap[m]? =some (.map es clock)
 key:es.toList.map (λe=>(e.key,e.val))=K.map pairV
 nodup:(K.map (·.1)).Nodup
 mem:∀s,s∈K.map (·.1)↔ ∃t∈got,f t=s
 rows:∀p∈K,w.ownsRow B 69 33 p.2 (grp f got p.1).length (txsCells (grp f got p.1))
 dist:∀(i j:Nat)(p q:By×Value),K[i]? =some p->K[j]? =some q->i≠j->p.2.ownBlock≠q.2.ownBlock
 own:w.ownsRow B 69 33 (val0 K s) (grp f got s).length (txsCells (grp f got s))
def Slot.below{w w' B C m f got s es clock K}(h:Slot w B m f got s es clock K)(hb:Below C w w')(hC:w.heap.size<=C):Slot w' B m f got s es clock K:=⟨(hb.block m (Nat.lt_of_lt_of_le (Array.getElem?_eq_some_iff.1 h.at_).1 hC)).trans h.at_,h.key,h.nodup,h.mem,λp hp=>ownN_below (h.rows p hp) hb hC,h.dist,ownN_below h.own hb hC⟩
def Outs.slot{w B m f got}(h:Outs w B m f got) s:∃es clock K,Slot w B m f got s es clock K:=by obtain⟨es,clock,K,h1,h2,h3,h4,h5,h6⟩:=h;refine⟨es,clock,K,h1,h2,h3,h4,h5,h6,?_⟩;unfold val0;cases hF:fnd K s 0 with|none=>rw[grp_none (λhx=>fnd_none hF ((h4 s).2 hx))];exact World.ownsRow_nil _ _ _ _|some p=>obtain⟨i,v⟩:=p;obtain⟨k,_,hK⟩:=fnd_some hF;exact h5 _ (List.mem_of_getElem? hK)
def Outs.nil w B m f(h:w.heap[m]? =some (.map #[] 0)):Outs w B m f []:=⟨#[],0,[],h,rfl,by simp,(λs=>by simp),(λp hp=>by cases hp),λi j p q hp=>by simp at hp⟩
def Slot.put{w w1:World}{B m:Nat}{f:By->By}{got:List By}{t:By}{es es':Array MapEntry}{clock clock':Nat}{K:List (By×Value)}(h:Slot w B m f got (f t) es clock K){v1:Value}(hg:w.grownBy w1 (val0 K (f t)).ownBlock) (hv:w1.ownsRow B 69 33 v1 ((grp f got (f t)).length+1) (txsCells (grp f got (f t))++txCells t)) (hb:v1.ownBlock=(val0 K (f t)).ownBlock∨∃g,v1.ownBlock=some g/\w.heap.size<=g) (hes:es'.toList.map (λe=>(e.key,e.val))=(upd0 K (f t) v1).map pairV):Outs {w1 with heap:=w1.heap.setIfInBounds m (.map es' clock')} B m f (t::got):=by
 have hmlt:m<w.heap.size:=(Array.getElem?_eq_some_iff.1 h.at_).1;have hm1:w1.heap[m]? =some (.map es clock):=by
  rw[hg.block m hmlt];exact h.at_;intro e;rcases h.own.2 with⟨h0,_⟩|⟨g,cap,cur,hg',_,hc,_⟩;rw[h0]at e;cases e;rw[hg']at e;have:m=g:=by have:=e.symm;exact(Option.some.inj this).symm
  subst this;rw[h.at_]at hc;cases hc
 have hm1lt:m<w1.heap.size:=(Array.getElem?_eq_some_iff.1 hm1).1;have hsz:∀p∈K,∃g,p.2.ownBlock=some g/\g<w.heap.size:=λp hp=>by obtain⟨t',ht',e⟩:=(h.mem p.1).1 (List.mem_map_of_mem hp);have hn:0< (grp f got p.1).length:=List.length_pos_of_mem (a:=t') (by unfold grp;simp[ht',e]);obtain⟨g,hg'⟩:=own_some (h.rows p hp) hn;exact⟨g,hg',((h.rows p hp).lt g hg').2⟩
 have hkeep:∀p∈K,p.1≠f t->w1.ownsRow B 69 33 p.2 (grp f (t::got) p.1).length (txsCells (grp f (t::got) p.1)):=λp hp hne=>by
  rw[grp_other (λe=>hne e.symm)];refine(h.rows p hp).kept hg (.inr ?_);obtain⟨g,hg',_⟩:=hsz p hp;unfold val0;cases hF:fnd K (f t) 0 with
  |none=>rw[hg'];exact λe=>by cases e
  |some q=>obtain⟨i,v⟩:=q;obtain⟨k,_,hK⟩:=fnd_some hF;obtain⟨j,hj⟩:=List.getElem?_of_mem hp;refine h.dist j k p _ hj hK λe=>?_;subst e;rw[hj]at hK;exact hne (by rw[Option.some.inj hK])
 have hnew:w1.ownsRow B 69 33 v1 (grp f (t::got) (f t)).length (txsCells (grp f (t::got) (f t))):=by rw[grp_same,List.length_append,txsCells_snoc];exact hv
 obtain⟨g1,hg1⟩:=own_some hv (by omega);cases hF:fnd K (f t) 0 with
 |none=>
 have hU:upd0 K (f t) v1=K++[(f t,v1)]:=by unfold upd0;rw[hF]
 have hV:val0 K (f t)=.slice none 0 0:=by unfold val0;rw[hF]
 have hfresh:w.heap.size<=g1:=by rcases hb with e|⟨g,e,hle⟩;rw[hV,hg1]at e;cases e;rw[hg1]at e;rw[Option.some.inj e];exact hle
 have hnm:=fnd_none hF;rw[hU]at hes;refine⟨es',clock',_,Array.getElem?_setIfInBounds_self_of_lt hm1lt,hes,?_,λs=>?_,λp hp=>own_set_map ?_ hm1 _,λi j p q hp hq hij=>?_⟩;rw[List.map_append,List.nodup_append];exact⟨h.nodup,by simp,λa ha b hb' e=>by simp only[List.map_cons,List.map_nil,List.mem_singleton]at hb';subst hb';subst e;exact hnm ha⟩;rw[List.map_append,List.mem_append,h.mem s];simp only[List.map_cons,List.map_nil,List.mem_singleton,List.mem_cons,List.not_mem_nil,or_false];constructor;rintro(⟨t',h1,h2⟩|rfl);exact⟨t',.inr h1,h2⟩;exact⟨t,.inl rfl,rfl⟩;rintro⟨t',rfl|h1,h2⟩;exact .inr h2.symm;exact .inl ⟨t',h1,h2⟩;rcases List.mem_append.1 hp with hp|hp;exact hkeep p hp λe=>hnm (by rw[<-e];exact List.mem_map_of_mem hp);rw[List.mem_singleton]at hp;subst hp;exact hnew;have hget:∀(i:Nat) p,(K++[(f t,v1)])[i]? =some p->(∃g,i<K.length/\K[i]? =some p/\p.2.ownBlock=some g/\g<w.heap.size)∨(i=K.length/\p=(f t,v1)):=λi p hp=>by
  rw[List.getElem?_append]at hp;split at hp;rename_i hlt;obtain⟨g,h1,h2⟩:=hsz p (List.mem_of_getElem? hp);exact .inl ⟨g,hlt,hp,h1,h2⟩;rename_i hge;have:i-K.length=0:=by rcases Nat.eq_zero_or_pos (i-K.length)with h0|h0;exact h0;rw[List.getElem?_eq_none (by simp;omega)]at hp;cases hp
  rw[this]at hp;exact .inr ⟨by omega,(Option.some.inj hp).symm⟩
 rcases hget i p hp with⟨g,a1,a2,a3,a4⟩|⟨a1,rfl⟩<;>rcases hget j q hq with⟨g',b1,b2,b3,b4⟩|⟨b1,rfl⟩;exact h.dist i j p q a2 b2 hij;rw[a3,hg1];intro e;have:=Option.some.inj e;omega;rw[b3,hg1];intro e;have:=Option.some.inj e;omega;omega
 |some q0=>
 obtain⟨k,v0⟩:=q0;obtain⟨k',hk',hK⟩:=fnd_some hF;rw[Nat.zero_add]at hk';subst hk';have hU:upd0 K (f t) v1=K.set k (f t,v1):=by unfold upd0;rw[hF]
 have hV:val0 K (f t)=v0:=by unfold val0;rw[hF]
 have hkl:k<K.length:=(List.getElem?_eq_some_iff.1 hK).1;rw[hU]at hes;have hmap:(K.set k (f t,v1)).map (·.1)=K.map (·.1):=by rw[List.map_set];apply List.ext_getElem?;intro j;by_cases hj:k=j;subst hj;rw[List.getElem?_set_self (by simpa using hkl),List.getElem?_map,hK];rfl;rw[List.getElem?_set_ne hj]
 have hget:∀(i:Nat) p,(K.set k (f t,v1))[i]? =some p->(i≠k/\K[i]? =some p)∨(i=k/\p=(f t,v1)):=λi p hp=>by by_cases hik:i=k;subst hik;rw[List.getElem?_set_self hkl]at hp;exact .inr ⟨rfl,(Option.some.inj hp).symm⟩;rw[List.getElem?_set_ne (Ne.symm hik)]at hp;exact .inl ⟨hik,hp⟩
 have hne1:∀(i:Nat) p,i≠k->K[i]? =some p->p.2.ownBlock≠v1.ownBlock:=λi p hik hp=>by rcases hb with e|⟨g,e,hle⟩;rw[e,hV];exact h.dist i k p _ hp hK hik;obtain⟨g',h1,h2⟩:=hsz p (List.mem_of_getElem? hp);rw[h1,e];intro e';have:=Option.some.inj e';omega
 refine⟨es',clock',_,Array.getElem?_setIfInBounds_self_of_lt hm1lt,hes,by rw[hmap];exact h.nodup,λs=>?_,λp hp=>own_set_map ?_ hm1 _,λi j p q hp hq hij=>?_⟩;rw[hmap,h.mem s];constructor;rintro⟨t',h1,h2⟩;exact⟨t',List.mem_cons_of_mem _ h1,h2⟩;rintro⟨t',h1,h2⟩;rcases List.mem_cons.1 h1 with rfl|h1;exact(h.mem s).1 (by rw[<-h2];exact List.mem_map_of_mem (List.mem_of_getElem? hK));exact⟨t',h1,h2⟩;obtain⟨i,hi⟩:=List.getElem?_of_mem hp;rcases hget i p hi with⟨hik,hi'⟩|⟨_,rfl⟩;refine hkeep p (List.mem_of_getElem? hi') λe=>hik ?_;have h1:(K.map (·.1))[i]? =some (f t):=by rw[List.getElem?_map,hi',<-e];rfl
 have h2:(K.map (·.1))[k]? =some (f t):=by rw[List.getElem?_map,hK];rfl
 have hil:i< (K.map (·.1)).length:=(List.getElem?_eq_some_iff.1 h1).1;exact(List.getElem?_inj hil h.nodup).1 (h1.trans h2.symm);exact hnew;rcases hget i p hp with⟨a1,a2⟩|⟨a1,rfl⟩<;>rcases hget j q hq with⟨b1,b2⟩|⟨b1,rfl⟩;exact h.dist i j p q a2 b2 hij;exact hne1 i p a1 a2;exact(hne1 j q b1 b2).symm;omega
end
end Ph
section
open Nums
namespace Cp
open Wr En
structure SentOK(n:Nat)(sent:List (Nat×B)):Prop where
 up:(sent.map (·.1)).Pairwise (· < ·)
 lt:∀p∈sent,p.1<n
 full:∀p∈sent,p.2≠ []/\p.2.length<=610
def lookup_mem{sent:List (Nat×B)}{i t}(h:sent.lookup i=some t):(i,t)∈sent:=by
 induction sent with
 |nil=>cases h
 |cons p l ih=>
 obtain⟨a,b⟩:=p;rw[List.lookup_cons]at h;split at h;rename_i he;have:i=a:=by simpa using he
 cases h;subst this;exact List.mem_cons_self;exact List.mem_cons_of_mem _ (ih h)
def lookup_none{sent:List (Nat×B)}{i}(h:sent.lookup i=none):∀p∈sent,p.1≠i:=by
 induction sent with
 |nil=>intro p hp;cases hp
 |cons q l ih=>obtain⟨a,b⟩:=q;rw[List.lookup_cons]at h;split at h;cases h;rename_i he;intro p hp;rcases List.mem_cons.1 hp with rfl|hp;intro e;exact absurd e.symm (by simpa using he);exact ih h p hp
def cnt(sent:List (Nat×B))(i:Nat):Nat:=(sent.filter λp=>decide (p.1<i)).length
def cnt_zero sent:cnt sent 0=0:=by unfold cnt;rw[List.length_eq_zero_iff,List.filter_eq_nil_iff];simp
theorem cnt_some:∀ {sent:List (Nat×B)}{i:Nat}{t:B},(sent.map (·.1)).Pairwise (· < ·)->sent.lookup i=some t->cnt sent (i+1)=cnt sent i+1
 |[],i,t,_,h=>by cases h
 |(a,b)::l,i,t,hup,h=>by
  simp only[List.map_cons,List.pairwise_cons]at hup;obtain⟨h1,h2⟩:=hup;rw[List.lookup_cons]at h;unfold cnt;split at h;rename_i he;have hia:i=a:=by simpa using he
  subst hia;have e:∀k,k<=i+1->(l.filter λp=>decide (p.1<k))=[]:=λk hk=>by rw[List.filter_eq_nil_iff];intro p hp;have:=h1 p.1 (List.mem_map.2 ⟨p,hp,rfl⟩);simp;omega
  rw[List.filter_cons_of_pos (by simp),List.filter_cons_of_neg (by simp),e (i+1) (by omega),e i (by omega)];rfl;have ih:=cnt_some h2 h;unfold cnt at ih;by_cases ha:a<i;rw[List.filter_cons_of_pos (by simp;omega),List.filter_cons_of_pos (by simpa using ha),List.length_cons,List.length_cons,ih];have hm:=lookup_mem h;have:=h1 i (List.mem_map.2 ⟨_,hm,rfl⟩);omega
def cnt_none{sent i}(h:sent.lookup i=none):cnt sent (i+1)=cnt sent i:=by unfold cnt;congr 1;refine List.filter_congr λp hp=>?_;have:=lookup_none h p hp;simp only[decide_eq_decide];omega
theorem up_len:∀(l:List Nat)(a b),l.Pairwise (· < ·)->(∀x∈l,a<=x/\x<b)->l.length<=b-a
 |[],_,_,_,_=>Nat.zero_le _|x::l,a,b,h,hb=>by rw[List.pairwise_cons]at h;have h1:=hb x List.mem_cons_self;have h2:=up_len l (x+1) b h.2 λy hy=>⟨h.1 y hy,(hb y (List.mem_cons_of_mem _ hy)).2⟩;rw[List.length_cons];omega
theorem flen{α:Type}(p:α->Bool):∀l:List α,l.length=(l.filter p).length+(l.filter λx=> !p x).length
 |[]=>rfl|x::l=>by have ih:=flen p l;cases h:p x;rw[List.filter_cons_of_neg (by simp[h]),List.filter_cons_of_pos (by simp[h]),List.length_cons,List.length_cons];omega;rw[List.filter_cons_of_pos (by simp[h]),List.filter_cons_of_neg (by simp[h]),List.length_cons,List.length_cons];omega
def cnt_ge{n sent}(h:SentOK n sent){i}(hn:sent.lookup i=none):sent.length<=cnt sent i+(n-(i+1)):=by
 have hz:((sent.filter λp=> !decide (p.1<i)).map (·.1)).length<=n-(i+1):=by
  refine up_len _ _ _ (h.up.sublist (List.filter_sublist.map _)) λx hx=>?_;obtain⟨p,hp,rfl⟩:=List.mem_map.1 hx;obtain⟨hp1,hp2⟩:=List.mem_filter.1 hp;have:=lookup_none hn p hp1;have h3:¬p.1<i:=by simpa using hp2
  exact⟨by omega,h.lt p hp1⟩
 have:=flen (λp:Nat×B=>decide (p.1<i)) sent;rw[List.length_map]at hz;unfold cnt;omega
structure FI(f:B->B)(P:List B)(sent:List (Nat×B))(shorts:List B)(n i:Nat)(L:List B)(ms:List Nat)(nx:Nat):Prop where
 len:L.length=n
 ahead:∀j,i<=j->j<n->L.getD j []=(sent.lookup j).getD []
 res:fill f P sent n 0 shorts=(L.take i++(fill f P sent (n-i) i (shorts.drop nx)).1,ms++(fill f P sent (n-i) i (shorts.drop nx)).2)
 at_:nx+cnt sent i=i
 le:i<=n
section
variable{f:B->B}{P:List B}{sent:List (Nat×B)}{shorts:List B}{n i:Nat}{L:List B}{ms:List Nat}{nx:Nat}
def take_set_succ{L:List B}{i t}(h:i<L.length):(L.set i t).take (i+1)=L.take i++[t]:=by rw[List.take_succ_eq_append_getElem (by rw[List.length_set];exact h),List.getElem_set_self,List.take_set_of_le (Nat.le_refl _)]
def take_getD{L:List B}{i}(h:i<L.length):L.take (i+1)=L.take i++[L.getD i []]:=by rw[List.take_succ_eq_append_getElem h,List.getD_eq_getElem?_getD,List.getElem?_eq_getElem h];rfl
def getD_set{L:List B}{i j t}(h:i≠j):(L.set i t).getD j []=L.getD j []:=by rw[List.getD_eq_getElem?_getD,List.getD_eq_getElem?_getD,List.getElem?_set_ne h]
def FI.skip(h:FI f P sent shorts n i L ms nx)(hs:SentOK n sent)(hi:i<n)(hL:L.getD i []≠ []):FI f P sent shorts n (i+1) L ms nx:=by have ha:=h.ahead i (Nat.le_refl _) hi;cases hx:sent.lookup i with|none=>rw[hx]at ha;exact absurd ha hL|some t=>rw[hx]at ha;have ht:L.getD i []=t:=ha;refine⟨h.len,λj h1 h2=>h.ahead j (by omega) h2,?_,?_,by omega⟩;rw[h.res,show n-i=(n-(i+1))+1 by omega,fill,hx,take_getD (by rw[h.len];exact hi),ht];simp;rw[cnt_some hs.up hx];have:=h.at_;omega
def FI.none(h:FI f P sent shorts n i L ms nx)(hs:SentOK n sent)(hi:i<n)(hL:L.getD i []=[]):sent.lookup i=none:=by have ha:=h.ahead i (Nat.le_refl _) hi;cases hx:sent.lookup i with|none=>rfl|some t=>rw[hx,hL]at ha;exact absurd ha.symm (hs.full _ (lookup_mem hx)).1
def FI.next(h:FI f P sent shorts n i L ms nx)(hs:SentOK n sent)(hn:n=shorts.length+sent.length)(hi:i<n)(hL:L.getD i []=[]):nx<shorts.length:=by have h1:=cnt_ge hs (h.none hs hi hL);have h2:=h.at_;omega
def drop_head{shorts:List B}{nx}(h:nx<shorts.length):(shorts.drop nx).headD []=shorts.getD nx []/\(shorts.drop nx).tail=shorts.drop (nx+1):=by rw[List.drop_eq_getElem_cons h,List.getD_eq_getElem?_getD,List.getElem?_eq_getElem h];exact⟨rfl,rfl⟩
def FI.hit(h:FI f P sent shorts n i L ms nx)(hs:SentOK n sent)(hn:n=shorts.length+sent.length)(hi:i<n)(hL:L.getD i []=[]){t}(ht:hits f P (shorts.getD nx [])=[t]):FI f P sent shorts n (i+1) (L.set i t) ms (nx+1):=by have hx:=h.none hs hi hL;obtain⟨e1,e2⟩:=drop_head (h.next hs hn hi hL);refine⟨by rw[List.length_set];exact h.len,λj h1 h2=>by rw[getD_set (by omega)];exact h.ahead j (by omega) h2,?_,?_,by omega⟩;rw[h.res,show n-i=(n-(i+1))+1 by omega,fill,hx];simp only[e1,ht,e2];rw[take_set_succ (by rw[h.len];exact hi)];simp;rw[cnt_none hx];have:=h.at_;omega
def FI.miss(h:FI f P sent shorts n i L ms nx)(hs:SentOK n sent)(hn:n=shorts.length+sent.length)(hi:i<n)(hL:L.getD i []=[])(ht:(hits f P (shorts.getD nx [])).length≠1):FI f P sent shorts n (i+1) L (ms++[i]) (nx+1):=by
 have hx:=h.none hs hi hL;obtain⟨e1,e2⟩:=drop_head (h.next hs hn hi hL);refine⟨h.len,λj h1 h2=>h.ahead j (by omega) h2,?_,?_,by omega⟩;rw[h.res,show n-i=(n-(i+1))+1 by omega,fill,hx];rw[take_getD (by rw[h.len];exact hi),hL];simp only[e1,e2];generalize hits f P (shorts.getD nx [])=hh at ht;match hh,ht with
 |[],_=>simp
 |[t],ht=>exact absurd rfl ht
 |a::b::l,_=>simp
 rw[cnt_none hx];have:=h.at_;omega
def FI.done(h:FI f P sent shorts n n L ms nx):fill f P sent n 0 shorts=(L,ms):=by rw[h.res,Nat.sub_self,fill];simp only[List.append_nil];rw[List.take_of_length_le (by rw[h.len];exact Nat.le_refl _)]
end
def hits_of{f:B->B}{P got:List B}(h:∀p:B->Bool,got.countP p=P.countP p)(s:B):(Ph.grp f got s).length=(hits f P s).length/\∀t,Ph.grp f got s=[t]->hits f P s=[t]:=by
 have hl:(Ph.grp f got s).length=(hits f P s).length:=by unfold Ph.grp hits;rw[<-List.countP_eq_length_filter,<-List.countP_eq_length_filter,List.countP_reverse,h]
 refine⟨hl,λt ht=>?_⟩;rw[ht,List.length_singleton]at hl;obtain⟨u,hu⟩:=List.length_eq_one_iff.1 hl.symm;rw[hu];have h1:(P.countP λx=>x==t&&f x==s)=1:=by rw[<-h,<-List.countP_reverse,<-List.countP_filter];have:got.reverse.filter (λx=>f x==s)=[t]:=ht;rw[this];simp
 rw[<-List.countP_filter]at h1;have:P.filter (λx=>f x==s)=[u]:=hu;rw[this]at h1;by_cases e:u=t;rw[e];simp[e]at h1
end Cp
namespace Cp
open Wr En
def ints(l:List Nat):List Int:=l.map λ(i:Nat)=>(i:Int)
def ints_len l:(ints l).length=l.length:=List.length_map _
def lookup_full{n sent}(h:SentOK n sent){i t}(hx:sent.lookup i=some t):t≠ []/\t.length<=610:=h.full _ (lookup_mem hx)
section
variable{f:B->B}{P:List B}{sent:List (Nat×B)}
def hits_one{s t}(h:hits f P s=[t]):t∈P:=by
 have:t∈hits f P s:=by rw[h];exact List.mem_cons_self
 exact(List.mem_filter.1 this).1
theorem fill_ok{N}(hs:SentOK N sent)(hP:∀t∈P,t≠ []/\t.length<=610):∀n i ss,(∀t∈(fill f P sent n i ss).1,t.length<=610)/\(∀j,j<n->(fill f P sent n i ss).1.getD j []=[]->i+j∈(fill f P sent n i ss).2)/\Rise (i+n) i (ints (fill f P sent n i ss).2)
 |0,_,_=>⟨λt h=>(by cases h),λj h=>absurd h (Nat.not_lt_zero _),trivial⟩|n+1,i,ss=>by
  have rise_mono:∀(l:List Int)(lo lo':Int)(m:Nat),lo'<=lo->Rise m lo l->Rise m lo' l:=λl=>by cases l with|nil=>intros;trivial|cons a l=>exact λlo lo' m hl h=>⟨Int.le_trans hl h.1,h.2⟩
  rw[fill];split;rename_i t hx;obtain⟨h1,h2,h3⟩:=fill_ok hs hP n (i+1) ss;obtain⟨t1,t2⟩:=lookup_full hs hx;refine⟨λu hu=>?_,λj hj he=>?_,?_⟩;rcases List.mem_cons.1 hu with rfl|hu;exact t2;exact h1 u hu;cases j with|zero=>exact absurd he t1|succ j=>have:=h2 j (by omega) he;rwa[show i+(j+1)=i+1+j by omega]
  rw[show i+(n+1)=i+1+n by omega];exact rise_mono _ _ _ _ (by omega) h3;split;rename_i t ht;obtain⟨h1,h2,h3⟩:=fill_ok hs hP n (i+1) ss.tail;obtain⟨t1,t2⟩:=hP t (hits_one ht);refine⟨λu hu=>?_,λj hj he=>?_,?_⟩;rcases List.mem_cons.1 hu with rfl|hu;exact t2;exact h1 u hu;cases j with|zero=>exact absurd he t1|succ j=>have:=h2 j (by omega) he;rwa[show i+(j+1)=i+1+j by omega]
  rw[show i+(n+1)=i+1+n by omega];exact rise_mono _ _ _ _ (by omega) h3;obtain⟨h1,h2,h3⟩:=fill_ok hs hP n (i+1) ss.tail;refine⟨λu hu=>?_,λj hj he=>?_,?_⟩;rcases List.mem_cons.1 hu with rfl|hu;simp;exact h1 u hu;cases j with|zero=>exact List.mem_cons_self|succ j=>exact List.mem_cons_of_mem _ (by have:=h2 j (by omega) he;rwa[show i+(j+1)=i+1+j by omega])
  rw[show i+(n+1)=i+1+n by omega];exact⟨Int.le_refl _,by show(i:Int)< ((i+1+n:Nat):Int);omega,h3⟩
end
structure Wait(s:RS):Prop where
 some:s.missing≠ []
 head:s.header.length=80
 pos:0<s.txs.length
 le:s.txs.length<=16
 short:∀t∈s.txs,t.length<=610
 asked:∀j,j<s.txs.length->s.txs.getD j []=[]->j∈s.missing
 rise:Rise s.txs.length 0 (ints s.missing)
def Held(s:RS):Prop:=s=idle∨Wait s
def mem_ints{l}{j:Nat}(h:j∈l):(j:Int)∈ints l:=List.mem_map.2 ⟨j,h,rfl⟩
def Wait.lt{s}(h:Wait s){j}(hj:j∈s.missing):j<s.txs.length:=by have:=rise_lt _ _ _ h.rise _ (mem_ints hj);omega
def Wait.few{s}(h:Wait s):s.missing.length<=16:=by rcases rise_len _ _ _ (by omega) h.rise with h1|h1;rw[ints_len]at h1;have:=h.le;omega;have:=congrArg List.length h1;rw[ints_len]at this;simp at this;rw[this];simp
theorem full_put:∀(is:List Nat)(us ts:List B),is.length=us.length->(∀u∈us,u≠ []/\u.length<=610)->(∀t∈ts,t.length<=610)->(∀i∈is,i<ts.length)->(∀j,j<ts.length->ts.getD j []=[]->j∈is)->∀t∈put ts is us,t≠ []/\t.length<=610
 |[],[],ts,_,_,h1,_,h2,t,ht=>by have ht':t∈ts:=ht;refine⟨λe=>?_,h1 t ht'⟩;obtain⟨j,hj,he⟩:=List.mem_iff_getElem.1 ht';have:=h2 j hj (by rw[List.getD_eq_getElem?_getD,List.getElem?_eq_getElem hj];simpa[e]using he);cases this
 |i::is,u::us,ts,hl,hu,h1,hlt,h2,t,ht=>by rw[put]at ht;have hu1:=hu u List.mem_cons_self;have hi:=hlt i List.mem_cons_self;refine full_put is us (ts.set i u) (by simpa using hl) (λx hx=>hu x (List.mem_cons_of_mem _ hx)) (λx hx=>?_) (λx hx=>by rw[List.length_set];exact hlt x (List.mem_cons_of_mem _ hx)) (λj hj he=>?_) t ht;rcases List.mem_or_eq_of_mem_set hx with hx|rfl;exact h1 x hx;exact hu1.2;rw[List.length_set]at hj;by_cases hji:i=j;subst hji;rw[List.getD_eq_getElem?_getD,List.getElem?_set_self hj]at he;exact absurd he hu1.1;rw[getD_set hji]at he;rcases List.mem_cons.1 (h2 j hj he)with rfl|h;exact absurd rfl hji;exact h
 |[],_::_,_,hl,_,_,_,_,_,_=>by simp at hl|_::_,[],_,hl,_,_,_,_,_,_=>by simp at hl
theorem put_snoc:∀(is:List Nat)(us ts:List B)(k),is.length=us.length->k<is.length->put ts (is.take (k+1)) (us.take (k+1))=(put ts (is.take k) (us.take k)).set (is.getD k 0) (us.getD k [])
 |[],us,ts,k,_,h=>by simp at h|i::is,[],ts,k,hl,_=>by simp at hl|i::is,u::us,ts,0,_,_=>by simp[put]|i::is,u::us,ts,k+1,hl,h=>by rw[List.take_succ_cons,List.take_succ_cons,put,put_snoc is us (ts.set i u) k (by simpa using hl) (by simpa using h)];rfl
theorem put_lookup:∀(sent:List (Nat×B))(ts)(j),(sent.map (·.1)).Pairwise (· < ·)->(∀p∈sent,p.1<ts.length)->j<ts.length->(put ts (sent.map (·.1)) (sent.map (·.2))).getD j []=(sent.lookup j).getD (ts.getD j [])
 |[],ts,j,_,_,_=>rfl|(a,b)::l,ts,j,hup,hlt,hj=>by
  simp only[List.map_cons,List.pairwise_cons]at hup;rw[List.map_cons,List.map_cons,put,put_lookup l (ts.set a b) j hup.2 (λp hp=>by rw[List.length_set];exact hlt p (List.mem_cons_of_mem _ hp)) (by rw[List.length_set];exact hj),List.lookup_cons];by_cases h:j=a;subst h;have hn:l.lookup j=none:=by cases hx:l.lookup j with|none=>rfl|some t=>have:=hup.1 j (List.mem_map.2 ⟨_,lookup_mem hx,rfl⟩);omega
  rw[hn];simp[List.getElem?_set_self hj,List.getD_eq_getElem?_getD];have:(j==a)=false:=by simpa using h
  rw[this];simp only[getD_set (Ne.symm h)]
def fillAns(f:B->B)(P:List B)(c:Wr.Cb):(Nat×B)×RS:=
 let r:=fill f P c.sent (c.shorts.length+c.sent.length) 0 c.shorts
 if r.2=[]then(finish c.header r.1,idle)else((1,request c.header r.2),⟨c.header,r.1,r.2⟩)
def compact_ok{P:List B}{l:B}{c:Wr.Cb}{r:B}(h:Wr.readCompact l=.ok c r)(hn:c.shorts.Nodup):compact P l=((fillAns (En.short c.header c.nonce) P c).1,0,(fillAns (En.short c.header c.nonce) P c).2):=by unfold compact fillAns;simp only[h,hn,not_true_eq_false,if_false];split<;>rfl
end Cp
end
section
open Go.RowKit Nums
def wpQuiet_loadc{ops rest o a C Q}(hgd:o.guard=none) ty x(ho:o.op=.load ty x) g l (hx:a.eval x=.pointer (some ⟨g,0,none⟩)) (hr:∀w,C w->Row w g l) d (hu:prog.underlying ty=some d) (hi:(prog.info? ty).map (·.size)=some l.length) fs (hd:d=.struct fs) (h:wpQuiet prog ops C Q rest (a.put o.dst (.agg l.toArray))):wpQuiet prog ops C Q (o::rest) a:=by subst hd;unfold wpQuiet;rw[if_pos (by simp[Region.wanted,hgd])];refine⟨_,λw hw=>?_,h⟩;have:=run_loadAt_mid (P:=prog) w g 0 ty l _ (λj v hv=>by rw[Nat.zero_add,(hr w hw).cell];exact hv) hu rfl hi;unfold Oper.quietAt execOp;simp only[ho,hx,Sem.run_bind,this,Result.andThen_ok,Sem.run_pure,Oper.quietUpon];first|trivial|exact⟨trivial,trivial⟩|exact⟨rfl,rfl⟩|exact⟨rfl,hw⟩
def catchTx_idle(g h:Nat)(w:World):CallsD prog 79 #[.pointer (some ⟨g,0,none⟩),.pointer (some ⟨h,0,none⟩)] .returning w λe u' w'=>e=.returned (.tuple #[])/\u'=.returning/\w'=w:=by refine callsD_of_wpS func79 rfl λc₀ cs hu=>?_;simp only[ntmps79,List.size_toArray,List.length_cons,List.length_nil,Nat.reduceAdd,Nat.reduceSub,Array.replicate_succ,Array.replicate_zero,List.push_toArray,List.append_toArray,List.nil_append,List.cons_append];apply wpS_seq;apply wpS_region;simp[wpOpsS,go_sem,recoverD,hu,Exit.thenS];refine wpS_of_wp ?_;go_wp2_with fail;cases c₀;simp_all[bodyPostS,results,results79]
def catchTx_panicking(g h:Nat)(n m:Int)(l:List Value)(w:World)(hg:Row w g l)(hh:Row w h [.int .i64 m])(hl:l.length=33)(hne:g≠h):CallsD prog 79 #[.pointer (some ⟨g,0,none⟩),.pointer (some ⟨h,0,none⟩)] (.panicking (Fault n)) w λe u' w'=>e=.returned (.tuple #[])/\u'=.panicking [{v:=.iface 146 (.agg #[.int .i64 n]),recovered:=true}]/\Row w' g tx0/\Row w' h [.int .i64 n]/\Keep (λk=>k=g∨k=h) w w':=by
 refine callsD_of_wpS func79 rfl λc₀ cs hu=>?_;simp only[ntmps79,List.size_toArray,List.length_cons,List.length_nil,Nat.reduceAdd,Nat.reduceSub,Array.replicate_succ,Array.replicate_zero,List.push_toArray,List.append_toArray,List.nil_append,List.cons_append];apply wpS_seq;apply wpS_region;unfold Fault at hu;have hta:∀(w:World),(Instr.typeAssert (.iface 146 (.agg #[.int .i64 n])) 20 146 true).run prog w=.ok (.tuple #[.agg #[.int .i64 n],.bool true]) w:=λw=>by kernel_rfl
 simp[wpOpsS,go_sem,recoverD,hu,Exit.thenS];refine wpS_of_wp ?_;have hzg:=hg.lt;have hzh:=hh.lt;have r1:Row ((w.alloc (.cells #[.int .i64 n] 146)).alloc (.cells tx0.toArray 69)) w.heap.size [.int .i64 n]:=(Row.new w [.int .i64 n] 146).alloc _;have r2:Row ((w.alloc (.cells #[.int .i64 n] 146)).alloc (.cells tx0.toArray 69)) (w.heap.size+1) tx0:=by have:=Row.new (w.alloc (.cells #[.int .i64 n] 146)) tx0 69;rwa[World.size_alloc]at this
 have r3:Row ((w.alloc (.cells #[.int .i64 n] 146)).alloc (.cells tx0.toArray 69)) g l:=(hg.alloc _).alloc _;have r4:Row ((w.alloc (.cells #[.int .i64 n] 146)).alloc (.cells tx0.toArray 69)) h [.int .i64 m]:=(hh.alloc _).alloc _;have kk:Keep (λk=>k=g∨k=h) w ((w.alloc (.cells #[.int .i64 n] 146)).alloc (.cells tx0.toArray 69)):=((Keep.refl _ _).alloc _).alloc _;rw[Tryz.zeroTx]at r1 r2 r3 r4 kk;clear hg hh;go_wp2_with fail;generalize(w.alloc _).alloc _=w1 at r1 r2 r3 r4 kk|-;generalize w.heap.size=A at *;have hu:∀u:Reg.Of (λu=>Row u A [.int .i64 n]/\Row u (A+1) tx0),u.w.cell? ⟨A,0,none⟩=some (.int .i64 n):=λu=>u.h.1.cell 0;haveI hne':Nonempty (Reg.Of (λu=>Row u A [.int .i64 n]/\Row u (A+1) tx0)):=⟨⟨w1,r1,r2⟩⟩;refine Reg.startL [0,1,2] 2 mixed (by kernel_rfl) rfl rfl (λc a d v w h=>by cases d<;>exact h) (by as_aux_lemma=>kernel_rfl) rfl (λu=>Row u A [.int .i64 n]/\Row u (A+1) tx0) ⟨r1.drew,r2.drew⟩ ?_;show wpQuiet _ _ _ _ [_,_,_] _;refine wpQuiet_loadc (o:=⟨some 12,_,_,_,_,_⟩) rfl _ _ rfl (A+1) tx0 rfl (λw hw=>by obtain⟨u,rfl⟩:=hw;exact u.h.2) _ underlying69 (infoTx.trans (by rw[tx0_len])) _ rfl ?_;go_frame;repeat(go_big_quiet_step (fail))
 refine wpQuiet_nil ?_;have r1:=r1.drew;have r2:=r2.drew;have r3:=r3.drew;have r4:=r4.drew;have kk:=kk.drew;generalize w1.drew=w2 at r1 r2 r3 r4 kk|-;refine Reg.one 3 _ (by kernel_rfl) rfl rfl ?_;refine store_cells rfl _ _ _ rfl g l tx0 rfl rfl r3 (infoTx.trans (by rw[tx0_len])) (by rw[hl,tx0_len]) (by decide +kernel) ?_;have s1:=r1.setOther (g:=g) (by omega) tx0.toArray;have s2:=r2.setOther (g:=g) (by omega) tx0.toArray;have s3:=r3.setRow tx0;have s4:=r4.setOther (g:=g) (Ne.symm hne) tx0.toArray;have kk:=kk.setRow g tx0.toArray (.inl rfl);generalize w2.setRow g _=w3 at s1 s2 s3 s4 kk|-;refine⟨Reg.cls_mk ⟨s1,s2⟩,?_⟩;refine Reg.one 4 _ (by kernel_rfl) rfl rfl ?_;have hz:=s4.free 0;have hc:=s4.cell 0;try go_frame
 go_wp2_with fail;refine⟨Reg.cls_mk ⟨s1.other (show h≠A by omega) _,s2.other (show h≠A+1 by omega) _⟩,?_⟩
 refine wpAnyH_done (by kernel_rfl) ?_ 0;go_wp2_with fail;refine⟨rfl,_,rfl,.tuple #[],results_none rfl _ _ _,rfl,rfl,s3.other (Ne.symm hne) _,s4.set 0 _,kk.set _ _ (.inr rfl)⟩
def results_c2{fn:Func}{p u:Tmp}{ty:TypeId}(h:fn.results=#[.cell p ty,.cell u 29])(tmps:Array Value)(w:World)(g k:Nat)(l:List Value)(n:Int) (hp:tmps.getD p undef=.pointer (some ⟨g,0,none⟩)) (hu:tmps.getD u undef=.pointer (some ⟨k,0,none⟩)) (hr:Row w g l) (hk:Row w k [.int .i64 n]) (fs:_) (ht:prog.underlying ty=some (.struct fs)) (hi:(prog.info? ty).map (·.size)=some l.length):(results fn tmps).run prog w=.ok (.tuple #[.agg l.toArray,.int .i64 n]) w:=by
 have h2:(loadVar ty ⟨g,0,none⟩).run prog w=.ok (.agg l.toArray) w:=run_loadVar_mid w g 0 _ l _ (λj v hv=>by rw[Nat.zero_add,hr.cell];exact hv) ht rfl hi;have hc:w.cell? ⟨k,0,none⟩=some (.int .i64 n):=hk.cell 0;have hp':tmps[p]?.getD undef=.pointer (some ⟨g,0,none⟩):=by simpa using hp
 have hu':tmps[u]?.getD undef=.pointer (some ⟨k,0,none⟩):=by simpa using hu
 have h3:(loadVar 29 ⟨k,0,none⟩).run prog w=.ok (.int .i64 n) w:=by clear h2;simp[go_sem,hc]
 unfold results;rw[h];simp[asAddr,hp',hu',h2,h3]
def rdTx:Wr.R (List UInt8)->Value
 |.ok t _=>.tuple #[txV t,.int .i64 0]|.bad n=>.tuple #[.agg tx0.toArray,.int .i64 n]
def readTx_calls(l:List UInt8)(w:World)(hT:Tabs w)(hl:l.length<=9223372036854775807):Calls prog 46 #[.string (str l),.func (.func 47) #[] #[]] w λe w'=>e=.returned (rdTx (Wr.readTx l))/\Below w.heap.size w w':=by
 have hmf:=mk_fn;have h1w:=hT.lt;have HT:=Lib.hid hT;have EQ:=Lib.hid (show Wr.readTx l=(Wr.tx l).bind λa r=>if r=[]then .ok a r else .bad 5 from rfl);have r1:Row (((w.alloc (.cells tx0.toArray 69)).alloc (.cells #[.int .i64 0] 29)).alloc (.cells #[.string (str l)] 120)) w.heap.size tx0:=((Row.new w tx0 69).alloc _).alloc _;have r2:Row (((w.alloc (.cells tx0.toArray 69)).alloc (.cells #[.int .i64 0] 29)).alloc (.cells #[.string (str l)] 120)) (w.heap.size+1) [.int .i64 0]:=by have:=Row.new (w.alloc (.cells tx0.toArray 69)) [.int .i64 0] 29;rw[World.size_alloc]at this;exact this.alloc _
 have r3:Row (((w.alloc (.cells tx0.toArray 69)).alloc (.cells #[.int .i64 0] 29)).alloc (.cells #[.string (str l)] 120)) (w.heap.size+2) [.string (str l)]:=by have:=Row.new ((w.alloc (.cells tx0.toArray 69)).alloc (.cells #[.int .i64 0] 29)) [.string (str l)] 120;rw[World.size_alloc,World.size_alloc]at this;exact this
 have hB:Below w.heap.size w (((w.alloc (.cells tx0.toArray 69)).alloc (.cells #[.int .i64 0] 29)).alloc (.cells #[.string (str l)] 120)):=(((Below.refl _ _).alloc (Nat.le_refl _) _).alloc (by simp) _).alloc (by simp;omega) _;rw[Tryz.zeroTx]at r1 r2 r3 hB;clear hT;go_enter_defers func46,ntmps46;go_wp2_with fail;generalize((w.alloc _).alloc _).alloc _=w1 at r1 r2 r3 hB|-;have HB:=Lib.hid hB;have hz:=hB.size;have hz3:=r3.lt;have R1:=Lib.hid r1;have R2:=Lib.hid r2;have T1:=Lib.hid (tx_calls (w.heap.size+2) l w1 (HT.out.below hB h1w) (by omega) r3 hl)
 clear r1 r2 r3 hB;refine T1.out.mono ?_;clear T1;cases hx:Wr.tx l with
 |bad n=>rintro e w2⟨rfl,h⟩;rw[hx]at EQ;have H1:=h.row R1.out R1.out.lt (by omega);have H2:=h.row R2.out R2.out.lt (by omega);refine leaves_cons (f:=79) (args:=#[.pointer (some ⟨w.heap.size,0,none⟩),.pointer (some ⟨w.heap.size+1,0,none⟩)]) (by simp) (by simp[go_sem]) ?_;refine(catchTx_panicking w.heap.size (w.heap.size+1) n 0 tx0 w2 H1 H2 tx0_len (by omega)).mono ?_;rintro e u' w3⟨rfl,rfl,h5,h6,h7⟩;refine⟨_,results_c2 rfl _ _ w.heap.size (w.heap.size+1) tx0 n rfl rfl h5 h6 _ underlying69 (infoTx.trans (by rw[tx0_len])),?_,?_⟩;rw[show Wr.readTx l=.bad n from EQ.out];rfl;exact HB.out.trans ⟨h7.os.trans h.os,h7.tape.trans h.tape,h7.output.trans h.output,Nat.le_trans h.size h7.size,λk hk=>(h7.block k (by have:=h.size;omega) (by omega)).trans (h.block k (by omega) (by omega))⟩
 |ok t r=>
 rintro e w2⟨rfl,h3,h⟩;rw[hx]at EQ;have EQ2:=Lib.hid (show Wr.readTx l=if r=[]then .ok t r else .bad 5 from EQ.out);have H1:=h.row R1.out R1.out.lt (by omega);have H2:=h.row R2.out R2.out.lt (by omega);have hz2:=h.size;have B2:=Lib.hid (show Below w.heap.size w w2 from HB.out.trans ⟨h.os,h.tape,h.output,h.size,λk hk=>h.block k (by omega) (by omega)⟩);have S1:=Lib.hid (H1.setRow (txCells t));have S2:=Lib.hid (H2.setOther (g:=w.heap.size) (by omega) (txCells t).toArray);have S3:=Lib.hid (h3.setOther (g:=w.heap.size) (by omega) (txCells t).toArray);have B3:=Lib.hid (below_setRow B2.out (Nat.le_refl _) (txCells t).toArray);clear EQ h h3 H2 R1 R2 HB hx;go_wp2_with (with_reducible refine store_cells (o:=⟨none,_,_,_,_,_⟩) rfl _ _ _ rfl w.heap.size tx0 (txCells t) rfl rfl H1 (infoTx.trans (by rw[txCells_len])) (by rw[txCells_len,tx0_len]) (txCells_one t) ?_);clear H1;generalize w2.setRow _ _=w3 at S1 S2 S3 B3|-;refine(end_calls (w.heap.size+2) r w3 S3.out).mono ?_;by_cases hr:r=[]
 ·simp only[if_pos hr];rintro e w4⟨rfl,rfl⟩;have hro:=S1.out;have S4:=Lib.hid (S2.out.setOther (g:=w.heap.size) (by omega) (txCells t).toArray);have S5:=Lib.hid (S1.out.setRow (txCells t));have B5:=Lib.hid (below_setRow B3.out (Nat.le_refl _) (txCells t).toArray);have hz5:=S4.out.free 0;have hc5:=S4.out.cell 0;go_wp2_with (first|(refine load_cells (o:=⟨some 19,_,_,_,_,_⟩) rfl _ _ rfl w.heap.size (txCells t) rfl hro _ underlying69 (infoTx.trans (by rw[txCells_len])) _ rfl ?_)|(with_reducible refine store_cells (o:=⟨none,_,_,_,_,_⟩) rfl _ _ _ rfl w.heap.size (txCells t) (txCells t) rfl rfl hro (infoTx.trans (by rw[txCells_len])) rfl (txCells_one t) ?_));refine leaves_cons (f:=79) (args:=#[.pointer (some ⟨w.heap.size,0,none⟩),.pointer (some ⟨w.heap.size+1,0,none⟩)]) (by simp) (by simp[go_sem]) ?_;refine(catchTx_idle w.heap.size (w.heap.size+1) _).mono ?_;rintro e u' w5⟨rfl,rfl,rfl⟩;refine⟨_,results_c2 rfl _ _ w.heap.size (w.heap.size+1) (txCells t) 0 rfl rfl (S5.out.other (show w.heap.size+1≠w.heap.size by omega) _) (S4.out.set 0 _) _ underlying69 (infoTx.trans (by rw[txCells_len])),?_,?_⟩;rw[show Wr.readTx l=.ok t r from EQ2.out.trans (if_pos hr)];rfl;exact B5.out.setCell (show w.heap.size<=w.heap.size+1 by omega) _
 simp only[if_neg hr];rintro e w4⟨rfl,rfl⟩;refine leaves_cons (f:=79) (args:=#[.pointer (some ⟨w.heap.size,0,none⟩),.pointer (some ⟨w.heap.size+1,0,none⟩)]) (by simp) (by simp[go_sem]) ?_;refine(catchTx_panicking w.heap.size (w.heap.size+1) 5 0 (txCells t) w4 S1.out S2.out (txCells_len t) (by omega)).mono ?_;rintro e u' w5⟨rfl,rfl,h5,h6,h7⟩;refine⟨_,results_c2 rfl _ _ w.heap.size (w.heap.size+1) tx0 5 rfl rfl h5 h6 _ underlying69 (infoTx.trans (by rw[tx0_len])),?_,?_⟩;rw[show Wr.readTx l=.bad 5 from EQ2.out.trans (if_neg hr)];rfl;exact B3.out.trans ⟨h7.os,h7.tape,h7.output,h7.size,λk hk=>h7.block k (by have:=B3.out.size;omega) (by omega)⟩
def ta_fault(n:Int):∀(w:World),(Instr.typeAssert (.iface 146 (.agg #[.int .i64 n])) 20 146 true).run prog w=.ok (.tuple #[.agg #[.int .i64 n],.bool true]) w:=λw=>by kernel_rfl
def rdTx_form x:∃(cs:List Value)(n:Int),rdTx x=.tuple #[.agg cs.toArray,.int .i64 n]/\cs.length=33/\cs.all (·.oneCell')=true:=by cases x with|ok t r=>exact⟨txCells t,0,rfl,txCells_len t,txCells_one t⟩|bad n=>exact⟨tx0,n,rfl,tx0_len,by decide +kernel⟩
def results_c1{fn p u ty}(h:fn.results=#[.cell p ty,.tmp u]) tmps w g l v (hp:tmps.getD p undef=.pointer (some ⟨g,0,none⟩)) (hu:tmps.getD u undef=v) (hr:Row w g l) fs (ht:prog.underlying ty=some (.struct fs)) (hi:(prog.info? ty).map (·.size)=some l.length):(results fn tmps).run prog w=.ok (.tuple #[.agg l.toArray,v]) w:=by
 have h2:(loadVar ty ⟨g,0,none⟩).run prog w=.ok (.agg l.toArray) w:=run_loadVar_mid w g 0 _ l _ (λj v hv=>by rw[Nat.zero_add,hr.cell];exact hv) ht rfl hi;have hp':tmps[p]?.getD undef=.pointer (some ⟨g,0,none⟩):=by simpa using hp
 have hu':tmps[u]?.getD undef=v:=by simpa using hu
 unfold results;rw[h];simp[asAddr,hp',hu',h2]
def wreadTx_calls(l:List UInt8)(w:World)(hT:Tabs w)(hl:l.length<=9223372036854775807):Calls prog 24 #[.string (str l)] w λe w'=>e=.returned (rdTx (Wr.readTx l))/\Below w.heap.size w w':=by
 obtain⟨cs,n,hE,hcl,hc1⟩:=rdTx_form (Wr.readTx l);rw[hE];have h1w:=hT.lt;have r1:Row (w.alloc (.cells tx0.toArray 69)) w.heap.size tx0:=Row.new w tx0 69;have hB:Below w.heap.size w (w.alloc (.cells tx0.toArray 69)):=(Below.refl _ _).alloc (Nat.le_refl _) _;rw[Tryz.zeroTx]at r1 hB;go_enter func24,ntmps24;go_wp2_with fail;generalize w.alloc _=w1 at r1 hB|-;have HB:=Lib.hid hB;have R1:=Lib.hid r1;have hz:=r1.lt;have T1:=Lib.hid (readTx_calls l w1 (hT.below hB h1w) hl);rw[hE]at T1;clear hT hB r1 hE;refine T1.out.mono ?_;clear T1;rintro e w2⟨rfl,h2⟩;have H1:=R1.out.below h2 hz;have B2:=Lib.hid (HB.out.trans (h2.mono (by omega)))
 have S1:=Lib.hid (H1.setRow cs);have B3:=Lib.hid (below_setRow B2.out (Nat.le_refl _) cs.toArray);clear h2 R1 HB;go_wp2_with (with_reducible refine store_cells (o:=⟨none,_,_,_,_,_⟩) rfl _ _ _ rfl w.heap.size tx0 cs rfl rfl H1 (infoTx.trans (by rw[hcl])) (by rw[hcl,tx0_len]) hc1 ?_);exact bodyPost_ret (v:=.tuple #[.agg cs.toArray,.int .i64 n]) (results_c1 rfl _ _ w.heap.size cs (.int .i64 n) rfl rfl S1.out _ underlying69 (infoTx.trans (by rw[hcl]))) rfl ⟨rfl,B3.out⟩
def twice32 t:(Mk.twice t).length=32:=Sha.sum32 _
def txidV:Wr.R (List UInt8)->Value
 |.ok t _=>.tuple #[.string (str (Mk.twice t)),.int .i64 0]|.bad n=>.tuple #[.string (str []),.int .i64 n]
def txCells_bytes{w g t}(h:Row w g (txCells t)):Bytes w g 1 (Mk.twice t):=λj hj=>by rw[h.cell];unfold txCells;rw[Nat.add_comm,List.getElem?_cons_succ,w8_get _ _ hj]
def readTx_pos{l n}(h:Wr.readTx l=.bad n):n≠0:=by have:=Rf.fin_done (Rf.tx_ag l);rw[show Wr.fin (Wr.tx l)=.bad n from h]at this;exact this.2
def txid_calls(l:List UInt8)(w:World)(hT:Tabs w)(hl:l.length<=9223372036854775807):Calls prog 9 #[.string (str l)] w λe w'=>e=.returned (txidV (Wr.readTx l))/\Below w.heap.size w w':=by
 have h1w:=hT.lt;have T1:=Lib.hid (wreadTx_calls l w hT hl);clear hT;go_enter func9,ntmps9;go_wp2_with fail;refine T1.out.mono ?_;clear T1;cases hx:Wr.readTx l with
 |bad n=>
 rintro e w1⟨rfl,hb⟩;have hn:=readTx_pos hx;have p1:¬(n:Int)=0:=by omega
 have EQ:=Lib.hid hx;obtain⟨cs,hE,hcl,hc1⟩:∃cs:List Value,rdTx (.bad n)=.tuple #[.agg cs.toArray,.int .i64 n]/\cs.length=33/\cs.all (·.oneCell')=true:=⟨tx0,rfl,tx0_len,by decide +kernel⟩;rw[hE];have r1:Row (w1.alloc (.cells tx0.toArray 69)) w1.heap.size tx0:=Row.new w1 tx0 69;have hB:Below w1.heap.size w1 (w1.alloc (.cells tx0.toArray 69)):=(Below.refl _ _).alloc (Nat.le_refl _) _;have B1:=Lib.hid (hb.trans ((below_setRow hB (Nat.le_refl _) cs.toArray).mono hb.size));rw[Tryz.zeroTx]at r1 hB B1;have H1:=r1;clear hx hb r1 hB hn hE;go_wp2_with (with_reducible refine store_cells (o:=⟨none,_,_,_,_,_⟩) rfl _ _ _ rfl w1.heap.size tx0 cs rfl rfl H1 (infoTx.trans (by rw[hcl])) (by rw[hcl,tx0_len]) hc1 ?_);go_ret2;exact⟨by rw[EQ.out];rfl,B1.out⟩
 |ok t r=>rintro e w1⟨rfl,hb⟩;have EQ:=Lib.hid hx;dsimp only[rdTx];have r1:Row (w1.alloc (.cells tx0.toArray 69)) w1.heap.size tx0:=Row.new w1 tx0 69;have hB:Below w1.heap.size w1 (w1.alloc (.cells tx0.toArray 69)):=(Below.refl _ _).alloc (Nat.le_refl _) _;have B1:=Lib.hid (hb.trans ((below_setRow hB (Nat.le_refl _) (txCells t).toArray).mono hb.size));have H2:=txCells_bytes (r1.setRow (txCells t));rw[Tryz.zeroTx]at r1 hB B1 H2;have H1:=r1;clear hx hb r1 hB;go_wp2_with (first|(with_reducible refine store_cells (o:=⟨none,_,_,_,_,_⟩) rfl _ _ _ rfl w1.heap.size tx0 (txCells t) rfl rfl H1 (infoTx.trans (by rw[txCells_len])) (by rw[txCells_len,tx0_len]) (txCells_one t) ?_)|(with_reducible refine conv_arm (o:=⟨some 16,_,_,_,_,_⟩) rfl _ _ _ _ rfl w1.heap.size 1 32 32 (Mk.twice t) (twice32 t) rfl underlying64 underlying5 underlying9 H2 ?_));go_ret2;exact⟨by rw[EQ.out];rfl,B1.out⟩
def pr0:List Value:=[.string (str []),.slice none 0 0]
def pr(h:List UInt8)(v:Value):List Value:=[.string (str h),v]
def RPP{α:Type}(x:Wr.R α)(hd:α->List UInt8)(t:TypeId)(z:Nat)(n:α->Nat)(xs:α->List Value)(b:Nat)(w:World)(e:Ending)(w':World):Prop:=match x with
 |.ok a r=>∃v,e=.returned (.agg (pr (hd a) v).toArray)/\w'.ownsRow w.heap.size t z v (n a) (xs a)/\Row w' b [.string (str r)]/\But w.heap.size b w w'
 |.bad k=>e=.panicked (Fault (k:Int))/\But w.heap.size b w w'
def RPP.mkBad{α}{x:Wr.R α}{hd t z n xs b w w' k}(hx:x=.bad k)(h2:But w.heap.size b w w'):RPP x hd t z n xs b w (.panicked (Fault (k:Int))) w':=by subst hx;exact⟨rfl,h2⟩
def RPP.mkOk{α}{x:Wr.R α}{hd t z n xs b w w' a r v}(hx:x=.ok a r)(h1:w'.ownsRow w.heap.size t z v (n a) (xs a))(h2:Row w' b [.string (str r)])(h3:But w.heap.size b w w'):RPP x hd t z n xs b w (.returned (.agg (pr (hd a) v).toArray)) w':=by subst hx;exact⟨v,rfl,h1,h2,h3⟩
def RDP{α:Type}(x:Wr.R α)(hd:α->List UInt8)(t:TypeId)(z:Nat)(n:α->Nat)(xs:α->List Value)(w:World)(e:Ending)(w':World):Prop:=match x with
 |.ok a _=>∃v,e=.returned (.tuple #[.agg (pr (hd a) v).toArray,.int .i64 0])/\w'.ownsRow w.heap.size t z v (n a) (xs a)/\Below w.heap.size w w'
 |.bad k=>e=.returned (.tuple #[.agg pr0.toArray,.int .i64 k])/\Below w.heap.size w w'
def RDP.mkBad{α}{x:Wr.R α}{hd t z n xs w w' k}(hx:x=.bad k)(h2:Below w.heap.size w w'):RDP x hd t z n xs w (.returned (.tuple #[.agg pr0.toArray,.int .i64 k])) w':=by subst hx;exact⟨rfl,h2⟩
def RDP.mkOk{α}{x:Wr.R α}{hd t z n xs w w' a r v}(hx:x=.ok a r)(h1:w'.ownsRow w.heap.size t z v (n a) (xs a))(h3:Below w.heap.size w w'):RDP x hd t z n xs w (.returned (.tuple #[.agg (pr (hd a) v).toArray,.int .i64 0])) w':=by subst hx;exact⟨v,rfl,h1,h3⟩
structure PI(w:World)(b:Nat)(n:Nat)(lk:List UInt8)(wk:World):Prop where
 cur:Row wk b [.string (str lk)]
 own:Row wk w.heap.size pr0
 but:But w.heap.size b w wk
 le:lk.length<=n
def PI.step{w b n lk lk' wk wk'}(h:PI w b n lk wk)(hb:b<w.heap.size)(h1:Row wk' b [.string (str lk')])(h2:But wk.heap.size b wk wk')(hl:lk'.length<=lk.length):PI w b n lk' wk':=⟨h1,h2.row h.own h.own.lt (by omega),h.but.trans (h2.mono h.but.size),Nat.le_trans hl h.le⟩
def PI.bad{w b n lk wk wk'}(h:PI w b n lk wk)(h2:But wk.heap.size b wk wk'):But w.heap.size b w wk':=h.but.trans (h2.mono h.but.size)
def own_slice{w:World}{B n e z v xs}(h:w.ownsRow B e z v n xs):∃a c,v=.slice a n c:=by rcases h.2 with⟨rfl,rfl⟩|⟨g,cap,cur,rfl,_⟩;exact⟨none,0,rfl⟩;exact⟨_,cap,rfl⟩
namespace Wr
def blkR(l:List UInt8):R (List UInt8×List (List UInt8)):=(take 80 l).bind λh r=>(upTo 1 16 r).bind λn r=>(txs n r).map λts=>(h,ts)
def rplR(l:List UInt8):R (List UInt8×List (List UInt8)):=(take 32 l).bind λh r=>(upTo 1 16 r).bind λn r=>(txs n r).map λts=>(h,ts)
def reqR(l:List UInt8):R (List UInt8×List Nat):=(take 32 l).bind λh r=>(upTo 1 16 r).bind λn r=>(indexes 16 n 0 r).map λis=>(h,is)
end Wr
def built_Block(s:ByteArray)(a:Option Addr)(n c:Nat):prog.built 101 [(0,.string s),(1,.slice a n c)]=some #[.string s,.slice a n c]:=by kernel_rfl
def info_Block:(prog.info? 101).map (·.size)=some 2:=by kernel_rfl
def build_Block{ops:Array Oper}{rest:List Oper}{o:Oper}{a:Act}{w:World}{Q:Exit->Act->World->Prop}(hgd:o.guard=none)(x y:Operand)(ho:o.op=.build 101 #[(0,x),(1,y)]) (s:List UInt8) (v:Value) (hv:∃a n c,v=.slice a n c) (hx:a.eval x=.string (str s)) (hy:a.eval y=v) (h:wpList prog ops Q rest (a.put o.dst (.agg (pr s v).toArray)) w):wpList prog ops Q (o::rest) a w:=by obtain⟨ad,n,c,rfl⟩:=hv;refine wpList_buildTo hgd 101 _ ho _ rfl _ ?_ h;simp only[List.map_toArray,List.map_cons,List.map_nil,hx,hy];exact built_Block (str s) ad n c
def pr_one{v} h(hv:v.oneCell'=true):(pr h v).all (·.oneCell')=true:=by unfold pr;rw[List.all_cons,List.all_cons,hv];rfl
def built_Request(s:ByteArray)(a:Option Addr)(n c:Nat):prog.built 96 [(0,.string s),(1,.slice a n c)]=some #[.string s,.slice a n c]:=by kernel_rfl
def info_Request:(prog.info? 96).map (·.size)=some 2:=by kernel_rfl
def build_Request{ops:Array Oper}{rest:List Oper}{o:Oper}{a:Act}{w:World}{Q:Exit->Act->World->Prop}(hgd:o.guard=none)(x y:Operand)(ho:o.op=.build 96 #[(0,x),(1,y)]) (s:List UInt8) (v:Value) (hv:∃a n c,v=.slice a n c) (hx:a.eval x=.string (str s)) (hy:a.eval y=v) (h:wpList prog ops Q rest (a.put o.dst (.agg (pr s v).toArray)) w):wpList prog ops Q (o::rest) a w:=by obtain⟨ad,n,c,rfl⟩:=hv;refine wpList_buildTo hgd 96 _ ho _ rfl _ ?_ h;simp only[List.map_toArray,List.map_cons,List.map_nil,hx,hy];exact built_Request (str s) ad n c
def make2(w:World):(Instr.makeSlice 64 (.int .i64 (2:Nat)) (.int .i64 (2:Nat))).run prog w=.ok (.slice (some ⟨w.heap.size,0,none⟩) 2 2) (w.alloc (.cells (w8 (List.replicate 2 0)).toArray 5)):=by kernel_rfl
def make4(w:World):(Instr.makeSlice 64 (.int .i64 (4:Nat)) (.int .i64 (4:Nat))).run prog w=.ok (.slice (some ⟨w.heap.size,0,none⟩) 4 4) (w.alloc (.cells (w8 (List.replicate 4 0)).toArray 5)):=by kernel_rfl
def make8(w:World):(Instr.makeSlice 64 (.int .i64 (8:Nat)) (.int .i64 (8:Nat))).run prog w=.ok (.slice (some ⟨w.heap.size,0,none⟩) 8 8) (w.alloc (.cells (w8 (List.replicate 8 0)).toArray 5)):=by kernel_rfl
def low_byte x i:U (shr x (8*i)) % 256=Y (UInt8.ofNat (x.toNat/256^i % 256)):=by
 have h:(shr x (8*i)).toNat=x.toNat/2^ (8*i):=by unfold shr;rw[UInt64.toNat_ofNat'];have:=x.toNat_lt;exact Nat.mod_eq_of_lt (Nat.lt_of_le_of_lt (Nat.div_le_self _ _) this)
 unfold U Y;rw[UInt8.toNat_ofNat',h,show 2^ (8*i)=256^i from Nat.pow_mul 2 8 i];omega
def low_byte' x i:(shr x (8*i)).toUInt8=UInt8.ofNat (x.toNat/256^i % 256):=by apply Y_inj;rw[<-low_byte];unfold U Y;rw[UInt64.toNat_toUInt8];omega
def low_ext L n k(hl:L.length=k)(h:∀j,j<k->nth L j=nth (Wr.low n k) j):L=Wr.low n k:=by apply List.ext_getElem?;intro j;by_cases hj:j<k;have:=h j hj;unfold nth at this;rw[List.getD_eq_getElem?_getD,List.getD_eq_getElem?_getD,List.getElem?_eq_getElem (by omega),List.getElem?_eq_getElem (by rw[Wr.low_length];exact hj)]at this;rw[List.getElem?_eq_getElem (by omega),List.getElem?_eq_getElem (by rw[Wr.low_length];exact hj)];exact congrArg some this;rw[List.getElem?_eq_none (by omega),List.getElem?_eq_none (by rw[Wr.low_length];omega)]
def nth_set L i j y(hi:i<L.length):nth (L.set i y) j=if i=j then y else nth L j:=by unfold nth;rw[List.getD_eq_getElem?_getD,List.getElem?_set];split;rename_i h;subst h;simp;rw[List.getD_eq_getElem?_getD]
def low_calls(x:UInt64)(k:Nat)(w:World)(hk:k<=8)(hk1:0<k)(hmk:∀w:World,(Instr.makeSlice 64 (.int .i64 k) (.int .i64 k)).run prog w=.ok (.slice (some ⟨w.heap.size,0,none⟩) k k) (w.alloc (.cells (w8 (List.replicate k 0)).toArray 5))):Calls prog 99 #[.int .u64 (U x),.int .i64 k] w λe w'=>e=.returned (.string (str (Wr.low x.toNat k)))/\Below w.heap.size w w':=by
 have hR:Row (w.alloc (.cells (w8 (List.replicate k 0)).toArray 5)) w.heap.size (w8 (List.replicate k 0)):=Row.new w _ _;have hB:Below w.heap.size w (w.alloc (.cells (w8 (List.replicate k 0)).toArray 5)):=(Below.refl _ _).alloc (Nat.le_refl _) _;go_enter func99,ntmps99;go_wp2_with fail;generalize w.alloc _=w1 at hR hB|-;have H1:=Lib.hid hR;have H2:=Lib.hid hB;clear hR hB hmk;go_loopw [6,11] (λjv iv wr=>∃(i:Nat)(L:List UInt8),i<=k/\iv=.int .i64 i/\L.length=k/\Row wr w.heap.size (w8 L)/\Below w.heap.size w wr/\∀j,j<i->nth L j=nth (Wr.low x.toNat k) j) (λ_ iv _=>k-(intOf iv).toNat)
 exact⟨0,List.replicate k 0,by omega,rfl,by simp,H1.out,H2.out,λj hj=>by omega⟩;clear H1 H2;obtain⟨i,L,hi,rfl,hL,hR,hB,hj⟩:=hrel;by_cases hlt:i<k
 ·have p1:(i:Int)< (k:Int):=by omega
  have h8:0<=8*(i:Int):=by omega
  have e1:=low_byte' x i;have e2:=Wr.low_get x.toNat k i hlt;have hc0:=hR.cell i;rw[w8_get L i (by omega)]at hc0;have hz:=hR.free i;obtain⟨y,hy⟩:∃y,(shr x (8*i)).toUInt8=y:=⟨_,rfl⟩;rw[hy]at e1;rw[<-e1]at e2;have S1:=Lib.hid (show Row (wr.setCell ⟨w.heap.size,i,none⟩ (.int .u8 (Y y))) w.heap.size (w8 (L.set i y))from by rw[<-w8_set];exact hR.set i _);have S2:=Lib.hid (show Below w.heap.size w (wr.setCell ⟨w.heap.size,i,none⟩ (.int .u8 (Y y)))from hB.setCell (Nat.le_refl _) _);have S3:=Lib.hid (show∀j,j<i+1->nth (L.set i y) j=nth (Wr.low x.toNat k) j from λj hj'=>by rw[nth_set L i j y (by omega)];split;rename_i h;subst h;rw[e2];exact hj j (by omega));subst hy;clear hR hB hj e2 e1;go_wp2_with fail;go_roundw
  ·exact⟨i+1,L.set i _,by omega,by go_num,by rw[List.length_set];exact hL,S1.out,S2.out,S3.out⟩
  simp[intOf];omega
 obtain rfl:i=k:=by omega
 have hbt:=hR.bytes;have e:=low_ext L x.toNat i hL hj;subst e;go_wp2_with (with_reducible refine conv_arm (o:=⟨some 24,_,_,_,_,_⟩) rfl _ _ _ _ rfl w.heap.size 0 i i (Wr.low x.toNat i) (Wr.low_length _ _) rfl underlying64 underlying5 underlying9 hbt ?_);go_ret;exact⟨rfl,hB⟩
def size_ofNat(n:Nat)(h:n<18446744073709551616):U (UInt64.ofNat n)=(n:Int)/\(UInt64.ofNat n).toNat=n:=by
 have:(UInt64.ofNat n).toNat=n:=by rw[UInt64.toNat_ofNat'];exact Nat.mod_eq_of_lt h
 exact⟨by unfold U;rw[this],this⟩
def psize_calls(n:Nat)(w:World)(hn:n<18446744073709551616):Calls prog 69 #[.int .u64 n] w λe w'=>e=.returned (.string (str (Wr.sizeB n)))/\Below w.heap.size w w':=by
 obtain⟨hU,hN⟩:=size_ofNat n hn;have L2:=low_calls (UInt64.ofNat n) 2 w (by omega) (by omega) make2;have L4:=low_calls (UInt64.ofNat n) 4 w (by omega) (by omega) make4;have L8:=low_calls (UInt64.ofNat n) 8 w (by omega) (by omega) make8;rw[hU,hN]at L2 L4 L8;have H2:=Lib.hid L2;have H4:=Lib.hid L4;have H8:=Lib.hid L8;clear L2 L4 L8 hU hN;unfold Wr.sizeB;by_cases h1:n<253
 ·rw[if_pos h1];have p1:(n:Int)<253:=by omega
  have e1:(n:Int) % 256=Y (UInt8.ofNat n):=by unfold Y;rw[UInt8.toNat_ofNat'];omega
  have e2:IntKind.u8.wrap (n:Int)=Y (UInt8.ofNat n):=by rw[<-e1];simp[IntKind.wrap,IntKind.bits,IntKind.signed]
  go_enter func69,ntmps69;go_wp2_with fail;go_ret;exact⟨rfl,(Below.refl _ _).alloc (Nat.le_refl _) _⟩
 rw[if_neg h1];have p1:¬(n:Int)<253:=by omega
 by_cases h2:n<65536
 ·rw[if_pos h2];have p2:(n:Int)<65536:=by omega
  go_enter func69,ntmps69;go_wp2_with fail;refine H2.out.mono ?_;rintro e w1⟨rfl,hb⟩;have hl:=Wr.low_length n 2;go_wp2_with fail;go_ret;exact⟨rfl,hb⟩
 rw[if_neg h2];have p2:¬(n:Int)<65536:=by omega
 by_cases h3:n<4294967296
 ·rw[if_pos h3];have p3:(n:Int)<4294967296:=by omega
  go_enter func69,ntmps69;go_wp2_with fail;refine H4.out.mono ?_;rintro e w1⟨rfl,hb⟩;have hl:=Wr.low_length n 4;go_wp2_with fail;go_ret;exact⟨rfl,hb⟩
 rw[if_neg h3];have p3:¬(n:Int)<4294967296:=by omega
 go_enter func69,ntmps69;go_wp2_with fail;refine H8.out.mono ?_;rintro e w1⟨rfl,hb⟩;have hl:=Wr.low_length n 8;go_wp2_with fail;go_ret;exact⟨rfl,hb⟩
def name_calls(l:List UInt8)(w:World)(hT:Tabs w)(hm:l.length<=35184372088832):Calls prog 27 #[.string (str l)] w λe w'=>e=.returned (.string (str (Mk.twice l)))/\Below w.heap.size w w':=by
 have h1:=hT.lt;have hc:=Row.new w [.string (str l)] 9;have hB:Below w.heap.size w (w.alloc (.cells #[.string (str l)] 9)):=(Below.refl _ _).alloc (Nat.le_refl _) _;have T1:=Lib.hid (htwice_one w.heap.size 1 l _ (hT.below hB h1) (hc.cell 0) hm);have HB:=Lib.hid hB;clear hT hc hB;go_enter func27,ntmps27;go_wp2_with fail;refine T1.out.mono ?_;rintro e w2⟨rfl,hb2⟩;have hz2:=hb2.size;rw[World.size_alloc]at hz2;have B2:=Lib.hid (HB.out.trans (hb2.mono (by rw[World.size_alloc];omega)))
 have hR3:Row (w2.alloc (.cells (w8 (List.replicate 32 0)).toArray 67)) w2.heap.size (w8 (List.replicate 32 0)):=Row.new w2 _ _;have hB3:=below_setRow ((Below.refl w2.heap.size w2).alloc (Nat.le_refl _) (.cells (w8 (List.replicate 32 0)).toArray 67)) (Nat.le_refl _) (w8 (Mk.twice l)).toArray;have hR4:=hR3.setRow (w8 (Mk.twice l));rw[Tryz.zeroDg]at hR3 hB3 hR4;have B3:=Lib.hid hB3;clear hb2 T1 hB3;go_wp2_with (first|(with_reducible refine store_dg (o:=⟨none,_,_,_,_,_⟩) rfl _ _ rfl w2.heap.size (List.replicate 32 0) (Mk.twice l) rfl (twice32 l) rfl rfl hR3 ?_)|(with_reducible refine conv_arm (o:=⟨some 8,_,_,_,_,_⟩) rfl _ _ _ _ rfl w2.heap.size 0 32 32 (Mk.twice l) (twice32 l) rfl underlying64 underlying5 underlying9 hR4.bytes ?_));go_ret;exact⟨rfl,B2.out.trans (B3.out.mono (by omega))⟩
def own_cells{w:World}{B n e z v xs}(h:w.ownsRow B e z v n xs)(hn:0<n):∃g cap,v=.slice (some ⟨g,0,none⟩) n cap/\B<=g/\g<w.heap.size/\∀k,k<n*z->w.cell? ⟨g,k,none⟩=xs[k]?:=by obtain⟨_,⟨_,h0⟩|⟨g,cap,cur,rfl,hb,hg,_,_,_,ht⟩⟩:=h;omega;refine⟨g,cap,rfl,hb,(Array.getElem?_eq_some_iff.1 hg).1,λk hk=>?_⟩;rw[<-ht,List.getElem?_take_of_lt hk];simp[World.cell?,hg]
theorem txsCells_get:∀ts i j,i<ts.length->j<33->(txsCells ts)[33*i+j]? =(txCells (ts.getD i []))[j]?
 |[],i,j,hi,_=>by simp at hi|t::ts,0,j,_,hj=>by have:=txCells_len t;show(txCells t++txsCells ts)[33*0+j]? =_;rw[List.getElem?_append_left (by omega)];simp|t::ts,i+1,j,hi,hj=>by have:=txCells_len t;show(txCells t++txsCells ts)[33*(i+1)+j]? =_;rw[List.getElem?_append_right (by omega),show 33*(i+1)+j-(txCells t).length=33*i+j by omega,txsCells_get ts i j (by simpa using hi) hj];rfl
def TxsAt(w:World)(g:Nat)(ts:List (List UInt8)):Prop:=∀i,i<ts.length->w.rangeAt g (33*i) (txCells (ts.getD i []))
def own_txs{w:World}{B:Nat}{v:Value}{ts:List (List UInt8)}(h:w.ownsRow B 69 33 v ts.length (txsCells ts))(hn:0<ts.length):∃g cap,v=.slice (some ⟨g,0,none⟩) ts.length cap/\B<=g/\g<w.heap.size/\TxsAt w g ts:=by
 obtain⟨g,cap,rfl,hb,hg,hc⟩:=own_cells h hn;refine⟨g,cap,rfl,hb,hg,λi hi j u hu=>?_⟩;have hj:j<33:=by have:=(List.getElem?_eq_some_iff.1 hu).1;rwa[txCells_len]at this
 rw[hc _ (by omega),txsCells_get ts i j hi hj];exact hu
def TxsAt.below{B g ts w w'}(h:TxsAt w g ts)(hb:Below B w w')(hB:g<B):TxsAt w' g ts:=λi hi=>rangeAt_of_block (h i hi) (hb.block g hB)
def load_txat{ops:Array Oper}{rest:List Oper}{o:Oper}{a:Act}{w:World}{Q:Exit->Act->World->Prop}(hgd:o.guard=none)(x:Operand)(ho:o.op=.load 69 x) (g off:Nat) (t:List UInt8) (hx:a.eval x=.pointer (some ⟨g,off,none⟩)) (hr:w.rangeAt g off (txCells t)) (h:wpList prog ops Q rest (a.put o.dst (txV t)) w):wpList prog ops Q (o::rest) a w:=wpList_load_mid hgd _ x ho g off hx (txCells t) _ hr underlying69 rfl (by rw[infoTx,txCells_len]) h
def Mk.joined(ts:List (List UInt8)):List UInt8:=Wr.sizeB ts.length++ts.flatten
theorem flat_short:∀(ts:List (List UInt8)),(∀t∈ts,t.length<=610)->ts.flatten.length<=610*ts.length
 |[],_=>Nat.le_refl _|t::ts,h=>by have h1:=h t List.mem_cons_self;have h2:=flat_short ts λx hx=>h x (List.mem_cons_of_mem _ hx);rw[List.flatten_cons,List.length_append,List.length_cons];omega
def sizeB_short n:(Wr.sizeB n).length<=9:=by unfold Wr.sizeB;split;simp;split;simp[Wr.low_length];split;simp[Wr.low_length];simp[Wr.low_length]
def take_flat(ts:List (List UInt8)) i(h:i<ts.length):(ts.take (i+1)).flatten=(ts.take i).flatten++ts.getD i []:=by rw[List.take_succ_eq_append_getElem h,List.flatten_append,List.getD_eq_getElem?_getD,List.getElem?_eq_getElem h];simp
def join_calls(v:Value)(ts:List (List UInt8))(B:Nat)(w:World)(ho:w.ownsRow B 69 33 v ts.length (txsCells ts))(hs:∀t∈ts,t.length<=610)(hn:ts.length<=1000):Calls prog 78 #[v] w λe w'=>e=.returned (.string (str (Mk.joined ts)))/\Below w.heap.size w w':=by
 obtain⟨ad,cap,hv⟩:=own_slice ho;have H0:=Lib.hid ho;have HS:=Lib.hid hs;have q1:IntKind.u64.wrap (ts.length:Int)=ts.length:=by rw[u64_wrap,U_nat];omega
 have T1:=Lib.hid (psize_calls ts.length w (by omega));have hl:=sizeB_short ts.length;have HJ:=Lib.hid (show Mk.joined ts=Wr.sizeB ts.length++ts.flatten from rfl);generalize Wr.sizeB ts.length=sz at T1 hl HJ;rw[hv];clear ho hs;go_enter func78,ntmps78;go_wp2_with fail;refine T1.out.mono ?_;rintro e w1⟨rfl,hb1⟩;have B1:=Lib.hid hb1;clear hb1 T1;go_wp2_with fail;go_loopw [3,12] (λsv iv wr=>∃(i:Nat)(s:List UInt8),i<=ts.length/\iv=.int .i64 i/\sv=.string (str s)/\s.length<=9+610*i/\s=sz++(ts.take i).flatten/\Below w.heap.size w wr) (λ_ iv _=>ts.length-(intOf iv).toNat)
 exact⟨0,sz,by omega,rfl,rfl,by omega,by simp,B1.out⟩;obtain⟨i,s,hi,rfl,rfl,hsl,hse,hB⟩:=hrel;have HE:=Lib.hid hse;have HB:=Lib.hid hB;have hzr:=hB.size;clear hse hB;by_cases hlt:i<ts.length
 ·have p1:(i:Int)< (ts.length:Int):=by omega
  obtain⟨g,cap',hv',_,hg,hat⟩:=own_txs H0.out (by omega);rw[hv]at hv';cases hv';have ht:(ts.getD i []).length<=610:=HS.out _ (by rw[List.getD_eq_getElem?_getD,List.getElem?_eq_getElem hlt];exact List.getElem_mem hlt);have HT:=Lib.hid (take_flat ts i hlt);have hra:=(hat.below HB.out hg) i hlt;obtain⟨t,het⟩:∃t,ts.getD i []=t:=⟨_,rfl⟩;rw[het]at ht HT hra;rw[Nat.mul_comm]at hra;have r1:Row (wr.alloc (.cells tx0.toArray 69)) wr.heap.size tx0:=Row.new wr tx0 69;have hB1:Below w.heap.size w (wr.alloc (.cells tx0.toArray 69)):=HB.out.alloc hzr _;have hc:=(r1.setRow (txCells t)).cell 0;rw[show(txCells t)[0]? =some (.string (str t))from rfl]at hc;have B2:=Lib.hid (below_setRow hB1 hzr (txCells t).toArray);rw[Tryz.zeroTx]at r1 hc B2;clear hat het hB1;go_wp2_with (first|(refine load_txat (o:=⟨some 15,_,_,_,_,_⟩) rfl _ rfl g (i*33) t rfl hra ?_)|(with_reducible refine store_cells (o:=⟨none,_,_,_,_,_⟩) rfl _ _ _ rfl wr.heap.size tx0 (txCells t) rfl rfl r1 (infoTx.trans (by rw[txCells_len])) (by rw[txCells_len,tx0_len]) (txCells_one t) ?_));go_roundw
  ·exact⟨i+1,s++t,by omega,by go_num,rfl,by rw[List.length_append];omega,by rw[HE.out,HT.out,List.append_assoc],B2.out⟩
  simp[intOf];omega
 obtain rfl:i=ts.length:=by omega
 go_wp2_with fail;go_ret;exact⟨by rw[HJ.out,HE.out,List.take_of_length_le (Nat.le_refl _)];rfl,HB.out⟩
end
section
open Nums
namespace Wr
def blkR'(k:Nat)(l:List UInt8):R (List UInt8×List (List UInt8)):=(take k l).bind λh r=>(upTo 1 16 r).bind λn r=>(txs n r).map λts=>(h,ts)
def reqR'(l:List UInt8):R (List UInt8×List Nat):=(take 32 l).bind λh r=>(upTo 1 16 r).bind λn r=>(indexes 16 n 0 r).map λis=>(h,is)
end Wr
namespace Rf
open Wr (R)
def blk(k:Nat)(l:List UInt8):(List UInt8×List (List UInt8))×St:=
 let p:=take k (l,0);let q:=within 1 16 p.2;let r:=txs q.1 q.2
 ((p.1,r.1),r.2)
def req(l:List UInt8):(List UInt8×List Nat)×St:=
 let p:=take 32 (l,0);let q:=within 1 16 p.2;let r:=indexes 16 q.1 0 q.2
 ((p.1,r.1),r.2)
def map_pair{α β x p}(h:Ag x id p)(g:α->β):Ag (x.map g) id (g p.1,p.2):=by cases x with|ok a r=>have h':p=(a,(r,0)):=h;rw[h'];rfl|bad e=>exact h
def blk_ag k l:Ag (Wr.blkR' k l) id (blk k l):=by unfold Wr.blkR' blk;refine(take_ag k l).bind (λh r hx hp=>?_) (λh=>?_);rw[hp];dsimp only[id];refine(within_ag 1 16 r).bind (λn r2 hx hp=>?_) (λh=>?_);rw[hp];exact map_pair (txs_ag n r2) _;dsimp only;rw[txs_bad _ _ h];dsimp only;rw[within_bad _ _ _ h,txs_bad _ _ h]
def req_ag l:Ag (Wr.reqR' l) id (req l):=by unfold Wr.reqR' req;refine(take_ag 32 l).bind (λh r hx hp=>?_) (λh=>?_);rw[hp];dsimp only[id];refine(within_ag 1 16 r).bind (λn r2 hx hp=>?_) (λh=>?_);rw[hp];exact map_pair (indexes_ag 16 n 0 r2) _;dsimp only;rw[indexes_bad _ _ _ _ h];dsimp only;rw[within_bad _ _ _ h,indexes_bad _ _ _ _ h]
def readBlk_pos{l n}(h:Wr.readBlock l=.bad n):n≠0:=by have:=fin_done (blk_ag 80 l);rw[show Wr.fin (Wr.blkR' 80 l)=.bad n from h]at this;exact this.2
def readReq_pos{l n}(h:Wr.readRequest l=.bad n):n≠0:=by have:=fin_done (req_ag l);rw[show Wr.fin (Wr.reqR' l)=.bad n from h]at this;exact this.2
end Rf
end
section
open Go.RowKit Nums
namespace Wr
def take_len{n l t r}(h:take n l=.ok t r):t.length=n:=by unfold take at h;by_cases c:l.length<n;rw[if_pos c]at h;cases h;rw[if_neg c]at h;cases h;rw[List.length_take];omega
theorem txs_short:∀n l ts r,txs n l=.ok ts r->ts.length=n/\∀t∈ts,t.length<=610
 |0,l,ts,r,h=>by cases h;exact⟨rfl,λ_ h=>by cases h⟩
 |n+1,l,ts,r,h=>by
  rw[txs]at h;cases hx:tx l with
  |bad e=>rw[hx]at h;cases h
  |ok t s=>
  rw[hx,R.bind_ok]at h;cases hy:txs n s with
  |bad e=>rw[hy]at h;cases h
  |ok us q=>rw[hy]at h;cases h;obtain⟨h1,h2⟩:=txs_short n s us _ hy;refine⟨by rw[List.length_cons,h1],λx hx'=>?_⟩;rcases List.mem_cons.1 hx' with rfl|hm;exact tx_short hx;exact h2 x hm
theorem indexes_len B:∀n nx l is r,indexes B n nx l=.ok is r->is.length=n
 |0,nx,l,is,r,h=>by cases h;rfl
 |n+1,nx,l,is,r,h=>by
  rw[indexes]at h;cases hx:index nx B l with
  |bad e=>rw[hx]at h;cases h
  |ok i s=>
  rw[hx,R.bind_ok]at h;cases hy:indexes B n (i+1) s with
  |bad e=>rw[hy]at h;cases h
  |ok us q=>rw[hy]at h;cases h;rw[List.length_cons,indexes_len B n _ s us _ hy]
def fin_inv{α}{x:R α}{a r}(h:fin x=.ok a r):x=.ok a r:=by
 unfold fin at h;cases x with
 |bad e=>cases h
 |ok b s=>have h':(if s=[]then(.ok b s:R α)else .bad 5)=.ok a r:=h;by_cases hs:s=[];rw[if_pos hs]at h';exact h';rw[if_neg hs]at h';cases h'
def blk_inv{l a r}(h:readBlock l=.ok a r):a.1.length=80/\1<=a.2.length/\a.2.length<=16/\∀t∈a.2,t.length<=610:=by
 have h:=fin_inv h;cases h1:take 80 l with
 |bad e=>rw[h1]at h;cases h
 |ok t s=>
 rw[h1,R.bind_ok]at h;cases h2:upTo 1 16 s with
 |bad e=>rw[h2]at h;cases h
 |ok n s2=>
 rw[h2,R.bind_ok]at h;cases h3:txs n s2 with
 |bad e=>rw[h3]at h;cases h
 |ok ts s3=>rw[h3]at h;cases h;obtain⟨h4,h5⟩:=txs_short n s2 ts _ h3;have:=upTo_le h2;exact⟨take_len h1,by dsimp only;omega,by dsimp only;omega,h5⟩
def req_inv{l a r}(h:readRequest l=.ok a r):a.1.length=32/\a.2.length<=16:=by
 have h:=fin_inv h;cases h1:take 32 l with
 |bad e=>rw[h1]at h;cases h
 |ok t s=>
 rw[h1,R.bind_ok]at h;cases h2:upTo 1 16 s with
 |bad e=>rw[h2]at h;cases h
 |ok n s2=>
 rw[h2,R.bind_ok]at h;cases h3:indexes 16 n 0 s2 with
 |bad e=>rw[h3]at h;cases h
 |ok is s3=>rw[h3]at h;cases h;have:=upTo_le h2;have h4:=indexes_len 16 n 0 s2 is _ h3;exact⟨take_len h1,by dsimp only;omega⟩
end Wr
def wpQuiet_loadtx{ops:Array Oper}{rest:List Oper}{o:Oper}{a:Act}{C:World->Prop}{Q:Act->Prop}(hgd:o.guard=none)(x:Operand)(ho:o.op=.load 69 x) (g off:Nat) (t:List UInt8) (hx:a.eval x=.pointer (some ⟨g,off,none⟩)) (hr:∀w,C w->w.rangeAt g off (txCells t)) (h:wpQuiet prog ops C Q rest (a.put o.dst (txV t))):wpQuiet prog ops C Q (o::rest) a:=by unfold wpQuiet;rw[if_pos (by simp[Region.wanted,hgd])];refine⟨_,λw hw=>?_,h⟩;have:=run_loadAt_mid (P:=prog) w g off 69 (txCells t) _ (hr w hw) underlying69 rfl (by rw[infoTx,txCells_len]);unfold Oper.quietAt execOp;simp only[ho,hx,Sem.run_bind,this,Result.andThen_ok,Sem.run_pure,Oper.quietUpon];first|trivial|exact⟨trivial,trivial⟩|exact⟨rfl,rfl⟩|exact⟨rfl,hw⟩
def wns_get is i(h:i<is.length):(wns is)[i]? =some (.int .i64 ((is.getD i 0:Nat):Int)):=by unfold wns;rw[List.getElem?_map,List.getD_eq_getElem?_getD,List.getElem?_eq_getElem h];rfl
def Row.of_block{w w' b l}(h:Row w b l)(e:w'.heap[b]? =w.heap[b]?):Row w' b l:=by obtain⟨T,h⟩:=h;exact⟨T,by rw[e];exact h⟩
def pick_step txs is i us(hi:i<is.length)(h:En.pick txs is=(En.pick txs (is.drop i)).map (λts=>us++ts))(hx:¬txs.length<=is.getD i 0):En.pick txs is=(En.pick txs (is.drop (i+1))).map (λts=>(us++[txs.getD (is.getD i 0) []])++ts):=by
 rw[h,List.drop_eq_getElem_cons hi];have e:is.getD i 0=is[i]:=by rw[List.getD_eq_getElem?_getD,List.getElem?_eq_getElem hi];rfl
 rw[e]at hx|-;rw[En.pick,if_neg hx];cases En.pick txs (is.drop (i+1))with|none=>rfl|some q=>simp
def pick_none txs is i us(hi:i<is.length)(h:En.pick txs is=(En.pick txs (is.drop i)).map (λts=>us++ts))(hx:txs.length<=is.getD i 0):En.pick txs is=none:=by
 rw[h,List.drop_eq_getElem_cons hi];have e:is.getD i 0=is[i]:=by rw[List.getD_eq_getElem?_getD,List.getElem?_eq_getElem hi];rfl
 rw[e]at hx;rw[En.pick,if_pos hx];rfl
def SvS(A gb n cb off:Nat)(t:List UInt8)(u:World):Prop:=u.cell? ⟨A,1,none⟩=some (.slice (some ⟨gb,0,none⟩) n cb)/\u.rangeAt gb off (txCells t)
def ansV(p:List UInt8×Nat):Value:=.tuple #[.string (str p.1),.int .i64 (p.2:Int)]
end
section
open Nums
namespace Wr
def body_min{l u r}(h:body l=.ok u r):r.length+4<=l.length:=by
 unfold body at h;cases h1:take 4 l with
 |bad e=>rw[h1]at h;cases h
 |ok a s=>
 rw[h1,R.bind_ok]at h;have hs:s.length+4=l.length:=by unfold take at h1;split at h1;cases h1;cases h1;rw[List.length_drop];omega
 have ht:Tail s ((upTo 1 4 s).bind λn r=>(rep inp n r).bind λ_ r=>(upTo 1 4 r).bind λn r=>(rep outp n r).bind λ_ r=>(take 4 r).void):=(upTo_tail _ _ s).bind λn r _=>(rep_tail inp_tail n r).bind λ_ r _=>(upTo_tail _ _ r).bind λn r _=>(rep_tail outp_tail n r).bind λ_ r _=>(take_tail 4 r).void;have:=ht.le h;omega
def tx_inv{l t r}(h:tx l=.ok t r):t≠ []/\t.length<=610:=by
 unfold tx at h;cases hb:body l with
 |bad e=>rw[hb]at h;cases h
 |ok u s=>rw[hb,R.bind_ok]at h;cases h;have h1:=body_min hb;have h2:=body_eats l u _ hb;refine⟨λe=>?_,?_⟩;have:=congrArg List.length e;rw[List.length_take]at this;simp at this;omega;rw[List.length_take];omega
theorem txs_inv:∀n l ts r,txs n l=.ok ts r->ts.length=n/\∀t∈ts,t≠ []/\t.length<=610
 |0,l,ts,r,h=>by cases h;exact⟨rfl,λt ht=>by cases ht⟩
 |n+1,l,ts,r,h=>by
  rw[txs]at h;cases hx:tx l with
  |bad e=>rw[hx]at h;cases h
  |ok t s=>
  rw[hx,R.bind_ok]at h;cases hy:txs n s with
  |bad e=>rw[hy]at h;cases h
  |ok us q=>rw[hy]at h;cases h;obtain⟨h1,h2⟩:=txs_inv n s us _ hy;exact⟨by rw[List.length_cons,h1],λx hx'=>by rcases List.mem_cons.1 hx' with rfl|hx';exact tx_inv hx;exact h2 x hx'⟩
def index_inv{next bound l i r}(h:index next bound l=.ok i r):next<=i/\i<bound:=by
 unfold index at h;cases hx:size l with
 |bad e=>rw[hx]at h;cases h
 |ok d s=>rw[hx,R.bind_ok]at h;split at h;cases h;cases h;omega
theorem pairs_inv bound:∀n next l ps r,pairs bound n next l=.ok ps r->ps.length=n/\(ps.map (·.1)).Pairwise (· < ·)/\(∀p∈ps,next<=p.1/\p.1<bound)/\∀p∈ps,p.2≠ []/\p.2.length<=610
 |0,next,l,ps,r,h=>by cases h;exact⟨rfl,List.Pairwise.nil,(λp hp=>by cases hp),λp hp=>by cases hp⟩
 |n+1,next,l,ps,r,h=>by
  rw[pairs]at h;cases hx:index next bound l with
  |bad e=>rw[hx]at h;cases h
  |ok i s=>
  rw[hx,R.bind_ok]at h;cases hy:tx s with
  |bad e=>rw[hy]at h;cases h
  |ok t s2=>
  rw[hy,R.bind_ok]at h;cases hz:pairs bound n (i+1) s2 with
  |bad e=>rw[hz]at h;cases h
  |ok qs s3=>rw[hz]at h;cases h;obtain⟨h1,h2,h3,h4⟩:=pairs_inv bound n (i+1) s2 qs _ hz;have hi:=index_inv hx;refine⟨by rw[List.length_cons,h1],?_,?_,?_⟩;rw[List.map_cons,List.pairwise_cons];refine⟨λy hy'=>?_,h2⟩;obtain⟨p,hp,rfl⟩:=List.mem_map.1 hy';have:=(h3 p hp).1;dsimp only;omega;intro p hp;rcases List.mem_cons.1 hp with rfl|hp;exact hi;have:=h3 p hp;omega;intro p hp;rcases List.mem_cons.1 hp with rfl|hp;exact tx_inv hy;exact h4 p hp
theorem takes_inv k:∀n l ss r,takes k n l=.ok ss r->ss.length=n/\∀s∈ss,s.length=k
 |0,l,ss,r,h=>by cases h;exact⟨rfl,λs hs=>by cases hs⟩
 |n+1,l,ss,r,h=>by
  rw[takes]at h;cases hx:take k l with
  |bad e=>rw[hx]at h;cases h
  |ok t s=>
  rw[hx,R.bind_ok]at h;cases hy:takes k n s with
  |bad e=>rw[hy]at h;cases h
  |ok us q=>rw[hy]at h;cases h;obtain⟨h1,h2⟩:=takes_inv k n s us _ hy;exact⟨by rw[List.length_cons,h1],λx hx'=>by rcases List.mem_cons.1 hx' with rfl|hx';exact Rf.take_len hx;exact h2 x hx'⟩
structure CbOK(c:Cb):Prop where
 head:c.header.length=80
 nonce:c.nonce.length=8
 pos:0<c.shorts.length+c.sent.length
 le:c.shorts.length+c.sent.length<=16
 sent:Cp.SentOK (c.shorts.length+c.sent.length) c.sent
 six:∀s∈c.shorts,s.length=6
def cpt_inv{l c r}(h:readCompact l=.ok c r):CbOK c:=by
 have h:=fin_inv h;cases h1:take 80 l with
 |bad e=>rw[h1]at h;cases h
 |ok hd s1=>
 rw[h1,R.bind_ok]at h;cases h2:take 8 s1 with
 |bad e=>rw[h2]at h;cases h
 |ok nn s2=>
 rw[h2,R.bind_ok]at h;cases h3:upTo 0 16 s2 with
 |bad e=>rw[h3]at h;cases h
 |ok n s3=>
 rw[h3,R.bind_ok]at h;cases h4:takes 6 n s3 with
 |bad e=>rw[h4]at h;cases h
 |ok ss s4=>
 rw[h4,R.bind_ok]at h;cases h5:upTo 0 (16-ss.length) s4 with
 |bad e=>rw[h5]at h;cases h
 |ok m s5=>
 rw[h5,R.bind_ok]at h;split at h;cases h;rename_i hz;cases h6:pairs (m+ss.length) m 0 s5 with
 |bad e=>rw[h6]at h;cases h
 |ok ps s6=>rw[h6]at h;cases h;obtain⟨e1,e2,e3,e4⟩:=pairs_inv _ _ _ _ _ _ h6;obtain⟨e5,e6⟩:=takes_inv _ _ _ _ _ h4;have l3:=upTo_le h3;have l5:=upTo_le h5;refine⟨Rf.take_len h1,Rf.take_len h2,by dsimp only;omega,by dsimp only;omega,⟨e2,λp hp=>?_,e4⟩,e6⟩;have:=(e3 p hp).2;dsimp only;omega
def rpl_inv{l a r}(h:readReply l=.ok a r):a.1.length=32/\1<=a.2.length/\a.2.length<=16/\∀t∈a.2,t≠ []/\t.length<=610:=by
 have h:=fin_inv h;cases h1:take 32 l with
 |bad e=>rw[h1]at h;cases h
 |ok t s=>
 rw[h1,R.bind_ok]at h;cases h2:upTo 1 16 s with
 |bad e=>rw[h2]at h;cases h
 |ok n s2=>
 rw[h2,R.bind_ok]at h;cases h3:txs n s2 with
 |bad e=>rw[h3]at h;cases h
 |ok ts s3=>rw[h3]at h;cases h;obtain⟨h4,h5⟩:=txs_inv n s2 ts _ h3;have:=upTo_le h2;exact⟨Rf.take_len h1,by dsimp only;omega,by dsimp only;omega,h5⟩
end Wr
namespace Sd
open Wr
def Loc{α:Type}(p:List UInt8->R α):Prop:=∀l a r,p l=.ok a r->∃u,l=u++r/\∀x,p (u++x)=.ok a x
def bind_inv{α β:Type}{x:R α}{f:α->List UInt8->R β}{b:β}{s:List UInt8}(h:x.bind f=.ok b s):∃a r,x=.ok a r/\f a r=.ok b s:=by
 cases x with
 |bad e=>cases h
 |ok a r=>exact⟨a,r,rfl,h⟩
def Loc.pure{α:Type}(a:α):Loc λl=>R.ok a l:=λl b r h=>by cases h;exact⟨[],rfl,λx=>rfl⟩
theorem Loc.bad{α:Type}(e:Nat):Loc (α:=α) λ_=>R.bad e:=λl b r h=>by cases h
def Loc.bind{α β:Type}{p:List UInt8->R α}{f:α->List UInt8->R β}(hp:Loc p)(hf:∀a,Loc (f a)):Loc λl=>(p l).bind f:=λl b s h=>by obtain⟨a,r,h1,h2⟩:=bind_inv h;obtain⟨u,rfl,hu⟩:=hp l a r h1;obtain⟨v,rfl,hv⟩:=hf a r b s h2;refine⟨u++v,by rw[List.append_assoc],λx=>?_⟩;rw[List.append_assoc];show(p (u++(v++x))).bind f=_;rw[hu,R.bind_ok,hv]
def Loc.void{α:Type}{p:List UInt8->R α}(hp:Loc p):Loc λl=>(p l).void:=λl b s h=>by
 have h:(p l).void=.ok b s:=h;cases hx:p l with
 |bad e=>rw[hx]at h;cases h
 |ok a r=>rw[hx]at h;cases h;obtain⟨u,e,hu⟩:=hp _ _ _ hx;exact⟨u,e,λx=>by show(p (u++x)).void=_;rw[hu];rfl⟩
def Loc.ite{α:Type}{c:Prop}[Decidable c]{p q:List UInt8->R α}(hp:Loc p)(hq:Loc q):Loc λl=>if c then p l else q l:=by by_cases hc:c;simpa only[hc,if_true]using hp;simpa only[hc,if_false]using hq
def take_loc(n:Nat):Loc (take n):=λl a r h=>by
 unfold take at h;split at h;cases h;rename_i hl;cases h;refine⟨l.take n,(List.take_append_drop n l).symm,λx=>?_⟩;have e:(l.take n).length=n:=by rw[List.length_take];omega
 unfold take;rw[if_neg (by rw[List.length_append,e];omega),List.take_left' e,List.drop_left' e]
def size_loc:Loc size:=(take_loc 1).bind λt=>Loc.ite (Loc.pure _) ((take_loc _).bind λu=>Loc.ite (Loc.bad _) (Loc.pure _))
def upTo_loc(lo hi:Nat):Loc (upTo lo hi):=size_loc.bind λx=>Loc.ite (Loc.bad _) (Loc.pure _)
def script_loc:Loc script:=(upTo_loc 0 40).bind λn=>(take_loc n).void
def inp_loc:Loc inp:=(take_loc 36).bind λ_=>script_loc.bind λ_=>(take_loc 4).void
def outp_loc:Loc outp:=(take_loc 8).bind λ_=>script_loc
theorem rep_loc{p:List UInt8->R Unit}(hp:Loc p):∀n,Loc (rep p n)
 |0=>Loc.pure ()|n+1=>hp.bind λ_=>rep_loc hp n
def body_loc:Loc body:=(take_loc 4).bind λ_=>(upTo_loc 1 4).bind λn=>(rep_loc inp_loc n).bind λ_=>(upTo_loc 1 4).bind λn=>(rep_loc outp_loc n).bind λ_=>(take_loc 4).void
def tx_inv{l t r:List UInt8}(h:tx l=.ok t r):l=t++r/\∀x,tx (t++x)=.ok t x:=by
 obtain⟨u,s,h1,h2⟩:=bind_inv h;cases h2;obtain⟨v,e,hv⟩:=body_loc l u _ h1;have ev:l.take (l.length-r.length)=v:=by subst e;rw[List.length_append,Nat.add_sub_cancel];exact List.take_left' rfl
 rw[ev];refine⟨e,λx=>?_⟩;unfold tx;rw[hv,R.bind_ok,List.length_append,Nat.add_sub_cancel];congr 1;exact List.take_left' rfl
def Tx(t:List UInt8):Prop:=tx t=.ok t []
def Tx.of{l t r:List UInt8}(h:tx l=.ok t r):Tx t:=by have:=(tx_inv h).2 [];rwa[List.append_nil]at this
def Tx.of_read{t a r:List UInt8}(h:readTx t=.ok a r):Tx a/\a=t:=by obtain⟨b,s,h1,h2⟩:=bind_inv h;split at h2;rename_i hs;cases h2;subst hs;obtain⟨e,_⟩:=tx_inv h1;rw[List.append_nil]at e;exact⟨Tx.of h1,e.symm⟩;cases h2
def upTo_small{lo hi:Nat}(hh:hi<253){l:List UInt8}{m:Nat}{r:List UInt8}(h:upTo lo hi l=.ok m r):0<l.length/\m=(nth l 0).toNat/\lo<=m/\m<=hi/\r=l.drop 1:=by
 obtain⟨x,s,h1,h2⟩:=bind_inv h;split at h2;cases h2;rename_i hx;cases h2;obtain⟨t,s,h3,h4⟩:=bind_inv h1;unfold take at h3;split at h3;cases h3;rename_i hl;cases h3;have h0:0<l.length:=by omega
 have e0:nth (l.take 1) 0=nth l 0:=by cases l with|nil=>simp at h0|cons y l=>rfl
 rw[e0]at h4;split at h4;cases h4;exact⟨h0,rfl,by omega,by omega,rfl⟩;rename_i hb;exfalso;obtain⟨u,s,h5,h6⟩:=bind_inv h4;split at h6;cases h6;rename_i hq;cases h6;have:253<=least (nth l 0):=by unfold least;split<;>(try split)<;>omega
 omega
end Sd
namespace Sd
open Wr Cp
def Held(s:RS):Prop:=∀t∈s.txs,t≠ []->Tx t
def held_idle:Held idle:=λt ht=>by cases ht
end Sd
end
section
open Go.RowKit Nums
def built_Reply(s:ByteArray)(a:Option Addr)(n c:Nat):prog.built 76 [(0,.string s),(1,.slice a n c)]=some #[.string s,.slice a n c]:=by kernel_rfl
def info_Reply:(prog.info? 76).map (·.size)=some 2:=by kernel_rfl
def build_Reply{ops:Array Oper}{rest:List Oper}{o:Oper}{a:Act}{w:World}{Q:Exit->Act->World->Prop}(hgd:o.guard=none)(x y:Operand)(ho:o.op=.build 76 #[(0,x),(1,y)]) (s:List UInt8) (v:Value) (hv:∃a n c,v=.slice a n c) (hx:a.eval x=.string (str s)) (hy:a.eval y=v) (h:wpList prog ops Q rest (a.put o.dst (.agg (pr s v).toArray)) w):wpList prog ops Q (o::rest) a w:=by obtain⟨ad,n,c,rfl⟩:=hv;refine wpList_buildTo hgd 76 _ ho _ rfl _ ?_ h;simp only[List.map_toArray,List.map_cons,List.map_nil,hx,hy];exact built_Reply (str s) ad n c
def Reply1_calls(b:Nat)(l:List UInt8)(w:World)(hT:Tabs w)(h1b:1<b)(hr:Row w b [.string (str l)])(hl:l.length<=9223372036854775807):Calls prog 51 #[.pointer (some ⟨b,0,none⟩)] w (RPP (Wr.rplR l) (λa=>a.1) 69 33 (λa=>a.2.length) (λa=>txsCells a.2) b w):=by
 have hb:=hr.lt;have h1w:=hT.lt;have hk:=And.intro h1b hl;clear hk;have I0:PI w b l.length l (w.alloc (.cells pr0.toArray 76)):=⟨hr.alloc _,Row.new w _ _,(But.refl _ _ _).alloc (Nat.le_refl _) _,Nat.le_refl _⟩;rw[show pr0.toArray=#[Value.string (str []),.slice none 0 0]from rfl]at I0;have HT:=Lib.hid hT;have EQ:=Lib.hid (show Wr.rplR l=(Wr.take 32 l).bind λh r=>(Wr.upTo 1 16 r).bind λn r=>(Wr.txs n r).map λts=>(h,ts)from rfl);clear hr hT;go_enter func51,ntmps51;go_upto_region 1 with fail;generalize w.alloc _=w1 at I0|-;have T1:=Lib.hid (take_calls b 32 l w1 I0.cur (by omega));have J:=Lib.hid I0;clear I0;go_wp2_with fail;refine T1.out.mono ?_;clear T1;cases hx:Wr.take 32 l with
 |bad n=>rintro e w2⟨rfl,h⟩;rw[hx]at EQ;exact⟨rfl,RPP.mkBad EQ.out (J.out.bad h)⟩
 |ok t1 r1=>
 rintro e w2⟨rfl,h3,h4⟩;rw[hx]at EQ;have EQ2:=Lib.hid (show Wr.rplR l=(Wr.upTo 1 16 r1).bind λn r=>(Wr.txs n r).map λts=>(t1,ts)from EQ.out);have J2:=Lib.hid (J.out.step hb h3 h4 ((Wr.take_tail 32 l).le hx));have T2:=Lib.hid (upTo_calls b 1 16 r1 w2 h3 (by omega) (by omega));clear h3 h4 J EQ hx;go_wp2_with fail;refine T2.out.mono ?_;clear T2;cases hx:Wr.upTo 1 16 r1 with
 |bad n=>rintro e w3⟨rfl,h⟩;rw[hx]at EQ2;exact⟨rfl,RPP.mkBad EQ2.out (J2.out.bad h)⟩
 |ok n r2=>
 rintro e w3⟨rfl,h3,h4⟩;rw[hx]at EQ2;have hn:=(Wr.upTo_le hx).2;have EQ3:=Lib.hid (show Wr.rplR l=(Wr.txs n r2).map λts=>(t1,ts)from EQ2.out);have J3:=Lib.hid (J2.out.step hb h3 h4 ((Wr.upTo_tail 1 16 r1).le hx));clear h3 h4 J2 EQ2 hx;have T3:=Lib.hid (txs_calls b n r2 w3 (J3.out.but.tabs HT.out h1w h1b) h1b J3.out.cur (Nat.le_trans J3.out.le hl) (by omega));go_wp2_with fail;refine T3.out.mono ?_;clear T3;cases hx:Wr.txs n r2 with
 |bad k=>rintro e w4⟨rfl,h⟩;rw[hx]at EQ3;exact⟨rfl,RPP.mkBad EQ3.out (J3.out.bad h)⟩
 |ok ts r3=>rintro e w4⟨v,rfl,h2,h3,h4⟩;rw[hx]at EQ3;have J4:=Lib.hid (J3.out.step hb h3 h4 ((Wr.txs_tail n r2).le hx));have hro:=J4.out.own;have hz3:=J3.out.but.size;have hz3':=J3.out.own.lt;have hv:=own_slice h2;have hv1:=ownN_one h2;have O1:=Lib.hid (ownN_row (S:=w.heap.size) h2 (pr t1 v).toArray (by omega));clear h2 h3 h4 J3 hx;go_wp2_with (first|(refine build_Reply (o:=⟨some 15,_,_,_,_,_⟩) rfl _ _ rfl t1 v (by obtain⟨a,c,h⟩:=hv;exact⟨a,_,c,h⟩) rfl rfl ?_)|(with_reducible refine store_cells (o:=⟨none,_,_,_,_,_⟩) rfl _ _ _ rfl w.heap.size pr0 (pr t1 v) rfl rfl hro (info_Reply.trans rfl) rfl (pr_one t1 hv1) ?_));obtain⟨T2,hT2⟩:=hro.setRow (pr t1 v);exact bodyPost_ret (v:=.agg (pr t1 v).toArray) (results_cell_row (fn:=Tryz.f51) rfl _ _ w.heap.size T2 _ (0,0) _ rfl hT2 underlying76 rfl (info_Reply.trans rfl)) rfl (RPP.mkOk (a:=(t1,ts)) EQ3.out (ownN_le O1.out hz3) (J4.out.cur.setOther (by omega) _) (J4.out.but.trans (But.of_below (below_setRow (Below.refl _ _) (Nat.le_refl _) _))))
def catchReply_idle(g h:Nat)(w:World):CallsD prog 93 #[.pointer (some ⟨g,0,none⟩),.pointer (some ⟨h,0,none⟩)] .returning w λe u' w'=>e=.returned (.tuple #[])/\u'=.returning/\w'=w:=by refine callsD_of_wpS func93 rfl λc₀ cs hu=>?_;simp only[ntmps93,List.size_toArray,List.length_cons,List.length_nil,Nat.reduceAdd,Nat.reduceSub,Array.replicate_succ,Array.replicate_zero,List.push_toArray,List.append_toArray,List.nil_append,List.cons_append];apply wpS_seq;apply wpS_region;simp[wpOpsS,go_sem,recoverD,hu,Exit.thenS];refine wpS_of_wp ?_;go_wp2_with fail;cases c₀;simp_all[bodyPostS,results,results93]
def catchReply_panicking(g h:Nat)(n m:Int)(l:List Value)(w:World)(hg:Row w g l)(hh:Row w h [.int .i64 m])(hl:l.length=2)(hne:g≠h):CallsD prog 93 #[.pointer (some ⟨g,0,none⟩),.pointer (some ⟨h,0,none⟩)] (.panicking (Fault n)) w λe u' w'=>e=.returned (.tuple #[])/\u'=.panicking [{v:=.iface 146 (.agg #[.int .i64 n]),recovered:=true}]/\Row w' g pr0/\Row w' h [.int .i64 n]/\Keep (λk=>k=g∨k=h) w w':=by
 refine callsD_of_wpS func93 rfl λc₀ cs hu=>?_;simp only[ntmps93,List.size_toArray,List.length_cons,List.length_nil,Nat.reduceAdd,Nat.reduceSub,Array.replicate_succ,Array.replicate_zero,List.push_toArray,List.append_toArray,List.nil_append,List.cons_append];apply wpS_seq;apply wpS_region;unfold Fault at hu;have hta:=ta_fault n;simp[wpOpsS,go_sem,recoverD,hu,Exit.thenS];refine wpS_of_wp ?_;have hzg:=hg.lt;have hzh:=hh.lt;have r1:Row ((w.alloc (.cells #[.int .i64 n] 146)).alloc (.cells #[.string (str []),.slice none 0 0] 76)) w.heap.size [.int .i64 n]:=(Row.new w [.int .i64 n] 146).alloc _;have r2:Row ((w.alloc (.cells #[.int .i64 n] 146)).alloc (.cells #[.string (str []),.slice none 0 0] 76)) (w.heap.size+1) pr0:=by have:=Row.new (w.alloc (.cells #[.int .i64 n] 146)) pr0 76;rw[World.size_alloc]at this;exact this
 have r3:Row ((w.alloc (.cells #[.int .i64 n] 146)).alloc (.cells #[.string (str []),.slice none 0 0] 76)) g l:=(hg.alloc _).alloc _;have r4:Row ((w.alloc (.cells #[.int .i64 n] 146)).alloc (.cells #[.string (str []),.slice none 0 0] 76)) h [.int .i64 m]:=(hh.alloc _).alloc _;have kk:Keep (λk=>k=g∨k=h) w ((w.alloc (.cells #[.int .i64 n] 146)).alloc (.cells #[.string (str []),.slice none 0 0] 76)):=((Keep.refl _ _).alloc _).alloc _;clear hg hh;go_wp2_with fail;generalize(w.alloc _).alloc _=w1 at r1 r2 r3 r4 kk|-;generalize w.heap.size=A at *;have hu:∀u:Reg.Of (λu=>Row u A [.int .i64 n]/\Row u (A+1) pr0),u.w.cell? ⟨A,0,none⟩=some (.int .i64 n):=λu=>u.h.1.cell 0;haveI hne':Nonempty (Reg.Of (λu=>Row u A [.int .i64 n]/\Row u (A+1) pr0)):=⟨⟨w1,r1,r2⟩⟩;refine Reg.startL [0,1,2] 2 mixed (by kernel_rfl) rfl rfl (λc a d v w h=>by cases d<;>exact h) (by as_aux_lemma=>kernel_rfl) rfl (λu=>Row u A [.int .i64 n]/\Row u (A+1) pr0) ⟨r1.drew,r2.drew⟩ ?_;show wpQuiet _ _ _ _ [_,_,_] _;refine wpQuiet_loadc (o:=⟨some 12,_,_,_,_,_⟩) rfl _ _ rfl (A+1) pr0 rfl (λw hw=>by obtain⟨u,rfl⟩:=hw;exact u.h.2) _ underlying76 (info_Reply.trans rfl) _ rfl ?_;go_frame;repeat(go_big_quiet_step (fail))
 refine wpQuiet_nil ?_;have r1:=r1.drew;have r2:=r2.drew;have r3:=r3.drew;have r4:=r4.drew;have kk:=kk.drew;generalize w1.drew=w2 at r1 r2 r3 r4 kk|-;refine Reg.one 3 _ (by kernel_rfl) rfl rfl ?_;refine store_cells rfl _ _ _ rfl g l pr0 rfl rfl r3 (info_Reply.trans rfl) (by rw[hl];rfl) (by decide +kernel) ?_;have s1:=r1.setOther (g:=g) (by omega) pr0.toArray;have s2:=r2.setOther (g:=g) (by omega) pr0.toArray;have s3:=r3.setRow pr0;have s4:=r4.setOther (g:=g) (Ne.symm hne) pr0.toArray;have kk:=kk.setRow g pr0.toArray (.inl rfl);generalize w2.setRow g _=w3 at s1 s2 s3 s4 kk|-;refine⟨Reg.cls_mk ⟨s1,s2⟩,?_⟩;refine Reg.one 4 _ (by kernel_rfl) rfl rfl ?_;have hz:=s4.free 0;have hc:=s4.cell 0;try go_frame
 go_wp2_with fail;refine⟨Reg.cls_mk ⟨s1.other (show h≠A by omega) _,s2.other (show h≠A+1 by omega) _⟩,?_⟩
 refine wpAnyH_done (by kernel_rfl) ?_ 0;go_wp2_with fail;refine⟨rfl,_,rfl,.tuple #[],results_none rfl _ _ _,rfl,rfl,s3.other (Ne.symm hne) _,s4.set 0 _,kk.set _ _ (.inr rfl)⟩
def readReply_calls(l:List UInt8)(w:World)(hT:Tabs w)(hl:l.length<=9223372036854775807):Calls prog 50 #[.string (str l),.func (.func 51) #[] #[]] w (RDP (Wr.readReply l) (λa=>a.1) 69 33 (λa=>a.2.length) (λa=>txsCells a.2) w):=by
 have hmf:=mk_fn;have h1w:=hT.lt;have HT:=Lib.hid hT;have EQ:=Lib.hid (show Wr.readReply l=(Wr.rplR l).bind λa r=>if r=[]then .ok a r else .bad 5 from rfl);have r1:Row (((w.alloc (.cells #[.string (str []),.slice none 0 0] 76)).alloc (.cells #[.int .i64 0] 29)).alloc (.cells #[.string (str l)] 120)) w.heap.size pr0:=((Row.new w pr0 76).alloc _).alloc _;have r2:Row (((w.alloc (.cells #[.string (str []),.slice none 0 0] 76)).alloc (.cells #[.int .i64 0] 29)).alloc (.cells #[.string (str l)] 120)) (w.heap.size+1) [.int .i64 0]:=by have:=Row.new (w.alloc (.cells pr0.toArray 76)) [.int .i64 0] 29;rw[World.size_alloc]at this;exact this.alloc _
 have r3:Row (((w.alloc (.cells #[.string (str []),.slice none 0 0] 76)).alloc (.cells #[.int .i64 0] 29)).alloc (.cells #[.string (str l)] 120)) (w.heap.size+2) [.string (str l)]:=by have:=Row.new ((w.alloc (.cells pr0.toArray 76)).alloc (.cells #[.int .i64 0] 29)) [.string (str l)] 120;rw[World.size_alloc,World.size_alloc]at this;exact this
 have hB:Below w.heap.size w (((w.alloc (.cells #[.string (str []),.slice none 0 0] 76)).alloc (.cells #[.int .i64 0] 29)).alloc (.cells #[.string (str l)] 120)):=(((Below.refl _ _).alloc (Nat.le_refl _) _).alloc (by simp) _).alloc (by simp;omega) _;clear hT;go_enter_defers func50,ntmps50;go_wp2_with fail;generalize((w.alloc _).alloc _).alloc _=w1 at r1 r2 r3 hB|-;have HB:=Lib.hid hB;have hz:=hB.size;have hz3:=r3.lt;have R1:=Lib.hid r1;have R2:=Lib.hid r2;have T1:=Lib.hid (Reply1_calls (w.heap.size+2) l w1 (HT.out.below hB h1w) (by omega) r3 hl)
 clear r1 r2 r3 hB;refine T1.out.mono ?_;clear T1;cases hx:Wr.rplR l with
 |bad n=>rintro e w2⟨rfl,h⟩;rw[hx]at EQ;have H1:=h.row R1.out R1.out.lt (by omega);have H2:=h.row R2.out R2.out.lt (by omega);refine leaves_cons (f:=93) (args:=#[.pointer (some ⟨w.heap.size,0,none⟩),.pointer (some ⟨w.heap.size+1,0,none⟩)]) (by simp) (by simp[go_sem]) ?_;refine(catchReply_panicking w.heap.size (w.heap.size+1) n 0 pr0 w2 H1 H2 rfl (by omega)).mono ?_;rintro e u' w3⟨rfl,rfl,h5,h6,h7⟩;refine⟨_,results_c2 rfl _ _ w.heap.size (w.heap.size+1) pr0 n rfl rfl h5 h6 _ underlying76 (info_Reply.trans rfl),?_⟩;exact RDP.mkBad EQ.out (HB.out.trans ⟨h7.os.trans h.os,h7.tape.trans h.tape,h7.output.trans h.output,Nat.le_trans h.size h7.size,λk hk=>(h7.block k (by have:=h.size;omega) (by omega)).trans (h.block k (by omega) (by omega))⟩)
 |ok t r=>
 rintro e w2⟨v,rfl,ho,h3,h⟩;rw[hx]at EQ;have EQ2:=Lib.hid (show Wr.readReply l=if r=[]then .ok t r else .bad 5 from EQ.out);have H1:=h.row R1.out R1.out.lt (by omega);have H2:=h.row R2.out R2.out.lt (by omega);have hz2:=h.size;have hv1:=ownN_one ho;have B2:=Lib.hid (show Below w.heap.size w w2 from HB.out.trans ⟨h.os,h.tape,h.output,h.size,λk hk=>h.block k (by omega) (by omega)⟩);have S1:=Lib.hid (H1.setRow (pr t.1 v));have S2:=Lib.hid (H2.setOther (g:=w.heap.size) (by omega) (pr t.1 v).toArray);have S3:=Lib.hid (h3.setOther (g:=w.heap.size) (by omega) (pr t.1 v).toArray);have B3:=Lib.hid (below_setRow B2.out (Nat.le_refl _) (pr t.1 v).toArray);have O3:=Lib.hid (ownN_row (S:=w.heap.size) ho (pr t.1 v).toArray (by omega));clear EQ h h3 H2 R1 R2 HB hx ho;go_wp2_with (with_reducible refine store_cells (o:=⟨none,_,_,_,_,_⟩) rfl _ _ _ rfl w.heap.size pr0 (pr t.1 v) rfl rfl H1 (info_Reply.trans rfl) rfl (pr_one t.1 hv1) ?_);clear H1;generalize w2.setRow _ _=w3 at S1 S2 S3 B3 O3|-;refine(end_calls (w.heap.size+2) r w3 S3.out).mono ?_;by_cases hr:r=[]
 ·simp only[if_pos hr];rintro e w4⟨rfl,rfl⟩;have hro:=S1.out;have S4:=Lib.hid (S2.out.setOther (g:=w.heap.size) (by omega) (pr t.1 v).toArray);have S5:=Lib.hid (S1.out.setRow (pr t.1 v));have B5:=Lib.hid (below_setRow B3.out (Nat.le_refl _) (pr t.1 v).toArray);have O5:=Lib.hid (ownN_row (S:=w.heap.size) O3.out (pr t.1 v).toArray (by omega));have hz5:=S4.out.free 0;have hc5:=S4.out.cell 0;go_wp2_with (first|(refine load_cells (o:=⟨some 19,_,_,_,_,_⟩) rfl _ _ rfl w.heap.size (pr t.1 v) rfl hro _ underlying76 (info_Reply.trans rfl) _ rfl ?_)|(with_reducible refine store_cells (o:=⟨none,_,_,_,_,_⟩) rfl _ _ _ rfl w.heap.size (pr t.1 v) (pr t.1 v) rfl rfl hro (info_Reply.trans rfl) rfl (pr_one t.1 hv1) ?_));refine leaves_cons (f:=93) (args:=#[.pointer (some ⟨w.heap.size,0,none⟩),.pointer (some ⟨w.heap.size+1,0,none⟩)]) (by simp) (by simp[go_sem]) ?_;refine(catchReply_idle w.heap.size (w.heap.size+1) _).mono ?_;rintro e u' w5⟨rfl,rfl,rfl⟩;refine⟨_,results_c2 rfl _ _ w.heap.size (w.heap.size+1) (pr t.1 v) 0 rfl rfl (S5.out.other (show w.heap.size+1≠w.heap.size by omega) _) (S4.out.set 0 _) _ underlying76 (info_Reply.trans rfl),?_⟩;exact RDP.mkOk (EQ2.out.trans (if_pos hr)) (ownN_le (ownN_cell O5.out _ (by show w.heap.size+1<_;omega)) hz) (B5.out.setCell (show w.heap.size<=w.heap.size+1 by omega) _)
 simp only[if_neg hr];rintro e w4⟨rfl,rfl⟩;refine leaves_cons (f:=93) (args:=#[.pointer (some ⟨w.heap.size,0,none⟩),.pointer (some ⟨w.heap.size+1,0,none⟩)]) (by simp) (by simp[go_sem]) ?_;refine(catchReply_panicking w.heap.size (w.heap.size+1) 5 0 (pr t.1 v) w4 S1.out S2.out rfl (by omega)).mono ?_;rintro e u' w5⟨rfl,rfl,h5,h6,h7⟩;refine⟨_,results_c2 rfl _ _ w.heap.size (w.heap.size+1) pr0 5 rfl rfl h5 h6 _ underlying76 (info_Reply.trans rfl),?_⟩;exact RDP.mkBad (k:=5) (EQ2.out.trans (if_neg hr)) (B3.out.trans ⟨h7.os,h7.tape,h7.output,h7.size,λk hk=>h7.block k (by have:=B3.out.size;omega) (by omega)⟩)
def wreadReply_calls(l:List UInt8)(w:World)(hT:Tabs w)(hl:l.length<=9223372036854775807):Calls prog 26 #[.string (str l)] w (RDP (Wr.readReply l) (λa=>a.1) 69 33 (λa=>a.2.length) (λa=>txsCells a.2) w):=by
 have h1w:=hT.lt;have r1:Row (w.alloc (.cells #[.string (str []),.slice none 0 0] 76)) w.heap.size pr0:=Row.new w pr0 76;have hB:Below w.heap.size w (w.alloc (.cells #[.string (str []),.slice none 0 0] 76)):=(Below.refl _ _).alloc (Nat.le_refl _) _;go_enter func26,ntmps26;go_wp2_with fail;generalize w.alloc _=w1 at r1 hB|-;have HB:=Lib.hid hB;have R1:=Lib.hid r1;have hz:=r1.lt;have T1:=Lib.hid (readReply_calls l w1 (hT.below hB h1w) hl);clear hT hB r1;refine T1.out.mono ?_;clear T1;cases hx:Wr.readReply l with
 |bad n=>have EQ:=Lib.hid hx;clear hx;rintro e w2⟨rfl,h2⟩;have H1:=R1.out.below h2 hz;have B2:=Lib.hid (HB.out.trans (h2.mono (by omega)));have S1:=Lib.hid (H1.setRow pr0);have B3:=Lib.hid (below_setRow B2.out (Nat.le_refl _) pr0.toArray);clear h2 R1 HB;go_wp2_with (with_reducible refine store_cells (o:=⟨none,_,_,_,_,_⟩) rfl _ _ _ rfl w.heap.size pr0 pr0 rfl rfl H1 (info_Reply.trans rfl) rfl (by decide +kernel) ?_);exact bodyPost_ret (v:=.tuple #[.agg pr0.toArray,.int .i64 n]) (results_c1 rfl _ _ w.heap.size pr0 (.int .i64 n) rfl rfl S1.out _ underlying76 (info_Reply.trans rfl)) rfl (RDP.mkBad EQ.out B3.out)
 |ok t r=>have EQ:=Lib.hid hx;clear hx;rintro e w2⟨v,rfl,ho,h2⟩;have hv1:=ownN_one ho;have H1:=R1.out.below h2 hz;have B2:=Lib.hid (HB.out.trans (h2.mono (by omega)));have S1:=Lib.hid (H1.setRow (pr t.1 v));have B3:=Lib.hid (below_setRow B2.out (Nat.le_refl _) (pr t.1 v).toArray);have O3:=Lib.hid (ownN_row (S:=w.heap.size) ho (pr t.1 v).toArray (by omega));clear h2 R1 HB ho;go_wp2_with (with_reducible refine store_cells (o:=⟨none,_,_,_,_,_⟩) rfl _ _ _ rfl w.heap.size pr0 (pr t.1 v) rfl rfl H1 (info_Reply.trans rfl) rfl (pr_one t.1 hv1) ?_);exact bodyPost_ret (v:=.tuple #[.agg (pr t.1 v).toArray,.int .i64 0]) (results_c1 rfl _ _ w.heap.size (pr t.1 v) (.int .i64 0) rfl rfl S1.out _ underlying76 (info_Reply.trans rfl)) rfl (RDP.mkOk EQ.out (ownN_le O3.out (by omega)) B3.out)
end
