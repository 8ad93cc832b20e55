import Derived.Test.YtlpcjiollnnmgabGreatDoorMZ
import Derived.Test.YtlpcjiollnnmgabGreatDoorProg
import Derived.Shelf.Sort.Plain
set_option maxRecDepth 100000
set_option maxHeartbeats 8000000
set_option linter.all false
namespace Go.Proofs.YtlpcjiollnnmgabGreatDoor
open Go.Proofs.Tryz
section
namespace iI
def dg(l:List Nat)(i:Nat):Nat:=l.getD i 0
def inner(x:Nat)(i:Nat):List Nat->Nat->List Nat->Nat->List Nat×Nat
 |[],_,out,c=>(out,c)|y::b,j,out,c=>inner x i b (j+1) (out.set (i+j) ((dg out (i+j)+x*y+c) % 65536)) ((dg out (i+j)+x*y+c) / 65536)
def outer(b:List Nat):List Nat->Nat->List Nat->List Nat
 |[],_,out=>out|x::a,i,out=>outer b a (i+1) ((inner x i b 0 out 0).1.set (i+b.length) (dg (inner x i b 0 out 0).1 (i+b.length)+(inner x i b 0 out 0).2))
def times(a b:List Nat):List Nat:=outer b a 0 (List.replicate (a.length+b.length) 0)
def uC(a b:List Nat):Nat->Bool
 |0=>false|k+1=>if dg a k=dg b k then uC a b k else decide (dg b k<dg a k)
def above(a b:List Nat):Bool:=uC a b (max a.length b.length)
def J9(x:Nat):List Nat:=[x % 65536,x/65536 % 65536,x/65536/65536]
def pow(d:List Nat):Nat->List Nat
 |0=>d|k+1=>times (pow d k) d
def goal(p k8:Nat):List Nat:=List.replicate (2*k8) 0++[p]
def bits(g:List Nat)(k8:Nat):Nat->Nat->Nat
 |0,r=>r|n+1,r=>bits g k8 n (if above (pow (J9 (r+2^n)) (k8-1)) g then r else r+2^n)
def root(p k8:Nat):Nat:=bits (goal p k8) k8 37 0 % 4294967296
def lj:List Nat:=[2,3,5,7,11,13,17,19,23,29,31,37,41,43,47,53,59,61,67,71,73,79,83,89,97,101,103,107,109,113,127,131,137,139,149,151,157,163,167,173,179,181,191,193,197,199,211,223,227,229,233,239,241,251,257,263,269,271,277,281,283,293,307,311]
def K:List Nat:=[1116352408,1899447441,3049323471,3921009573,961987163,1508970993,2453635748,2870763221,3624381080,310598401,607225278,1426881987,1925078388,2162078206,2614888103,3248222580,3835390401,4022224774,264347078,604807628,770255983,1249150122,1555081692,1996064986,2554220882,2821834349,2952996808,3210313671,3336571891,3584528711,113926993,338241895,666307205,773529912,1294757372,1396182291,1695183700,1986661051,2177026350,2456956037,2730485921,2820302411,3259730800,3345764771,3516065817,3600352804,4094571909,275423344,430227734,506948616,659060556,883997877,958139571,1322822218,1537002063,1747873779,1955562222,2024104815,2227730452,2361852424,2428436474,2756734187,3204031479,3329325298]
def H:List Nat:=[1779033703,3144134277,1013904242,2773480762,1359893119,2600822924,528734635,1541459225]
def val:List Nat->Nat
 |[]=>0|x::l=>x+65536*val l
def Et x l k:dg (x::l) (k+1)=dg l k:=by simp[dg]
def Uv l k v(h:k<l.length):val (l.set k v)+dg l k*65536^k=val l+v*65536^k:=by induction l generalizing k with|nil=>simp at h|cons x l ih=>cases k with|zero=>simp[val,dg];omega|succ k=>have:=ih k aF0;rw[List.set_cons_succ,val,val,Et,cF];generalize 65536^k=P at *;rw[<-bU,<-bU];generalize dg l k*P=A at *;generalize v*P=C at *;omega
def zN x i b:∀j out c,(inner x i b j out c).1.length=out.length:=by induction b with|nil=>intro j out c;rfl|cons y b ih=>intro j out c;rw[inner,ih,aY]
def Y8 x i b:∀j out c,i+j+b.length<=out.length->val (inner x i b j out c).1+(inner x i b j out c).2*65536^ (i+j+b.length)=val out+x*val b*65536^ (i+j)+c*65536^ (i+j):=by
 induction b with
 |nil=>intro j out c _;simp[inner,val]|cons y b ih=>
 intro j out c h;rw[aq]at h|-;have h1:=ih (j+1) (out.set (i+j) ((dg out (i+j)+x*y+c) % 65536)) ((dg out (i+j)+x*y+c) / 65536) (by rw[aY];omega);have h2:=Uv out (i+j) ((dg out (i+j)+x*y+c) % 65536) ω;rw[inner];rw[show i+j+(b.length+1)=i+(j+1)+b.length by omega,h1];rw[show i+(j+1)=(i+j)+1 by omega,cF];have h3:=Nat.div_add_mod (dg out (i+j)+x*y+c) 65536;generalize(dg out (i+j)+x*y+c) % 65536=m at *;generalize(dg out (i+j)+x*y+c) / 65536=q at *;generalize 65536^ (i+j)=P at *;rw[val];have h4:(65536*q+m)*P=(dg out (i+j)+x*y+c)*P:=by rw[h3]
 have e1:x*val b*(P*65536)=65536*(x*val b*P):=by rw[<-bU,br]
 have e2:q*(P*65536)=65536*(q*P):=by rw[<-bU,br]
 have e3:x*(y+65536*val b)*P=x*y*P+65536*(x*val b*P):=by rw[e9,cJ,Nat.mul_left_comm x 65536,bU 65536]
 have e4:(65536*q+m)*P=65536*(q*P)+m*P:=by rw[cJ,bU]
 have e5:(dg out (i+j)+x*y+c)*P=dg out (i+j)*P+x*y*P+c*P:=by rw[cJ,cJ]
 rw[e1,e2,e3];rw[e4,e5]at h4;omega
def YK b:∀a i out,i+a.length+b.length<=out.length->val (outer b a i out)=val out+val a*val b*65536^i:=by
 intro a;induction a with
 |nil=>intro i out _;simp[outer,val]|cons x a ih=>
 intro i out h;rw[aq]at h;have hl:=zN x i b 0 out 0;have hv:=Y8 x i b 0 out 0 ω;rw[outer,ih (i+1) _ (by rw[aY,hl];omega)];have hs:=Uv (inner x i b 0 out 0).1 (i+b.length) (dg (inner x i b 0 out 0).1 (i+b.length)+(inner x i b 0 out 0).2) ω;generalize inner x i b 0 out 0=r at *;rw[Nat.add_zero]at hv;rw[cJ]at hs;rw[val,cF];have e1:val a*val b*(65536^i*65536)=65536*(val a*val b*65536^i):=by rw[<-bU,br]
 have e2:(x+65536*val a)*val b*65536^i=x*val b*65536^i+65536*(val a*val b*65536^i):=by rw[cJ,cJ,bU 65536,bU 65536]
 rw[e1,e2];omega
def Ja n:val (List.replicate n 0)=0:=by induction n with|zero=>rfl|succ n ih=>simp[dO,val,ih]
def XT a b:val (times a b)=val a*val b:=by unfold times;rw[YK b a 0 _ ζ,Ja];simp
def adJ l i n k:dg (l.set i n) k=if i=k/\k<l.length then n else dg l k:=by unfold dg;rw[ab,ab,eL];by_cases h:i=k;subst h;by_cases h2:i<l.length;simp[h2];simp[h2];simp[h]
def TM l i(h:l.length<=i):dg l i=0:=by unfold dg;rw[ab,bT h];rfl
def qq l i(h:i<l.length):l.drop i=dg l i::l.drop (i+1):=by rw[bo h];unfold dg;rw[ab,ag h];rfl
structure mN(l:List Nat)(len n:Nat):Prop where
 len:l.length=len
 lt:∀k,dg l k<65536
 zero:∀k,n<=k->dg l k=0
theorem mN.set{l len n i v}(h:mN l len n)(hi:i<n)(hv:v<65536):mN (l.set i v) len n:=⟨by rw[aY];exact h.len,λk=>by rw[adJ];split;exact hv;exact h.lt k,λk hk=>by rw[adJ,if_neg ω];exact h.zero k hk⟩
def mN.mono{l len n m}(h:mN l len n)(hm:n<=m):mN l len m:=⟨h.len,h.lt,λk hk=>h.zero k ω⟩
def mul_lt{x y}(hx:x<65536)(hy:y<65536):x*y<=4294836225:=ak (Nat.mul_le_mul (show x<=65535 by omega) (show y<=65535 by omega)) ψ
def SO x i(hx:x<65536) len n b:∀j out c,(∀k,dg b k<65536)->c<65536->i+j+b.length<=n->mN out len n->mN (inner x i b j out c).1 len n/\(inner x i b j out c).2<65536:=by induction b with|nil=>intro j out c _ hc _ ho;exact⟨ho,hc⟩|cons y b ih=>intro j out c hb hc hn ho;rw[aq]at hn;have hy:y<65536:=hb 0;have:=ho.lt (i+j);have:=mul_lt hx hy;rw[inner];exact ih _ _ _ (λk=>by have:=hb (k+1);rwa[Et]at this) ω ω (ho.set ω ω)
def RZ b(hb:∀k,dg b k<65536) len:∀a i out,(∀k,dg a k<65536)->mN out len (i+b.length)->mN (outer b a i out) len (i+a.length+b.length):=by intro a;induction a with|nil=>intro i out _ ho;exact ho.mono ζ|cons x a ih=>intro i out ha ho;have hx:x<65536:=ha 0;obtain⟨h1,h2⟩:=SO x i hx len (i+b.length) b 0 out 0 hb ω ω ho;have hz:=h1.zero (i+b.length) ν;rw[outer];have:=ih (i+1) _ (λk=>by have:=ha (k+1);rwa[Et]at this) ((h1.mono (show i+b.length<=i+1+b.length by omega)).set (i:=i+b.length) (v:=dg (inner x i b 0 out 0).1 (i+b.length)+(inner x i b 0 out 0).2) ω ω);rw[aq];rw[show i+(a.length+1)+b.length=i+1+a.length+b.length by omega];exact this
def Ey n m:mN (List.replicate n 0) n m:=⟨by simp,λk=>by unfold dg;rw[ab,cE];split<;>decide,λk _=>by unfold dg;rw[ab,cE];split<;>rfl⟩
def QJ a b(ha:∀k,dg a k<65536)(hb:∀k,dg b k<65536):mN (times a b) (a.length+b.length) (a.length+b.length):=by have:=RZ b hb (a.length+b.length) a 0 _ ha (Ey _ _);rw[aC]at this;exact this
def low(l:List Nat):Nat->Nat
 |0=>0|k+1=>low l k+dg l k*65536^k
theorem Sz l(h:∀k,dg l k<65536):∀k,low l k<65536^k
 |0=>by simp[low]|k+1=>by have h1:=Sz l h k;have h2:(dg l k+1)*65536^k<=65536*65536^k:=et _ (h k);rw[low,cF,br _ 65536];rw[cJ]at h2;omega
theorem Oj x l:∀k,low (x::l) (k+1)=x+65536*low l k
 |0=>by simp[low,dg]|k+1=>by rw[low,Oj x l k,Et,low,cF,e9,<-bU,br _ 65536];omega
theorem Lc:∀l k,l.length<=k->low l k=val l
 |[],k,_=>by induction k with|zero=>rfl|succ k ih=>rw[low,ih ζ];simp[dg,val]
 |x::l,k,h=>by obtain⟨k,rfl⟩:∃j,k=j+1:=⟨k-1,by simp at h;omega⟩;rw[Oj,Lc l k aF0,val]
theorem Hp a b(ha:∀k,dg a k<65536)(hb:∀k,dg b k<65536):∀k,uC a b k=decide (low b k<low a k)
 |0=>rfl|k+1=>by have h1:=Sz a ha k;have h2:=Sz b hb k;rw[uC,low,low];by_cases h:dg a k=dg b k;rw[if_pos h,Hp a b ha hb k,h];rw[decide_eq_decide];omega;rw[if_neg h,decide_eq_decide];generalize 65536^k=P at *;constructor;intro h3;have h4:(dg b k+1)*P<=dg a k*P:=et _ h3;rw[cJ]at h4;omega;intro h3;apply aV;intro h4;have h5:(dg a k+1)*P<=dg b k*P:=et _ ω;rw[cJ]at h5;omega
def ZW a b(ha:∀k,dg a k<65536)(hb:∀k,dg b k<65536):above a b=decide (val b<val a):=by unfold above;rw[Hp a b ha hb,Lc a _ (Nat.le_max_left _ _),Lc b _ (Nat.le_max_right _ _)]
theorem adI x(h:x<281474976710656):∀k,dg (J9 x) k<65536
 |0=>eD _ ψ|1=>eD _ ψ|2=>by show x/65536/65536<65536;omega|k+3=>by rw[TM _ _ (by simp[J9])];decide
def ahK x:val (J9 x)=x:=by simp[J9,val];omega
theorem Fx d(hd:∀k,dg d k<65536):∀n,∀k,dg (pow d n) k<65536
 |0=>hd|n+1=>(QJ _ _ (Fx d hd n) hd).lt
theorem Va d:∀n,val (pow d n)=val d^ (n+1)
 |0=>by simp[pow]|n+1=>by rw[pow,XT,Va d n,<-cF]
theorem Fy d:∀n,(pow d n).length=(n+1)*d.length
 |0=>by simp[pow]|n+1=>by
  have:∀a b:List Nat,(times a b).length=a.length+b.length:=λa b=>by
   unfold times;have:∀(a:List Nat)(i:Nat)(out:List Nat),(outer b a i out).length=out.length:=by intro a;induction a with|nil=>intro i out;rfl|cons x a ih=>intro i out;rw[outer,ih,aY,zN]
   rw[this];simp
  rw[pow,this,Fy d n,cJ (n+1) 1];omega
def Qz l m:val (l++m)=val l+65536^l.length*val m:=by induction l with|nil=>simp[val]|cons x l ih=>rw[aU,val,ih,val,aq,cF,e9,br _ 65536,bU];omega
def VZ p k8(hp:p<65536):∀k,dg (goal p k8) k<65536:=by intro k;unfold goal dg;rw[ab,List.getElem?_append];split;rw[cE];split<;>decide;rename_i h;cases hk:k-(List.replicate (2*k8) 0).length with|zero=>simpa using hp|succ n=>simp
def adr p k8:val (goal p k8)=65536^ (2*k8)*p:=by unfold goal;rw[Qz,Ja,bD];simp[val]
def Kb(g k8:Nat):Nat->Nat->Nat
 |0,r=>r|n+1,r=>Kb g k8 n (if g< (r+2^n)^k8 then r else r+2^n)
theorem Hj g(hg:∀k,dg g k<65536) k8(hp:0<k8):∀n r,r+2^n<=281474976710656->bits g k8 n r=Kb (val g) k8 n r
 |0,r,_=>rfl|n+1,r,h=>by rw[cF]at h;have h0:0<2^n:=Nat.pow_pos ψ;have hd:=adI (r+2^n) ω;rw[bits,Kb,ZW _ _ (Fx _ hd _) hg,Va,ahK,Nat.sub_add_cancel hp];simp only[decide_eq_true_eq];split;exact Hj g hg k8 hp n r ω;exact Hj g hg k8 hp n _ ω
def Nd p k8(hp:p<65536)(h0:0<k8):root p k8=Kb (65536^ (2*k8)*p) k8 37 0 % 4294967296:=by unfold root;rw[Hj _ (VZ p k8 hp) k8 h0 37 0 ψ,adr]
def wI:∀p∈lj,p<65536:=aFK
def axN:(lj.take 8).map (λp=>root p 2)=H:=by have:(lj.take 8).map (λp=>root p 2)=(lj.take 8).map (λp=>Kb (65536^ (2*2)*p) 2 37 0 % 4294967296):=eB λp hp=>Nd p 2 (wI p (eu hp)) ψ;rw[this];decide +kernel
def axL:lj.map (λp=>root p 3)=K:=by have:lj.map (λp=>root p 3)=lj.map (λp=>Kb (65536^ (2*3)*p) 3 37 0 % 4294967296):=eB λp hp=>Nd p 3 (wI p hp) ψ;rw[this];decide +kernel
def fresh(l:List Nat)(p:Nat):Bool:=l.all λq=>p % q != 0
def found(l:List Nat)(p:Nat):List Nat:=if fresh l p then l++[p]else l
def sI:Nat->List Nat
 |0=>[]|n+1=>found (sI n) (n+2)
def Ya:sI 310=lj:=aFK
def X9:∀n,n<310->(sI n).length<64:=aFK
end iI
end
section
open Go.Proofs Go.Shelf
def j0:Ren where
 f:=λx=>match x with
  |190=>85
  |125=>120
  |258=>119
  |128=>146
  |129=>147
  |302=>137
  |303=>138
  |304=>139
  |305=>140
  |306=>141
  |307=>142
  |308=>143
  |309=>144
  |310=>145
  |333=>154
  |329=>155
  |330=>156
  |334=>157
  |335=>158
  |336=>159
  |344=>161
  |n=>n
 t:=λx=>match x with
  |31=>28
  |9=>9
  |3=>3
  |46=>73
  |0=>0
  |51=>168
  |53=>26
  |4=>4
  |183=>198
  |182=>197
  |131=>158
  |5=>5
  |218=>212
  |222=>215
  |228=>217
  |229=>218
  |n=>n
 g:=λn=>n
def aa8:Lays.n190 prog j0 where
 mixed:=Eq.refl true;f125:=bX func120 (congrArg some (Eq.refl (Body.n125 j0)));f128:=bX func146 (congrArg some (Eq.refl (Body.n128 j0)));f129:=bX func147 (congrArg some (Eq.refl (Body.n129 j0)));f190:=bX func85 (congrArg some (Eq.refl (Body.n190 j0)));f258:=bX func119 (congrArg some (Eq.refl (Body.n258 j0)));f302:=bX func137 (congrArg some (Eq.refl (Body.n302 j0)));f303:=bX func138 (congrArg some (Eq.refl (Body.n303 j0)));f304:=bX func139 (congrArg some (Eq.refl (Body.n304 j0)));f305:=bX func140 (congrArg some (Eq.refl (Body.n305 j0)));f306:=bX func141 (congrArg some (Eq.refl (Body.n306 j0)));f307:=bX func142 (congrArg some (Eq.refl (Body.n307 j0)));f308:=bX func143 (congrArg some (Eq.refl (Body.n308 j0)));f309:=bX func144 (congrArg some (Eq.refl (Body.n309 j0)));f310:=bX func145 (congrArg some (Eq.refl (Body.n310 j0)));f329:=bX func155 (congrArg some (Eq.refl (Body.n329 j0)));f330:=bX func156 (congrArg some (Eq.refl (Body.n330 j0)));f333:=bX func154 (congrArg some (Eq.refl (Body.n333 j0)));f334:=bX func157 (congrArg some (Eq.refl (Body.n334 j0)));f335:=bX func158 (congrArg some (Eq.refl (Body.n335 j0)));f336:=bX func159 (congrArg some (Eq.refl (Body.n336 j0)));f344:=bX func161 (congrArg some (Eq.refl (Body.n344 j0)));t0:=underlying0;a0:=isAgg0;z0:=sizeOf0;v0:=zeroValue0;t3:=underlying3;a3:=isAgg3;z3:=sizeOf3;v3:=zeroValue3;t4:=underlying4;a4:=isAgg4;z4:=sizeOf4;v4:=zeroValue4;t5:=underlying5;a5:=isAgg5;z5:=sizeOf5;v5:=zeroValue5;t9:=underlying9;a9:=isAgg9;z9:=sizeOf9;v9:=zeroValue9;t31:=underlying28;a31:=isAgg28;z31:=sizeOf28;v31:=zeroValue28;t46:=underlying73;a46:=isAgg73;z46:=sizeOf73;v46:=zeroValue73;t51:=underlying168;a51:=isAgg168;z51:=sizeOf168;v51:=zeroValue168;t53:=underlying26;a53:=isAgg26;z53:=sizeOf26;v53:=zeroValue26;t131:=underlying158;a131:=isAgg158;z131:=sizeOf158;v131:=zeroValue158;t182:=underlying197;a182:=isAgg197;z182:=sizeOf197;v182:=zeroValue197;t183:=underlying198;a183:=isAgg198;z183:=sizeOf198;v183:=zeroValue198;t218:=underlying212;a218:=isAgg212;z218:=sizeOf212;v218:=zeroValue212;t222:=underlying215;a222:=isAgg215;z222:=sizeOf215;v222:=zeroValue215;t228:=underlying217;a228:=isAgg217;z228:=sizeOf217;v228:=zeroValue217;t229:=underlying218;a229:=isAgg218;z229:=sizeOf218;v229:=zeroValue218
def EM blk off cap(ss:List (List UInt8)) w(hH:Sort.Holds encStr w blk off ss.toArray)(Pc:blk<w.heap.size)(pL:ss.length<4611686018427387904):Calls prog 85 #[.slice (some ⟨blk,off,none⟩) ss.length cap] w λe w'=>e=.returned (.tuple #[])/\∃n os,w'=Sort.grow (Sort.putRow encStr (Sort.ahead w n) blk off (ss.mergeSort λx y=>decide (x<=y)).toArray) os:=Any.slices_Sort_string aa8 blk off cap ss w hH Pc pL
end
def t062{p:Prop}(h:p:=by congr 1;apply bL;intro i;rcases(VA.mk h1 h2:VA E X a a').get i with⟨x,x',e1,e2,hx⟩|⟨e1,e2⟩;rw[e1,e2,ih i x e1 hx];rw[e1,e2]):p:=h
def t032{p:Prop}(h:p:=by refine⟨by simp[h.size,h'.size],λi x x' h1 h2=>?_⟩;rw[dK]at h1 h2;rw[<-h.size]at h2;split at h1;rename_i hi;rw[if_pos hi]at h2;exact h.el i x x' h1 h2;rename_i hi;rw[if_neg hi]at h2;exact h'.el _ x x' h1 h2):p:=h
def t019{p:Prop}(h:p:=by
 by_cases hi:i<a.size;have Qn:i<a'.size:=by rw[<-h.size];exact hi
 exact .inl ⟨a[i],a'[i],Array.getElem?_eq_getElem hi,Array.getElem?_eq_getElem Qn,h.el i _ _ (Array.getElem?_eq_getElem hi) (Array.getElem?_eq_getElem Qn)⟩;exact .inr ⟨aI ω,aI (by rw[<-h.size];omega)⟩):p:=h
namespace Rn
structure Env where
 G:Nat
 C:Nat->Option Nat
 F:Nat->Prop
variable{E:Env}
def At(E:Env)(X:List Nat)(r b:Nat):Prop:=E.G<=r/\X[r-E.G]? =some b
def flat:Value->Prop
 |.agg _|.tuple _=>False|_=>True
inductive V(E:Env)(X:List Nat):Value->Value->Prop
 |bool (b:Bool):V E X (.bool b) (.bool b)
 |int (k:IntKind) (n:Int):V E X (.int k n) (.int k n)
 |string (s:ByteArray):V E X (.string s) (.string s)
 |ptrN:V E X (.pointer none) (.pointer none)
 |ptr (r b off:Nat) (sp:Option Nat) (h:At E X r b):V E X (.pointer (some ⟨r,off,sp⟩)) (.pointer (some ⟨b,off,sp⟩))
 |lW (n c:Nat):V E X (.slice none n c) (.slice none n c)
 |slice (r b off:Nat) (sp:Option Nat) (n c:Nat) (h:At E X r b):V E X (.slice (some ⟨r,off,sp⟩) n c) (.slice (some ⟨b,off,sp⟩) n c)
 |Gh:V E X (.map none) (.map none)
 |map (r b:Nat) (h:At E X r b):V E X (.map (some r)) (.map (some b))
 |xV:V E X (.chan none) (.chan none)
 |chan (r b:Nat) (h:E.C r=some b):V E X (.chan (some r)) (.chan (some b))
 |func (f:FuncId) (a a' c c':Array Value) (hF:E.F f) (h1:a.size=a'.size) (h2:∀(i:Nat)(v v':Value),a[i]? =some v->a'[i]? =some v'->V E X v v') (h3:c.size=c'.size) (h4:∀(i:Nat)(v v':Value),c[i]? =some v->c'[i]? =some v'->V E X v v'):V E X (.func (.func f) a c) (.func (.func f) a' c')
 |nilFunc:V E X .nilFunc .nilFunc
 |iface (t:TypeId) (v v':Value) (h:V E X v v'):V E X (.iface t v) (.iface t v')
 |nilIface:V E X .nilIface .nilIface
 |agg (a a':Array Value) (h1:a.size=a'.size) (h2:∀(i:Nat)(v v':Value),a[i]? =some v->a'[i]? =some v'->V E X v v'):V E X (.agg a) (.agg a')
 |tuple (a a':Array Value) (h1:a.size=a'.size) (h2:∀(i:Nat)(v v':Value),a[i]? =some v->a'[i]? =some v'->V E X v v'):V E X (.tuple a) (.tuple a')
 |undef (v:Value) (h:flat v):V E X (.func (.method "") #[.nilIface] #[]) v
structure VA(E:Env)(X:List Nat)(a a':Array Value):Prop where
 size:a.size=a'.size
 el:∀(i:Nat)(v v':Value),a[i]? =some v->a'[i]? =some v'->V E X v v'
structure ME(E:Env)(X:List Nat)(e e':MapEntry):Prop where
 key:V E X e.key e'.key
 val:V E X e.val e'.val
 born:e.born=e'.born
structure MA(E:Env)(X:List Nat)(a a':Array MapEntry):Prop where
 size:a.size=a'.size
 el:∀(i:Nat)(v v':MapEntry),a[i]? =some v->a'[i]? =some v'->ME E X v v'
inductive sw(E:Env)(X:List Nat):Obj->Obj->Prop
 |cells (c c':Array Value) (e:TypeId) (fz Lt:Nat×Nat) (h:VA E X c c') (hf:Lt=fz∨fz=(0,c.size)):sw E X (.cells c e fz) (.cells c' e Lt)
 |map (a a':Array MapEntry) (n:Nat) (h:MA E X a a'):sw E X (.map a n) (.map a' n)
 |JN (s:Nat) (x:Array Nat) (n:Nat):sw E X (.mapIter none s x n) (.mapIter none s x n)
 |iter (r b s:Nat) (x:Array Nat) (n:Nat) (h:At E X r b):sw E X (.mapIter (some r) s x n) (.mapIter (some b) s x n)
 |number (r b off:Nat) (sp:Option Nat) (l:Bool) (h:At E X r b):sw E X (.number ⟨r,off,sp⟩ l) (.number ⟨b,off,sp⟩ l)
def At.app{X r b}(h:At E X r b) Y:At E (X++Y) r b:=by obtain⟨h1,h2⟩:=h;refine⟨h1,?_⟩;rw[aP (aB.1 h2).1];exact h2
def V.app{X v v'}(h:V E X v v') Y:V E (X++Y) v v':=by induction h with|bool b=>exact .bool b|int k n=>exact .int k n|string s=>exact .string s|ptrN=>exact .ptrN|ptr r b o s h=>exact .ptr r b o s (h.app Y)|lW n c=>exact .lW n c|slice r b o s n c h=>exact .slice r b o s n c (h.app Y)|Gh=>exact .Gh|map r b h=>exact .map r b (h.app Y)|xV=>exact .xV|chan r b h=>exact .chan r b h|func f a a' c c' hF h1 _ h3 _ i1 i2=>exact .func f a a' c c' hF h1 i1 h3 i2|nilFunc=>exact .nilFunc|iface t v v' _ i=>exact .iface t v v' i|nilIface=>exact .nilIface|agg a a' h1 _ i=>exact .agg a a' h1 i|tuple a a' h1 _ i=>exact .tuple a a' h1 i|undef v h=>exact .undef v h
theorem VA.app{X a a'}(h:VA E X a a') Y:VA E (X++Y) a a':=⟨h.size,λi v v' h1 h2=>(h.el i v v' h1 h2).app Y⟩
theorem MA.app{X a a'}(h:MA E X a a') Y:MA E (X++Y) a a':=⟨h.size,λi v v' h1 h2=>let x:=h.el i v v' h1 h2;⟨x.key.app Y,x.val.app Y,x.born⟩⟩
def sw.app{X o o'}(h:sw E X o o') Y:sw E (X++Y) o o':=by cases h with|cells c c' e fz Lt h hf=>exact .cells c c' e fz Lt (h.app Y) hf|map a a' n h=>exact .map a a' n (h.app Y)|JN s x n=>exact .JN s x n|iter r b s x n h=>exact .iter r b s x n (h.app Y)|number r b o s l h=>exact .number r b o s l (h.app Y)
def VA.get{X a a'}(h:VA E X a a')(i:Nat):(∃v v',a[i]? =some v/\a'[i]? =some v'/\V E X v v')∨(a[i]? =none/\a'[i]? =none):=by exact t019
def VA.empty X:VA E X #[] #[]:=⟨rfl,λi v v' h=>by simp at h⟩
def VA.push{X a a'}(h:VA E X a a'){v v'}(hv:V E X v v'):VA E X (a.push v) (a'.push v'):=by refine⟨by simp[h.size],λi x x' h1 h2=>?_⟩;rw[du]at h1 h2;rw[<-h.size]at h2;split at h1;rename_i hi;rw[if_pos hi]at h2;cases h1;cases h2;exact hv;rename_i hi;rw[if_neg hi]at h2;exact h.el i x x' h1 h2
def VA.one{X v v'}(hv:V E X v v'):VA E X #[v] #[v']:=(VA.empty X).push hv
def VA.set{X a a'}(h:VA E X a a') i{v v'}(hv:V E X v v'):VA E X (a.setIfInBounds i v) (a'.setIfInBounds i v'):=by refine⟨by simp[h.size],λj x x' h1 h2=>?_⟩;by_cases hj:i=j;subst hj;by_cases hi:i<a.size;rw[aj hi]at h1;rw[aj (by rw[<-h.size];exact hi)]at h2;cases h1;cases h2;exact hv;rw[aI aGd]at h1;cases h1;rw[ah hj]at h1 h2;exact h.el j x x' h1 h2
def VA.append{X a a' b b'}(h:VA E X a a')(h':VA E X b b'):VA E X (a++b) (a'++b'):=by exact t032
def VA.extract{X a a'}(h:VA E X a a') s e:VA E X (a.extract s e) (a'.extract s e):=by refine⟨by simp[h.size],λi x x' h1 h2=>?_⟩;rw[Array.getElem?_extract]at h1 h2;rw[<-h.size]at h2;split at h1;rename_i hi;rw[if_pos hi]at h2;exact h.el _ x x' h1 h2;cases h1
def VA.map{X α} f f'(l:Array α)(h:∀a∈l,V E X (f a) (f' a)):VA E X (l.map f) (l.map f'):=by
 refine⟨by simp,λi x x' h1 h2=>?_⟩;rw[bu]at h1 h2;cases hl:l[i]? with
 |none=>rw[hl]at h1;cases h1
 |some y=>rw[hl]at h1 h2;cases h1;cases h2;exact h y (Array.mem_of_getElem? hl)
def V.Vg{X a a'}(h:VA E X a a'):V E X (.agg a) (.agg a'):=.agg a a' h.size h.el
def V.lf{X a a'}(h:VA E X a a'):V E X (.tuple a) (.tuple a'):=.tuple a a' h.size h.el
def V.cells{X v v'}(h:V E X v v'):VA E X v.cells v'.cells:=by
 cases h with
 |agg a a' h1 h2=>exact⟨h1,h2⟩|undef _ hf=>
 have:v'.cells=#[v']:=by cases v'<;>first|rfl|exact hf.elim
 rw[this];exact VA.one (.undef v' hf)
 |tuple a a' h1 h2=>exact VA.one (.tuple a a' h1 h2)|ptr r b o s h=>exact VA.one (.ptr r b o s h)
 |slice r b o s n c h=>exact VA.one (.slice r b o s n c h)|map r b h=>exact VA.one (.map r b h)
 |chan r b h=>exact VA.one (.chan r b h)|func f a a' c c' hF h1 h2 h3 h4=>exact VA.one (.func f a a' c c' hF h1 h2 h3 h4)
 |iface t v v' h=>exact VA.one (.iface t v v' h)|bool b=>exact VA.one (.bool b)
 |int k n=>exact VA.one (.int k n)|string s=>exact VA.one (.string s)
 |ptrN=>exact VA.one .ptrN|lW n c=>exact VA.one (.lW n c)
 |Gh=>exact VA.one .Gh|xV=>exact VA.one .xV
 |nilFunc=>exact VA.one .nilFunc|nilIface=>exact VA.one .nilIface
inductive Clean:Value->Prop
 |bool (b:Bool):Clean (.bool b)
 |int (k:IntKind) (n:Int):Clean (.int k n)
 |string (s:ByteArray):Clean (.string s)
 |ptrN:Clean (.pointer none)
 |lW (n c:Nat):Clean (.slice none n c)
 |Gh:Clean (.map none)
 |xV:Clean (.chan none)
 |nilFunc:Clean .nilFunc
 |nilIface:Clean .nilIface
 |agg (a:Array Value) (h:∀(i:Nat) v,a[i]? =some v->Clean v):Clean (.agg a)
 |tuple (a:Array Value) (h:∀(i:Nat) v,a[i]? =some v->Clean v):Clean (.tuple a)
def Clean.self{v}(h:Clean v) X:V E X v v:=by induction h with|bool b=>exact .bool b|int k n=>exact .int k n|string s=>exact .string s|ptrN=>exact .ptrN|lW n c=>exact .lW n c|Gh=>exact .Gh|xV=>exact .xV|nilFunc=>exact .nilFunc|nilIface=>exact .nilIface|agg a _ i=>exact .agg a a rfl aGV|tuple a _ i=>exact .tuple a a rfl aGV
inductive Exact:Value->Prop
 |bool (b:Bool):Exact (.bool b)
 |int (k:IntKind) (n:Int):Exact (.int k n)
 |string (s:ByteArray):Exact (.string s)
 |agg (a:Array Value) (h:∀(i:Nat) v,a[i]? =some v->Exact v):Exact (.agg a)
 |two (a:Array Value) (h:∀(i:Nat) v,a[i]? =some v->Exact v) (hn:0<a.size):Exact (.tuple a)
def Exact.clean{v}(h:Exact v):Clean v:=by induction h with|bool b=>exact .bool b|int k n=>exact .int k n|string s=>exact .string s|agg a _ i=>exact .agg a i|two a _ _ i=>exact .tuple a i
def Exact.eq{v}(h:Exact v):∀ {X:List Nat}{v':Value},V E X v v'->v'=v:=by
 induction h with
 |bool b=>intro X v' h;cases h;rfl
 |int k n=>intro X v' h;cases h;rfl
 |string s=>intro X v' h;cases h;rfl
 |agg a _ ih=>intro X v' h;cases h with|agg _ a' h1 h2=>exact t062
 |two a _ hn ih=>intro X v' h;cases h with|tuple _ a' h1 h2=>exact t062
end Rn
def t0106{p:Prop}(h:p:=by rw[h1];cases h3<;>refine⟨_,?_,rfl⟩<;>first|trivial|(unfold World.noCell;rw[h1];trivial)):p:=h
namespace Rn
def norm(P:Program){α:Type}:Sem α->Sem α
 |.program k=>norm P (k P)|s=>s
theorem jP P{α}:∀(s:Sem α)(w)(es),s.runT P w es=(norm P s).runT P w es
 |.program k,w,es=>by rw[Sem.runT,norm];exact jP P (k P) w es|.pure _,_,_|.load _ _ _,_,_|.store _ _ _ _,_,_|.new _ _,_,_|.shape _ _,_,_|.freeze _ _ _,_,_|.frozen _ _,_,_|.getObj _ _,_,_|.setObj _ _ _,_,_|.choose _ _,_,_|.sys _ _,_,_|.mark _ _,_,_|.halt _,_,_=>rfl
theorem kM P{α β}(f:α->Sem β):∀s:Sem α,norm P (s.bind f)=norm P ((norm P s).bind f)
 |.program k=>by show norm P ((k P).bind f)=norm P ((norm P (k P)).bind f);exact kM P f (k P)|.pure _|.load _ _ _|.store _ _ _ _|.new _ _|.shape _ _|.freeze _ _ _|.frozen _ _|.getObj _ _|.setObj _ _ _|.choose _ _|.sys _ _|.mark _ _|.halt _=>rfl
def kP:Halt->Prop
 |.unsupported (.initOrder _)=>False|_=>True
def jR(P:Program){α:Type}:Sem α->Prop
 |.program k=>jR P (k P)|.shape _ k=>∀z,jR P (k z)|.frozen _ k=>∀b,jR P (k b)|.mark _ k=>jR P k|.halt h=>kP h|_=>False
theorem jR.bind{P α β}{f:α->Sem β}:∀ {s:Sem α},jR P s->jR P (s.bind f)
 |.program k,h=>jR.bind (s:=k P) h|.shape _ k,h=>λz=>jR.bind (h z)|.frozen _ k,h=>λz=>jR.bind (h z)|.mark _ k,h=>jR.bind (s:=k) h|.halt _,h=>h|.pure _,h|.load _ _ _,h|.store _ _ _ _,h|.new _ _,h|.getObj _ _,h|.setObj _ _ _,h|.choose _ _,h|.sys _ _,h|.freeze _ _ _,h=>h.elim
theorem jR.run{P α}:∀ {s:Sem α},jR P s->∀w es,∃h nM,kP h/\s.runT P w es=(.halt h w,nM)
 |.program k,h,w,es=>by rw[Sem.runT];exact jR.run (s:=k P) h w es|.shape r k,h,w,es=>by rw[Sem.runT];exact jR.run (h _) w es|.frozen r k,h,w,es=>by rw[Sem.runT];exact jR.run (h _) w es|.mark m k,h,w,es=>by rw[Sem.runT];exact jR.run (s:=k) h w _|.halt x,h,w,es=>⟨x,es,h,by rw[Sem.runT]⟩|.pure _,h,_,_|.load _ _ _,h,_,_|.store _ _ _ _,h,_,_|.new _ _,h,_,_|.getObj _ _,h,_,_|.setObj _ _ _,h,_,_|.choose _ _,h,_,_|.sys _ _,h,_,_|.freeze _ _ _,h,_,_=>h.elim
def ky(P:Program)(E:Env){α:Type}(Φ:List Nat->α->α->Prop):Sem α->List Nat->Sem α->Prop
 |.pure a,X,s'=>∃a',norm P s'=.pure a'/\Φ X a a'|.load m a k,X,s'=>∃b k',m=.plain/\norm P s'=.load .plain ⟨b,a.off,a.spot⟩ k'/\At E X a.block b/\∀v v',V E X v v'->ky P E Φ (k v) X (k' v')|.store m a x k,X,s'=>∃b x' k',m=.plain/\norm P s'=.store .plain ⟨b,a.off,a.spot⟩ x' k'/\At E X a.block b/\V E X x x'/\ky P E Φ k X k'|.new o k,X,s'=>∃o' k',norm P s'=.new o' k'/\sw E X o o'/\∀b,ky P E Φ (k (E.G+X.length)) (X++[b]) (k' b)|.shape r k,X,s'=>(∃b k',norm P s'=.shape b k'/\At E X r b/\∀z,ky P E Φ (k z) X (k' z))∨∀z,jR P (k z)|.getObj r k,X,s'=>∃b k',norm P s'=.getObj b k'/\At E X r b/\∀o o',sw E X o o'->ky P E Φ (k o) X (k' o')|.setObj r o k,X,s'=>∃b o' k',norm P s'=.setObj b o' k'/\At E X r b/\sw E X o o'/\ky P E Φ k X k'|.choose q k,X,s'=>∃k',norm P s'=.choose q k'/\∀n,ky P E Φ (k n) X (k' n)|.program k,X,s'=>ky P E Φ (k P) X s'|.mark m k,X,s'=>(∃k',m=.noRoom/\norm P s'=.mark .noRoom k'/\ky P E Φ k X k')∨jR P k|.frozen _ k,_,_=>∀b,jR P (k b)|.freeze _ _ _,_,_|.sys _ _,_,_=>False|.halt h,_,_=>kP h
theorem ky.norm{P E α Φ}:∀ {s:Sem α}{X:List Nat}{s' US:Sem α},Rn.norm P s'=Rn.norm P US->ky P E Φ s X s'->ky P E Φ s X US
 |.pure a,X,s',US,e,⟨a',h1,h⟩=>⟨a',e.symm.trans h1,h⟩|.load m a k,X,s',US,e,⟨b,k',h0,h1,h⟩=>⟨b,k',h0,e.symm.trans h1,h⟩|.store m a x k,X,s',US,e,⟨b,x',k',h0,h1,h⟩=>⟨b,x',k',h0,e.symm.trans h1,h⟩|.new o k,X,s',US,e,⟨o',k',h1,h⟩=>⟨o',k',e.symm.trans h1,h⟩|.shape r k,X,s',US,e,.inl ⟨b,k',h1,h⟩=>.inl ⟨b,k',e.symm.trans h1,h⟩|.shape r k,X,s',US,e,.inr h=>.inr h|.getObj r k,X,s',US,e,⟨b,k',h1,h⟩=>⟨b,k',e.symm.trans h1,h⟩|.setObj r o k,X,s',US,e,⟨b,o',k',h1,h⟩=>⟨b,o',k',e.symm.trans h1,h⟩|.choose q k,X,s',US,e,⟨k',h1,h⟩=>⟨k',e.symm.trans h1,h⟩|.program k,X,s',US,e,h=>ky.norm (s:=k P) e h|.mark m k,X,s',US,e,.inl ⟨k',h0,h1,h⟩=>.inl ⟨k',h0,e.symm.trans h1,h⟩|.mark m k,X,s',US,e,.inr h=>.inr h|.freeze _ _ _,_,_,_,_,h=>h.elim|.frozen _ _,_,_,_,_,h=>h|.sys _ _,_,_,_,_,h=>h.elim|.halt _,_,_,_,_,h=>h
theorem ky.bind{P E α β Φ Ψ}{f f':α->Sem β}:∀ {s:Sem α}{X:List Nat}{s':Sem α},(∀Y a a',Φ (X++Y) a a'->ky P E Ψ (f a) (X++Y) (f' a'))->ky P E Φ s X s'->ky P E Ψ (s.bind f) X (s'.bind f')
 |.pure a,X,s',hf,h=>by obtain⟨a',hn,h⟩:=h;have:=hf [] a a' aF0;rw[aO]at this;refine ky.norm ?_ this;rw[kM P f' s',hn];rfl
 |.load m a k,X,s',hf,h=>by obtain⟨b,k',h1,hn,h2,h3⟩:=h;exact⟨b,_,h1,by rw[kM P f' s',hn];rfl,h2,λv v' hv=>ky.bind hf (h3 v v' hv)⟩
 |.store m a x k,X,s',hf,h=>by obtain⟨b,x',k',h1,hn,h2,h3,h4⟩:=h;exact⟨b,x',_,h1,by rw[kM P f' s',hn];rfl,h2,h3,ky.bind hf h4⟩
 |.new o k,X,s',hf,h=>by obtain⟨o',k',hn,h1,h2⟩:=h;refine⟨o',_,by rw[kM P f' s',hn];rfl,h1,λb=>ky.bind (λY a a' ha=>?_) (h2 b)⟩;have:=hf ([b]++Y) a a' (by simpa using ha);simpa using this
 |.shape r k,X,s',hf,h=>by rcases h with⟨b,k',hn,h1,h2⟩|h;exact .inl ⟨b,_,by rw[kM P f' s',hn];rfl,h1,λz=>ky.bind hf (h2 z)⟩;exact .inr λz=>(h z).bind
 |.getObj r k,X,s',hf,h=>by obtain⟨b,k',hn,h1,h2⟩:=h;exact⟨b,_,by rw[kM P f' s',hn];rfl,h1,λo o' ho=>ky.bind hf (h2 o o' ho)⟩
 |.setObj r o k,X,s',hf,h=>by obtain⟨b,o',k',hn,h1,h2,h3⟩:=h;exact⟨b,o',_,by rw[kM P f' s',hn];rfl,h1,h2,ky.bind hf h3⟩
 |.choose q k,X,s',hf,h=>by obtain⟨k',hn,h1⟩:=h;exact⟨_,by rw[kM P f' s',hn];rfl,λn=>ky.bind hf (h1 n)⟩
 |.program k,X,s',hf,h=>ky.bind (s:=k P) hf h|.mark m k,X,s',hf,h=>by rcases h with⟨k',h0,hn,h1⟩|h;exact .inl ⟨_,h0,by rw[kM P f' s',hn];rfl,ky.bind hf h1⟩;exact .inr h.bind
 |.freeze _ _ _,_,_,_,h=>h.elim|.frozen _ _,_,_,_,h=>λb=>(h b).bind|.sys _ _,_,_,_,h=>h.elim|.halt _,_,_,_,h=>h
structure WR(E:Env)(Sh:Nat->Prop)(X:List Nat)(v w:World):Prop where
 size:v.heap.size=E.G+X.length
 el:∀(i b:Nat),X[i]? =some b->∃o o',v.heap[E.G+i]? =some o/\w.heap[b]? =some o'/\sw E X o o'
 lH:∀r,r<E.G->v.heap[r]? =some (.cells #[] 0 (0,0))
 nodup:X.Nodup
 shared:∀(i b:Nat),X[i]? =some b->Sh b->∃c e,v.heap[E.G+i]? =some (.cells c e (0,c.size))
 low:∀b,Sh b->b<w.heap.size
 tape:v.tape=w.tape
 drawn:v.drawn=w.drawn
def EvX(X:List Nat)(Sh:Nat->Prop)(e:Event):Prop:=e=noRoomEvent∨(e.sync=false/\((∃a:Addr,e.loc=.cell a/\a.block∈X/\(e.write=true->¬Sh a.block))∨∃r,e.loc=.obj r/\r∈X/\(e.write=true->¬Sh r)))
def EvX.app{X Sh e}(h:EvX X Sh e) Y:EvX (X++Y) Sh e:=by rcases h with h|⟨h1,⟨a,h2,h3,h4⟩|⟨r,h2,h3,h4⟩⟩;exact .inl h;exact .inr ⟨h1,.inl ⟨a,h2,cC _ h3,h4⟩⟩;exact .inr ⟨h1,.inr ⟨r,h2,cC _ h3,h4⟩⟩
structure Out(E:Env)(Sh:Nat->Prop)(X:List Nat)(w:World)(Y:List Nat)(v1 w1:World):Prop where
 rel:WR E Sh (X++Y) v1 w1
 size:w.heap.size<=w1.heap.size
 fresh:∀b∈Y,w.heap.size<=b/\b<w1.heap.size
 others:∀b,b<w.heap.size->b∉X->w1.heap[b]? =w.heap[b]?
 shared:∀b,Sh b->w1.heap[b]? =w.heap[b]?
 all:∀b,w.heap.size<=b->b<w1.heap.size->b∈Y
 os:w1.os=w.os
 tape:w1.tape=w.tape
 output:w1.output=w.output
def Out.refl{E Sh X v w}(h:WR E Sh X v w):Out E Sh X w [] v w:=⟨by simpa using h,ν,aHV,λ_ _ _=>rfl,λ_ _=>rfl,(λb h1 h2=>by omega),rfl,rfl,rfl⟩
theorem Out.trans{E:Env}{Sh:Nat->Prop}{X Y Z:List Nat}{w v1 w1 v2 w2:World}(h:Out E Sh X w Y v1 w1)(h':Out E Sh (X++Y) w1 Z v2 w2):Out E Sh X w (Y++Z) v2 w2 where
 rel:=by have:=h'.rel;rwa[aL]at this
 size:=ak h.size h'.size;fresh:=λb hb=>by rcases bx.1 hb with hb|hb;exact⟨(h.fresh b hb).1,ay (h.fresh b hb).2 h'.size⟩;exact⟨ak h.size (h'.fresh b hb).1,(h'.fresh b hb).2⟩
 others:=λb hb hn=>by
  have hy:b∉X++Y:=λhm=>by rcases bx.1 hm with hm|hm;exact hn hm;have:=(h.fresh b hm).1;omega
  rw[h'.others b (ay hb h.size) hy,h.others b hb hn]
 shared:=λb hb=>(h'.shared b hb).trans (h.shared b hb);all:=λb h1 h2=>by by_cases hb:b<w1.heap.size;exact cC _ (h.all b h1 hb);exact List.mem_append_right _ (h'.all b ω h2)
 os:=h'.os.trans h.os;tape:=h'.tape.trans h.tape;output:=h'.output.trans h.output
section
variable{E:Env}{Sh:Nat->Prop}{X:List Nat}{v w:World}
def WR.obj(h:WR E Sh X v w){r b}(ha:At E X r b):∃o o',v.heap[r]? =some o/\w.heap[b]? =some o'/\sw E X o o':=by obtain⟨o,o',h1,h2,h3⟩:=h.el _ _ ha.2;exact⟨o,o',by rw[show E.G+(r-E.G)=r by have:=ha.1;omega]at h1;exact h1,h2,h3⟩
def WR.lt(h:WR E Sh X v w){b}(hb:b∈X):b<w.heap.size:=by obtain⟨i,hi⟩:=cD hb;obtain⟨o,o',_,h2,_⟩:=h.el i b hi;exact(ae.1 h2).1
def WR.put(h:WR E Sh X v w){r b}(ha:At E X r b){o o'}(ho:sw E X o o')(hs:¬Sh b):Out E Sh X w [] {v with heap:=v.heap.setIfInBounds r o} {w with heap:=w.heap.setIfInBounds b o'}:=by
 have iZ:∀(i b2:Nat),X[i]? =some b2->E.G+i≠r->b2≠b:=λi b2 hi hn e=>by subst e;have h2:=ha.2;have gV:=(aB.1 hi).1;have:i=r-E.G:=(eM gV h.nodup).1 (hi.trans h2.symm);have:=ha.1;omega
 have BL:b∈X:=List.mem_of_getElem? ha.2;have mQ:=h.lt BL;refine⟨?_,ζ,aHV,λb2 hb hn=>?_,λb2 hb=>?_,(λb2 h1 h2=>by simp at h2;omega),rfl,rfl,rfl⟩;rw[aO];refine⟨by simpa using h.size,λi b2 hi=>?_,λr2 hr=>?_,h.nodup,λi b2 hi hb=>?_,λb2 hb=>by simpa using h.low b2 hb,h.tape,h.drawn⟩;obtain⟨o1,o1',h1,h2,h3⟩:=h.el i b2 hi;by_cases hr:E.G+i=r;subst hr;have:b2=b:=by have:=ha.2;rw[show E.G+i-E.G=i by omega,hi]at this;exact aA this
 subst this;refine⟨o,o',?_,?_,ho⟩;rw[aj (ae.1 h1).1];rw[aj mQ];refine⟨o1,o1',?_,?_,h3⟩;rw[ah (aG hr)];exact h1;rw[ah (aG (iZ i b2 hi hr))];exact h2;rw[ah (by have:=ha.1;omega)];exact h.lH r2 hr;obtain⟨c,e,h1⟩:=h.shared i b2 hi hb;refine⟨c,e,?_⟩;by_cases hr:E.G+i=r;subst hr;have:b2=b:=by have:=ha.2;rw[show E.G+i-E.G=i by omega,hi]at this;exact aA this
 subst this;exact absurd hb hs;rw[ah (aG hr)];exact h1;show(w.heap.setIfInBounds b o')[b2]? =_;rw[ah (λe=>by subst e;exact hn BL)];show(w.heap.setIfInBounds b o')[b2]? =_;rw[ah (λe=>by subst e;exact hs hb)]
def WR.new(h:WR E Sh X v w){o o'}(ho:sw E X o o'):Out E Sh X w [w.heap.size] {v with heap:=v.heap.push o} {w with heap:=w.heap.push o'}:=by
 have hn:w.heap.size∉X:=λhm=>by have:=h.lt hm;omega
 refine⟨⟨?_,λi b hi=>?_,λr hr=>?_,?_,λi b hi hb=>?_,λb hb=>?_,h.tape,h.drawn⟩,ζ,λb hb=>?_,λb hb _=>?_,λb hb=>?_,λb h1 h2=>?_,rfl,rfl,rfl⟩;simp[h.size];omega;by_cases gV:i<X.length;rw[aP gV]at hi;obtain⟨o1,o1',h1,h2,h3⟩:=h.el i b hi;refine⟨o1,o1',?_,?_,h3.app _⟩;rw[bQ (ae.1 h1).1,<-Array.getElem?_eq_getElem];exact h1;rw[bQ (ae.1 h2).1,<-Array.getElem?_eq_getElem];exact h2;rw[aK ω]at hi;have:i-X.length=0:=by have:=(aB.1 hi).1;simp at this;omega
 rw[this]at hi;simp at hi;subst hi;have hi2:i=X.length:=ω;subst hi2;refine⟨o,o',?_,?_,ho.app _⟩;rw[<-h.size];simp;simp;have gV:r<v.heap.size:=by rw[h.size];omega
 rw[bQ gV,<-Array.getElem?_eq_getElem];exact h.lH r hr;rw[dX];exact⟨h.nodup,by simp,λa ha b hb=>by simp at hb;subst hb;exact λe=>hn (e▸ha)⟩;have mQ:=h.low b hb;by_cases gV:i<X.length;rw[aP gV]at hi;obtain⟨c,e,h1⟩:=h.shared i b hi hb;refine⟨c,e,?_⟩;rw[bQ (ae.1 h1).1,<-Array.getElem?_eq_getElem];exact h1;rw[aK ω]at hi;have:=List.mem_of_getElem? hi;simp at this;omega;have:=h.low b hb;simp;omega;simp at hb;subst hb;simp;show(w.heap.push o')[b]? =_;rw[bQ hb,<-Array.getElem?_eq_getElem];have:=h.low b hb;show(w.heap.push o')[b]? =_;rw[bQ this,<-Array.getElem?_eq_getElem];simp at h2|-;omega
end
def uj{α}(a:Array α) j f x(h:a[j]? =some x):a.modify j f=a.setIfInBounds j (f x):=by obtain⟨gV,rfl⟩:=ae.1 h;apply bL;intro m;rw[bd];by_cases hm:j=m;subst hm;simp[gV];simp[hm]
def WR.load{E Sh X v w}(h:WR E Sh X v w){a b}(ha:At E X a.block b){x}(hx:v.cell? a=some x):∃x',w.cell? ⟨b,a.off,a.spot⟩=some x'/\V E X x x':=by
 obtain⟨o,o',h1,h2,h3⟩:=h.obj ha;unfold World.cell? at hx|-;rw[h1]at hx;dsimp only;rw[h2];cases h3 with
 |cells c c' e fz Lt hc hf=>
  dsimp only at hx|-;cases hs:a.spot with
  |some s=>rw[hs]at hx;cases hx
  |none=>rw[hs]at hx;simp only[Option.isSome_none,Bool.false_eq_true,if_false]at hx|-;rcases hc.get a.off with⟨y,y',e1,e2,hy⟩|⟨e1,e2⟩;rw[e1]at hx;cases hx;exact⟨y',e2,hy⟩;rw[e1]at hx;cases hx
 |_=>cases hx
def WR.far{E Sh X v w}(h:WR E Sh X v w){a b}(ha:At E X a.block b) P m:(∃x,kP x/\v.farLoad P a m=.error x)/\∀y,∃x,kP x/\v.farStore P a y m=.error x:=by obtain⟨o,o',h1,h2,h3⟩:=h.obj ha;constructor;unfold World.farLoad;exact t0106;intro y;unfold World.farStore;exact t0106
def ahy{E X x x'}(h:V E X x x')(hf:flat x):flat x':=by cases h<;>first|exact trivial|assumption|exact hf.elim
def WR.store{E Sh X v w}(h:WR E Sh X v w){a b}(ha:At E X a.block b){x x'}(hx:V E X x x'){y}(hy:v.cell? a=some y)(hf:v.frozen? a=false):(∃y',w.cell? ⟨b,a.off,a.spot⟩=some y')/\w.frozen? ⟨b,a.off,a.spot⟩=false/\¬Sh b/\Out E Sh X w [] (v.setCell a x) (w.setCell ⟨b,a.off,a.spot⟩ x'):=by
 obtain⟨y',hy',_⟩:=h.load ha hy;obtain⟨o,o',h1,h2,h3⟩:=h.obj ha;have pU:∃c c' e fz Lt,o=.cells c e fz/\o'=.cells c' e Lt/\VA E X c c'/\(Lt=fz∨fz=(0,c.size))/\a.off<c.size/\a.spot=none:=by
  unfold World.cell? at hy;rw[h1]at hy;cases h3 with
  |cells c c' e fz Lt hc hf=>
   dsimp only at hy;cases hs:a.spot with
   |some s=>rw[hs]at hy;cases hy
   |none=>rw[hs]at hy;simp only[Option.isSome_none,Bool.false_eq_true,if_false]at hy;exact⟨c,c',e,fz,Lt,rfl,rfl,hc,hf,(ae.1 hy).1,rfl⟩
  |_=>cases hy
 obtain⟨c,c',e,fz,Lt,rfl,rfl,hc,hfz,gV,hsp⟩:=pU;have hf2:¬(fz.1<=a.off/\a.off<fz.2):=by unfold World.frozen? at hf;rw[h1]at hf;simpa using hf
 have tn:¬Sh b:=λhb=>by obtain⟨c2,e2,h4⟩:=h.shared _ _ ha.2 hb;rw[show E.G+(a.block-E.G)=a.block by have:=ha.1;omega,h1]at h4;cases h4;exact hf2 ⟨cI _,gV⟩
 refine⟨⟨y',hy'⟩,?_,tn,?_⟩;unfold World.frozen?;dsimp only;rw[h2];have:¬(Lt.1<=a.off/\a.off<Lt.2):=λhh=>by rcases hfz with rfl|rfl;exact hf2 hh;exact hf2 ⟨cI _,gV⟩
 simpa using this;unfold World.setCell;dsimp only;rw[uj _ _ _ _ h1,uj _ _ _ _ h2,hsp];exact h.put ha (.cells _ _ e fz Lt (hc.set _ hx) (hfz.imp id λe=>by rw[e];simp)) tn
def qv(P:Program)(E:Env)(Sh:Nat->Prop){α:Type}(Φ:List Nat->α->α->Prop)(s s':Sem α)(X:List Nat)(v w:World)(uY oY:Array Event):Prop:=(∃h v' es,kP h/\s.runT P v uY=(.halt h v',es))∨∃a v1 DU Y a' w1 Ae,s.runT P v uY=(.ok a v1,DU)/\s'.runT P w oY=(.ok a' w1,Ae)/\Φ (X++Y) a a'/\Out E Sh X w Y v1 w1/\∀e∈Ae,e∈oY∨EvX (X++Y) Sh e
section
variable{P:Program}{E:Env}{Sh:Nat->Prop}{α:Type}{Φ:List Nat->α->α->Prop}
def qv.of{s s' t t' X Y v w v1 w1 es nM DU Ae}(h:qv P E Sh Φ t t' (X++Y) v1 w1 DU Ae)(ho:Out E Sh X w Y v1 w1)(h1:s.runT P v es=t.runT P v1 DU)(h2:s'.runT P w nM=t'.runT P w1 Ae) (he:∀x∈Ae,x∈nM∨EvX (X++Y) Sh x):qv P E Sh Φ s s' X v w es nM:=by rcases h with⟨hh,v',e,u4,hr⟩|⟨a,v2,e2,Z,a',w2,e2',r1,r2,r3,r4,r5⟩;exact .inl ⟨hh,v',e,u4,h1.trans hr⟩;refine .inr ⟨a,v2,e2,Y++Z,a',w2,e2',h1.trans r1,h2.trans r2,by rwa[<-aL],ho.trans r4,λx hx=>?_⟩;rw[<-aL];rcases r5 x hx with h|h;exact(he x h).imp id (·.app Z);exact .inr h
def qv.halt{s s' X v w es nM x}(hx:kP x)(h:s.runT P v es=(.halt x v,es)):qv P E Sh Φ s s' X v w es nM:=.inl ⟨_,_,_,hx,h⟩
def qv.of0{s s' t t' X v w v1 w1 es nM DU Ae}(h:qv P E Sh Φ t t' X v1 w1 DU Ae)(ho:Out E Sh X w [] v1 w1)(h1:s.runT P v es=t.runT P v1 DU)(h2:s'.runT P w nM=t'.runT P w1 Ae) (he:∀x∈Ae,x∈nM∨EvX X Sh x):qv P E Sh Φ s s' X v w es nM:=qv.of (Y:=[]) (by rwa[aO]) ho h1 h2 (by rwa[aO])
theorem ky.run:∀ {s:Sem α}{X:List Nat}{s':Sem α},ky P E Φ s X s'->∀ {v w:World}(uY oY:Array Event),WR E Sh X v w->qv P E Sh Φ s s' X v w uY oY
 |.pure a,X,s',h,v,w,uY,oY,hw=>by obtain⟨a',hn,h⟩:=h;exact .inr ⟨a,v,uY,[],a',w,oY,rfl,by rw[jP,hn];rfl,by rwa[aO],.refl hw,λe he=>.inl he⟩
 |.load m a k,X,s',h,v,w,uY,oY,hw=>by
  obtain⟨b,k',rfl,hn,ha,hk⟩:=h;cases hc:v.cell? a with
  |none=>obtain⟨⟨x,u4,hx⟩,_⟩:=hw.far ha P (Mode.plain==.atomic);exact .halt (x:=x) u4 (by rw[Sem.runT];simp only[hc,hx])
  |some y=>obtain⟨y',hy',hv⟩:=hw.load ha hc;refine qv.of0 (ky.run (hk y y' hv) (uY.push ⟨.cell a,false,false⟩) (oY.push ⟨.cell ⟨b,a.off,a.spot⟩,false,false⟩) hw) (.refl hw) (by rw[Sem.runT];simp only[hc];rfl) (by rw[jP P s',hn,Sem.runT];simp only[hy'];rfl) ?_;intro x hx;rcases dh.1 hx with h2|rfl;exact .inl h2;exact .inr (.inr ⟨rfl,.inl ⟨_,rfl,List.mem_of_getElem? ha.2,λhh=>by cases hh⟩⟩)
 |.store m a x k,X,s',h,v,w,uY,oY,hw=>by
  obtain⟨b,x',k',rfl,hn,ha,hx,hk⟩:=h;by_cases Lo:flat x;have hs:∀(x:Value)(_:flat x)(a:Addr)(k:Sem α)(u:World)(es:Array Event),(Sem.store .plain a x k).runT P u es=match u.cell? a with
   |some _=>if u.frozen? a then(.halt (.unsupported (.unsafePointer "a write to bytes that a string shares")) u,es)else k.runT P (u.setCell a x) (es.push ⟨.cell a,true,false⟩)
   |none=>match u.farStore P a x false with
    |.ok (w,Kp)=>k.runT P w (es++Kp.toArray.map (⟨.cell ·,true,false⟩))
    |.error h=>(.halt h u,es):=by
   intro x hx a k u es;cases x<;>first|exact hx.elim|rfl
  cases hc:v.cell? a with
  |none=>obtain⟨_,avE⟩:=hw.far ha P false;obtain⟨z,u4,hz⟩:=avE x;exact .halt (x:=z) u4 (by rw[hs x Lo];simp only[hc,hz])
  |some y=>cases mD:v.frozen? a with|true=>exact .halt (x:=.unsupported (.unsafePointer "a write to bytes that a string shares")) trivial (by rw[hs x Lo];simp only[hc,mD,if_true])|false=>obtain⟨⟨y',h1⟩,h2,h3,h4⟩:=hw.store ha hx hc mD;refine qv.of0 (ky.run hk (uY.push ⟨.cell a,true,false⟩) (oY.push ⟨.cell ⟨b,a.off,a.spot⟩,true,false⟩) (by simpa using h4.rel)) h4 (by rw[hs x Lo];simp only[hc,mD,Bool.false_eq_true,if_false]) (by rw[jP P s',hn,hs x' (ahy hx Lo)];simp only[h1,h2,Bool.false_eq_true,if_false]) ?_;intro e he;rcases dh.1 he with h5|rfl;exact .inl h5;exact .inr (.inr ⟨rfl,.inl ⟨_,rfl,List.mem_of_getElem? ha.2,λ_=>h3⟩⟩)
  have:(∃c,x=.agg c)∨∃c,x=.tuple c:=by cases x<;>first|exact .inl ⟨_,rfl⟩|exact .inr ⟨_,rfl⟩|exact absurd trivial Lo
  rcases this with⟨c,rfl⟩|⟨c,rfl⟩<;>exact .halt (x:=.stuck "store: not the value of one cell") trivial aGW
 |.new o k,X,s',h,v,w,uY,oY,hw=>by obtain⟨o',k',hnm,ho,hk⟩:=h;have hn:=hw.new ho;refine qv.of (Y:=[w.heap.size]) (ky.run (hk w.heap.size) uY oY hn.rel) hn (by rw[Sem.runT,hw.size]) (by rw[jP P s',hnm,Sem.runT]) (λe he=>.inl he)
 |.shape r k,X,s',h,v,w,uY,oY,hw=>by
  rcases h with⟨b,k',hn,ha,hk⟩|h;case inr=>obtain⟨x,nM,u4,hx⟩:=jR.run (s:=.shape r k) h v uY;exact .inl ⟨x,v,nM,u4,hx⟩
  have hz:v.shape? r=w.shape? b:=by obtain⟨o,o',h1,h2,h3⟩:=hw.obj ha;unfold World.shape?;rw[h1,h2];cases h3 with|cells c c' e fz Lt hc hf=>simp only[hc.size]|_=>rfl
  exact qv.of0 (ky.run (hk (v.shape? r)) uY oY hw) (.refl hw) aGW (by rw[jP P s',hn,Sem.runT,hz]) (λe he=>.inl he)
 |.getObj r k,X,s',h,v,w,uY,oY,hw=>by
  obtain⟨b,k',hn,ha,hk⟩:=h;obtain⟨o,o',h1,h2,h3⟩:=hw.obj ha;have hm:=List.mem_of_getElem? ha.2;have Tg:=hk o o' h3;have mm:∀x∈oY.push ⟨.obj b,false,false⟩,x∈oY∨EvX X Sh x:=by intro x hx;rcases dh.1 hx with h5|rfl;exact .inl h5;exact .inr (.inr ⟨rfl,.inr ⟨_,rfl,hm,λhh=>by cases hh⟩⟩)
  cases h3 with|cells c c' e fz Lt hc hf=>exact .halt (x:=.stuck "getObj: a row of cells") trivial (by rw[Sem.runT];simp only[h1])|map a a' n Te=>exact qv.of0 (ky.run Tg (uY.push ⟨.obj r,false,false⟩) _ hw) (.refl hw) aGE aGa mm|JN s x n=>exact qv.of0 (ky.run Tg (uY.push ⟨.obj r,false,false⟩) _ hw) (.refl hw) aGE aGa mm|number r2 b2 o2 s l hi=>exact qv.of0 (ky.run Tg (uY.push ⟨.obj r,false,false⟩) _ hw) (.refl hw) aGE aGa mm|iter r2 b2 s x n hi=>exact qv.of0 (ky.run Tg (uY.push ⟨.obj r,false,false⟩) _ hw) (.refl hw) aGE aGa mm
 |.setObj r o k,X,s',h,v,w,uY,oY,hw=>by
  obtain⟨b,o2,k',hn,ha,ho,hk⟩:=h;obtain⟨p,p',h1,h2,h3⟩:=hw.obj ha;have hm:=List.mem_of_getElem? ha.2;have VT:o2.isChan=false:=by cases ho<;>rfl
  have avR:o.isChan=false:=by cases ho<;>rfl
  have main:(∀c e f,p≠.cells c e f)->(∀c e f,p'≠.cells c e f)->qv P E Sh Φ (.setObj r o k) s' X v w uY oY:=by
   intro hp OJ;have tn:¬Sh b:=λhb=>by obtain⟨c2,e2,h4⟩:=hw.shared _ _ ha.2 hb;rw[show E.G+(r-E.G)=r by have:=ha.1;omega,h1]at h4;cases h4;exact hp _ _ _ rfl
   have apB:=hw.put ha ho tn;refine qv.of0 (ky.run hk (uY.push ⟨.obj r,true,false⟩) (oY.push ⟨.obj b,true,false⟩) (by simpa using apB.rel)) apB ?_ ?_ ?_;rw[Sem.runT,avR];cases p<;>first|exact absurd rfl (hp _ _ _)|simp only[h1]
   rw[jP P s',hn,Sem.runT,VT];cases p'<;>first|exact absurd rfl (OJ _ _ _)|simp only[h2]
   intro x hx;rcases dh.1 hx with h5|rfl;exact .inl h5;exact .inr (.inr ⟨rfl,.inr ⟨_,rfl,hm,λ_=>tn⟩⟩)
  cases h3 with|cells c c' e fz Lt hc hf=>exact .halt (x:=.stuck "setObj: a row of cells") trivial (by rw[Sem.runT];simp only[h1])|map a a' n Te=>exact main aFQ aFQ|JN s x n=>exact main aFQ aFQ|number r2 b2 o2 s l hi=>exact main aFQ aFQ|iter r2 b2 s x n hi=>exact main aFQ aFQ
 |.choose q k,X,s',h,v,w,uY,oY,hw=>by
  obtain⟨k',hn,hk⟩:=h;by_cases hq:q.forced=true;exact qv.of0 (ky.run (hk 0) uY oY hw) (.refl hw) (by rw[Sem.runT,if_pos hq]) (by rw[jP P s',hn,Sem.runT,if_pos hq]) (λe he=>.inl he);have e1:q.cut (v.tape v.drawn q)=q.cut (w.tape w.drawn q):=by rw[hw.tape,hw.drawn]
  have hw2:WR E Sh X {v with drawn:=v.drawn+1} {w with drawn:=w.drawn+1}:=⟨hw.size,hw.el,hw.lH,hw.nodup,hw.shared,hw.low,hw.tape,by show v.drawn+1=w.drawn+1;rw[hw.drawn]⟩;have ho:Out E Sh X w [] {v with drawn:=v.drawn+1} {w with drawn:=w.drawn+1}:=⟨by simpa using hw2,ν,aHV,λ_ _ _=>rfl,λ_ _=>rfl,(λb h1 h2=>by simp at h2;omega),rfl,rfl,rfl⟩;exact qv.of0 (ky.run (hk (q.cut (v.tape v.drawn q))) uY oY hw2) ho (by rw[Sem.runT,if_neg hq]) (by rw[jP P s',hn,Sem.runT,if_neg hq,e1]) (λe he=>.inl he)
 |.program k,X,s',h,v,w,uY,oY,hw=>by exact qv.of0 (ky.run (s:=k P) h uY oY hw) (.refl hw) aGW rfl (λe he=>.inl he)|.mark m k,X,s',h,v,w,uY,oY,hw=>by
  rcases h with⟨k',rfl,hn,hk⟩|h;case inr=>obtain⟨x,nM,u4,hx⟩:=jR.run (s:=.mark m k) h v uY;exact .inl ⟨x,v,nM,u4,hx⟩
  refine qv.of0 (ky.run hk (uY.push noRoomEvent) (oY.push noRoomEvent) hw) (.refl hw) (by rw[Sem.runT];rfl) (by rw[jP P s',hn,Sem.runT];rfl) ?_;intro x hx;rcases dh.1 hx with h5|rfl;exact .inl h5;exact .inr (.inl rfl)
 |.freeze _ _ _,_,_,h,_,_,_,_,_=>h.elim|.frozen a k,_,_,h,v,_,uY,_,_=>by obtain⟨x,nM,u4,hx⟩:=jR.run (s:=.frozen a k) h v uY;exact .inl ⟨x,v,nM,u4,hx⟩
 |.sys _ _,_,_,h,_,_,_,_,_=>h.elim|.halt x,_,_,h,v,_,uY,_,_=>.halt (x:=x) h aGW
end
end Rn
def t0135{p:Prop}(h:p:=by rintro Y a a'⟨_,ha⟩;rw[ha.eq];exact⟨_,rfl,.ptr _ _ _ _ ha.1⟩):p:=h
def t0133{p:Prop}(h:p:=by refine wF ?_;split;rename_i i h;exact gK ⟨rfl,h⟩;exact trivial):p:=h
def t0107{p:Prop}(h:p:=by intro t;induction t with|program k ih=>intro s' h;exact ih P s' h|_=>intro s' h;exact h):p:=h
def t089{p:Prop}(h:p:=by cases op<;>first|exact gK (.int _ _)|exact trivial):p:=h
def t056{p:Prop}(h:p:=by rcases ha with⟨rfl,rfl⟩|⟨b,b',rfl,rfl,hb⟩;exact trivial;refine gG (mj hb) ?_;rintro x y⟨h1,_⟩;exact zq (Fo h1 _ _) λ_ _ h=>h):p:=h
def t035{p:Prop}(h:p:=by refine gG (mG _ _ _ hl hh hm) ?_;rintro⟨x,y,z⟩_ rfl;refine jA (kp _) λq=>?_;split;rw[ha.eq];exact gK (.slice _ _ _ _ _ _ ha.1);have hb:=ha.add (x*q);rw[hb.eq];exact gK (.slice _ _ _ _ _ _ hb.1)):p:=h
namespace Rn
section
variable{P:Program}{E:Env}{X:List Nat}{α β:Type}
abbrev RE(P:Program)(E:Env){α:Type}(R:α->α->Prop)(X:List Nat)(s s':Sem α):Prop:=ky P E (λX' a a'=>X'=X/\R a a') s X s'
abbrev RG(P:Program)(E:Env){α:Type}(R:List Nat->α->α->Prop)(X:List Nat)(s s':Sem α):Prop:=ky P E R s X s'
def AR(E:Env)(X:List Nat)(a a':Addr):Prop:=At E X a.block a'.block/\a'.off=a.off/\a'.spot=a.spot
def AR.eq{a a'}(h:AR E X a a'):a'=⟨a'.block,a.off,a.spot⟩:=by obtain⟨b,o,s⟩:=a';obtain⟨_,h1,h2⟩:=h;dsimp only at h1 h2;rw[h1,h2]
def AR.add{a a'}(h:AR E X a a') n:AR E X (a.add n) (a'.add n):=by unfold Addr.add;split;exact h;exact⟨h.1,by rw[h.2.1],rfl⟩
def gK{R}{a a':α}(h:R a a'):RE P E R X (pure a) (pure a'):=⟨a',rfl,rfl,h⟩
def mT{R}{a a':α}(h:R X a a'):RG P E R X (pure a) (pure a'):=⟨a',rfl,h⟩
def gG{R Ψ s s'}{f f':α->Sem β}(h:RE P E R X s s')(hf:∀a a',R a a'->RG P E Ψ X (f a) (f' a')):RG P E Ψ X (s >>= f) (s' >>= f'):=by refine ky.bind (λY a a' ha=>?_) h;rw[ha.1];exact hf a a' ha.2
def pe{R Ψ s s'}{f f':α->Sem β}(h:RG P E R X s s')(hf:∀Y a a',R (X++Y) a a'->RG P E Ψ (X++Y) (f a) (f' a')):RG P E Ψ X (s >>= f) (s' >>= f'):=ky.bind hf h
def jA{Ψ s}{f f':α->Sem β}(h:RE P E Eq X s s)(hf:∀a,RG P E Ψ X (f a) (f' a)):RG P E Ψ X (s >>= f) (s >>= f'):=gG h λa a' e=>by subst e;exact hf a
def bind_pure':∀s:Sem α,s.bind pure=s:=by intro s;induction s with|pure a=>rfl|load m a k ih=>exact congrArg (Sem.load m a) (funext ih)|store m a v k ih=>exact congrArg (Sem.store m a v) ih|new o k ih=>exact congrArg (Sem.new o) (funext ih)|shape r k ih=>exact congrArg (Sem.shape r) (funext ih)|freeze a n k ih=>exact congrArg (Sem.freeze a n) ih|frozen a k ih=>exact congrArg (Sem.frozen a) (funext ih)|getObj r k ih=>exact congrArg (Sem.getObj r) (funext ih)|setObj r o k ih=>exact congrArg (Sem.setObj r o) ih|choose q k ih=>exact congrArg (Sem.choose q) (funext ih)|sys c k ih=>exact congrArg (Sem.sys c) (funext ih)|program k ih=>exact congrArg Sem.program (funext ih)|mark m k ih=>exact congrArg (Sem.mark m) ih|halt h=>rfl
def U4{R R'}{s s':Sem α}(h:RG P E R X s s')(hr:∀Y a a',R (X++Y) a a'->R' (X++Y) a a'):RG P E R' X s s':=by have:=pe (f:=pure) (f':=pure) h λY a a' ha=>mT (P:=P) (E:=E) (hr Y a a' ha);rwa[show(s >>= pure)=s from bind_pure' s,show(s' >>= pure)=s' from bind_pure' s']at this
def KO{R R'}{s s':Sem α}(h:RE P E R X s s')(hr:∀a a',R a a'->R' a a'):RE P E R' X s s':=U4 h λ_ _ _ x=>⟨x.1,hr _ _ x.2⟩
def zq{R Ψ}{s s':Sem α}(h:RE P E R X s s')(hr:∀a a',R a a'->Ψ X a a'):RG P E Ψ X s s':=U4 h λY a a' x=>by rw[x.1];exact hr a a' x.2
def abw{R c}[Decidable c]{a b a' b':Sem α}(h1:RE P E R X a a')(h2:RE P E R X b b'):RE P E R X (if c then a else b) (if c then a' else b'):=by split<;>assumption
def kx{Ψ c}[Decidable c]{a b a' b':Sem α}(h1:RG P E Ψ X a a')(h2:RG P E Ψ X b b'):RG P E Ψ X (if c then a else b) (if c then a' else b'):=by split<;>assumption
def Rt:RE P E (λa b=>a=P/\b=P) X program program:=⟨_,rfl,rfl,rfl,rfl⟩
def wF{Ψ}{f f':Program->Sem β}(hf:RG P E Ψ X (f P) (f' P)):RG P E Ψ X (program >>= f) (program >>= f'):=gG Rt λa b ⟨e1,e2⟩=>by subst e1;subst e2;exact hf
def vo t:RE P E (λa b=>a=b/\P.info? t=some a) X (typeInfo t) (typeInfo t):=by unfold typeInfo;exact t0133
def mV t:RE P E Eq X (typeInfo t) (typeInfo t):=KO (vo t) λ_ _ h=>h.1
def iR t:RE P E (λa b=>a=b/\P.underlying t=some a) X (underlying t) (underlying t):=by unfold underlying;exact t0133
def iY t:RE P E Eq X (underlying t) (underlying t):=KO (iR t) λ_ _ h=>h.1
def kp t:RE P E Eq X (sizeOf t) (sizeOf t):=jA (mV t) λ_=>gK rfl
def Ny t:RE P E Eq X (isAgg t) (isAgg t):=by unfold isAgg;refine jA (iY t) λd=>?_;split<;>exact gK rfl
def o9(P:Program)(t:TypeId):Prop:=∀i z,P.info? t=some i->i.zero=some z->Clean z
def mU t(h:o9 P t):RE P E (λa b=>a=b/\Clean a) X (zeroValue t) (zeroValue t):=by unfold zeroValue;refine gG (vo t) λa b ⟨e,hi⟩=>?_;subst e;split;rename_i z hz;exact gK ⟨rfl,h _ _ hi hz⟩;exact trivial
def Fj n:RE P E (λ_ _=>True) X (askRoom n) (askRoom n):=by unfold askRoom;split;exact .inl ⟨_,rfl,rfl,_,rfl,rfl,trivial⟩;exact gK trivial
def sN q:RE P E Eq X (choose q) (choose q):=⟨_,rfl,λn=>⟨_,rfl,rfl,rfl⟩⟩
def U8{a a'}(h:AR E X a a'):RE P E (V E X) X (load a) (load a'):=by rw[h.eq];exact⟨_,_,rfl,rfl,h.1,λv v' hv=>⟨_,rfl,rfl,hv⟩⟩
def abr{a a'}(h:AR E X a a'){v v'}(hv:V E X v v'):RE P E (λ_ _=>True) X (store a v) (store a' v'):=by rw[h.eq];exact⟨_,_,_,rfl,rfl,h.1,hv,_,rfl,rfl,trivial⟩
def sL{r b}(h:At E X r b):RE P E Eq X (shape r) (shape b):=.inl ⟨_,_,rfl,h,λz=>⟨_,rfl,rfl,rfl⟩⟩
def mW{r b}(h:At E X r b):RE P E (sw E X) X (getObj r) (getObj b):=⟨_,_,rfl,h,λo o' ho=>⟨_,rfl,rfl,ho⟩⟩
def AZ{r b}(h:At E X r b){o o'}(ho:sw E X o o'):RE P E (λ_ _=>True) X (setObj r o) (setObj b o'):=⟨_,_,_,rfl,h,ho,_,rfl,rfl,trivial⟩
def wE{o o'}(ho:sw E X o o'):RG P E (λX' r b=>X'=X++[b]/\At E X' r b) X (newObj o) (newObj o'):=⟨_,_,rfl,ho,λb=>⟨_,rfl,rfl,by omega,by rw[show E.G+X.length-E.G=X.length by omega];simp⟩⟩
theorem sM{a a'}(h:AR E X a a'):∀n i {c c':Array Value},VA E X c c'->RE P E (VA E X) X (loadCellsFrom a i n c) (loadCellsFrom a' i n c')
 |0,i,c,c',hc=>gK hc|n+1,i,c,c',hc=>gG (U8 (h.add i)) λv v' hv=>sM h n (i+1) (hc.push hv)
def tV{a a'}(h:AR E X a a') n:RE P E (VA E X) X (loadCells a n) (loadCells a' n):=sM h n 0 (VA.empty X)
def Fg{a a'}(h:AR E X a a') t:RE P E (V E X) X (loadVar t a) (loadVar t a'):=by unfold loadVar;refine jA (Ny t) λb=>?_;split;exact jA (kp t) λn=>gG (tV h n) λc c' hc=>gK (V.Vg hc);exact U8 h
theorem rX{a a'}(h:AR E X a a'):∀l l' i,VA E X l.toArray l'.toArray->RE P E (λ_ _=>True) X (storeCells a l i) (storeCells a' l' i)
 |[],l',i,hl=>by
  have:l'=[]:=by have:=hl.size;simp at this;exact aR this.symm
  subst this;exact gK trivial|v::l,[],i,hl=>by have:=hl.size;simp at this|v::l,v'::l',i,hl=>by have h0:=hl.el 0 v v' ζ ζ;refine gG (abr (h.add i) h0) λ_ _ _=>rX h l l' (i+1) ⟨by have:=hl.size;simpa using this,λj x x' h1 h2=>hl.el (j+1) x x' aFV aFR⟩
def Nt{a a'}(h:AR E X a a') t{v v'}(hv:V E X v v'):RE P E (λ_ _=>True) X (storeVar t a v) (storeVar t a' v'):=by unfold storeVar;have hc:=hv.cells;refine jA (kp t) λn=>?_;rw[<-hc.size];split;exact trivial;exact rX h _ _ 0 (by simpa using hc)
def wD e{c c'}(hc:VA E X c c'):RG P E (λX' a a'=>(∃b,X'=X++[b])/\AR E X' a a') X (newRow e c) (newRow e c'):=by unfold newRow;refine ky.bind (λY r b hr=>?_) (wE (.cells c c' e (0,0) (0,0) hc (.inl rfl)));exact⟨_,rfl,⟨b,hr.1⟩,hr.2,rfl,rfl⟩
def Jl t{v v'}(hv:V E X v v'):RG P E (λX' a a'=>(∃b,X'=X++[b])/\AR E X' a a') X (newVar t v) (newVar t v'):=wD t hv.cells
def agd t{c c'}(hc:VA E X c c') off:RE P E (V E X) X (part t c off) (part t c' off):=by unfold part;refine jA (Ny t) λb=>?_;split;exact jA (kp t) λn=>gK (V.Vg (hc.extract _ _));rcases hc.get off with⟨v,v',e1,e2,hv⟩|⟨e1,e2⟩;rw[e1,e2];exact gK hv;rw[e1,e2];exact trivial
def tY{v v'}(h:V E X v v'):RE P E Eq X (asIntOf v) (asIntOf v'):=by cases h<;>first|exact trivial|exact gK rfl
def Fl{v v'}(h:V E X v v'):RE P E Eq X (asInt v) (asInt v'):=gG (tY h) λ_ _ e=>by subst e;exact gK rfl
def Yx{v v'}(h:V E X v v'):RE P E Eq X (asBool v) (asBool v'):=by cases h<;>first|exact trivial|exact gK rfl
def pA{v v'}(h:V E X v v'):RE P E (AR E X) X (Instr.sureAddr v) (Instr.sureAddr v'):=by cases h<;>first|exact trivial|exact gK ⟨by assumption,rfl,rfl⟩
def abE:RuntimeError->Prop
 |.bounds _ _ _ _|.error _|.plain _|.nilDeref=>True|_=>False
def mE{Ψ e e'}(h:abE e):RG P E Ψ X (runtimePanic e:Sem α) (runtimePanic e'):=by refine wF ?_;cases e<;>first|exact trivial|exact h.elim
def mF{Ψ} k x y c:RG P E Ψ X (boundsPanic k x y c:Sem α) (boundsPanic k x y c):=by unfold boundsPanic;dsimp only;split;refine jA (gG (sN _) λa b e=>by subst e;exact gK rfl) λb=>?_;refine mE ?_;exact trivial;refine jA (gK rfl) λb=>mE ?_;exact trivial
def Jr{v v'}(h:V E X v v'):RE P E (AR E X) X (asAddr v) (asAddr v'):=by
 cases h;case ptrN=>show RE P E (AR E X) X (runtimePanic .nilDeref) (runtimePanic .nilDeref);exact mE trivial
 case ptr r b o s h=>exact gK (R:=AR E X) ⟨h,rfl,rfl⟩
 case undef h=>cases v'<;>first|exact trivial|exact h.elim
 all_goals exact trivial
def abo t(hz:o9 P t):RG P E (λX' v v'=>V E X' v v') X (Instr.alloc t true (.tuple #[])) (Instr.alloc t true (.tuple #[])):=by unfold Instr.alloc;refine gG (mU t hz) ?_;rintro z z'⟨e,hc⟩;subst e;refine pe (Jl t (hc.self X)) ?_;exact t0135
def ajZ t{v v'}(hv:V E X v v'):RG P E (λX' v v'=>V E X' v v') X (Instr.box t v) (Instr.box t v'):=by unfold Instr.box;refine pe (Jl t hv) ?_;exact t0135
def Yt t{v v'}(hv:V E X v v'):RE P E (V E X) X (Instr.loadAt t v) (Instr.loadAt t v'):=gG (pA hv) λa a' ha=>Fg ha t
def Rm t{v v' x x'}(hv:V E X v v')(hx:V E X x x'):RE P E (λ_ _=>True) X (Instr.storeAt t v x) (Instr.storeAt t v' x'):=gG (pA hv) λa a' ha=>Nt ha t hx
theorem GU place:∀l l' c c',l.length=l'.length->(∀(i:Nat)(p p'),l[i]? =some p->l'[i]? =some p'->p.1=p'.1/\V E X p.2 p'.2)->VA E X c c'->(∃d d',Instr.fill place c l=some d/\Instr.fill place c' l'=some d'/\VA E X d d')∨(Instr.fill place c l=none/\Instr.fill place c' l'=none)
 |[],[],c,c',_,_,hc=>.inl ⟨c,c',rfl,rfl,hc⟩|[],_::_,_,_,h,_,_=>by simp at h|_::_,[],_,_,h,_,_=>by simp at h|(i,v)::l,(i',v')::l',c,c',hl,hp,hc=>by
  obtain⟨e,hv⟩:=hp 0 _ _ rfl rfl;dsimp only at e hv;subst e;have CV:=hv.cells;unfold Instr.fill;cases VM:place i with
  |none=>exact .inr ⟨rfl,rfl⟩|some x=>
  obtain⟨off,size⟩:=x;dsimp only;rw[<-CV.size,<-hc.size];split;exact .inr ⟨rfl,rfl⟩;refine GU place l l' _ _ (by simpa using hl) (λj p p' h1 h2=>hp (j+1) p p' aFV aFR) ?_;have key:∀(w w':List Value)(d d':Array Value)(k:Nat),VA E X w.toArray w'.toArray->VA E X d d'->VA E X ((w.zipIdx k).foldl (λcs (x:Value×Nat)=>cs.setIfInBounds (off+x.2) x.1) d) ((w'.zipIdx k).foldl (λcs (x:Value×Nat)=>cs.setIfInBounds (off+x.2) x.1) d'):=by intro w;induction w with|nil=>intro w' d d' k hww hd;have e2:w'=[]:=aR (by have:=hww.size;simpa using this.symm);subst e2;exact hd|cons x w ih=>intro w' d d' k hww hd;cases w' with|nil=>have:=hww.size;simp at this|cons x' w'=>rw[List.zipIdx_cons,List.zipIdx_cons,List.foldl_cons,List.foldl_cons];exact ih w' _ _ (k+1) ⟨by have:=hww.size;simpa using this,λj y y' h1 h2=>hww.el (j+1) y y' aFV aFR⟩ (hd.set _ (hww.el 0 x x' ζ ζ))
  rw[<-Array.foldl_toList,<-Array.foldl_toList,Array.toList_zipIdx,Array.toList_zipIdx];exact key _ _ _ _ 0 (by simpa using CV) hc
structure PR(E:Env)(X:List Nat)(l l':Array (Nat×Value)):Prop where
 size:l.size=l'.size
 el:∀(i:Nat)(p p':Nat×Value),l[i]? =some p->l'[i]? =some p'->p.1=p'.1/\V E X p.2 p'.2
theorem U5{γ}(f:γ->Sem α)(hf:∀a,RE P E Eq X (f a) (f a)):∀(l:List γ),RE P E Eq X (l.mapM f) (l.mapM f)
 |[]=>by rw[eC];exact gK rfl|a::l=>by rw[dE];exact jA (hf a) λb=>jA (U5 f hf l) λr=>gK rfl
def abu{γ}(f:γ->Sem α)(hf:∀a,RE P E Eq X (f a) (f a))(l:Array γ):RE P E Eq X (l.mapM f) (l.mapM f):=by rw[dq];refine gG (R:=Eq) (U5 f hf _) λa b e=>?_;subst e;exact gK rfl
def abz t(hz:o9 P t){l l'}(hl:PR E X l l'):RE P E (V E X) X (Instr.build t l) (Instr.build t l'):=by unfold Instr.build;refine gG (mU t hz) ?_;rintro z z'⟨e,hc⟩;subst e;have hzc:=(hc.self (E:=E) X).cells;have acR:∀place,(∃d d',Instr.fill place z.cells l.toList=some d/\Instr.fill place z.cells l'.toList=some d'/\VA E X d d')∨(Instr.fill place z.cells l.toList=none/\Instr.fill place z.cells l'.toList=none):=λplace=>GU place _ _ _ _ (by simpa using hl.size) (λi p p' h1 h2=>hl.el i p p' aFV aFR) hzc;dsimp only;refine jA (iY t) λd=>?_;split;refine jA (abu _ (λf=>jA (kp _) λn=>gK rfl) _) λplaces=>?_;rcases acR (places[·]?)with⟨d,d',e1,e2,hd⟩|⟨e1,e2⟩;rw[e1,e2];exact gK (V.Vg hd);rw[e1,e2];exact trivial;refine jA (kp _) λsize=>?_;rcases acR (λi=>some (i*size,size))with⟨d,d',e1,e2,hd⟩|⟨e1,e2⟩;rw[e1,e2];exact gK (V.Vg hd);rw[e1,e2];exact trivial;exact trivial
def VA.lr{z:Array Value}(hz:∀(i:Nat) v,z[i]? =some v->Clean v) n:VA E X ((Array.range n).map (z[· % z.size]!)) ((Array.range n).map (z[· % z.size]!)):=by
 refine VA.map _ _ _ λa ha=>?_;have hc:Clean (z[a % z.size]!):=by rw[getElem!_def];cases hh:z[a % z.size]? with|none=>exact(Clean.bool false:Clean (.bool false)) |> λ_=>(show Clean (default:Value)from .bool false)|some v=>exact hz _ _ hh
 exact hc.self X
def PM(z:Value):(∃a,z=.agg a)∨z.cells=#[z]:=by cases z<;>first|exact .inl ⟨_,rfl⟩|exact .inr rfl
def Clean.cells{z}(h:Clean z):∀(i:Nat) v,z.cells[i]? =some v->Clean v:=by
 rcases PM z with⟨a,rfl⟩|e;cases h with|agg _ h=>exact h
 intro i v hv;rw[e]at hv;have:=Array.mem_of_getElem? hv;simp at this;subst this;exact h
def Is t (hz : ∀ e, P.underlying t = some (.slice e) -> o9 P e) n {l l'} (hl : PR E X l l') : RG P E (λX' v v' => V E X' v v') X (Instr.buildSlice t n l) (Instr.buildSlice t n l') := by
  unfold Instr.buildSlice
  refine gG (iR t) ?_
  rintro d d' ⟨e, hu⟩
  subst e
  split
  · rename_i elem
    refine jA (kp _) λsize => ?_
    dsimp only
    refine kx trivial ?_
    have ow : ∀ z : Array Value, (∀ (i : Nat) v, z[i]? = some v -> Clean v) -> RG P E (λX' v v' => V E X' v v') X
        (match Instr.fill (λi => some (i * size, size)) ((Array.range (n * size)).map (z[· % z.size]!)) l.toList with
          | some cells => do pure (.slice (some (<- newRow elem cells)) n n)
          | _ => stuck "buildSlice: a part of the wrong size")
        (match Instr.fill (λi => some (i * size, size)) ((Array.range (n * size)).map (z[· % z.size]!)) l'.toList with
          | some cells => do pure (.slice (some (<- newRow elem cells)) n n)
          | _ => stuck "buildSlice: a part of the wrong size") := by
      intro z hc
      rcases GU (E := E) (X := X) (λi => some (i * size, size)) l.toList l'.toList _ _ (by simpa using hl.size) (λi p p' h1 h2 => hl.el i p p' aFV aFR) (VA.lr hc (n * size)) with ⟨d, d', e1, e2, hd⟩ | ⟨e1, e2⟩
      · rw [e1, e2]
        refine pe (wD elem hd) ?_
        rintro Y a a' ⟨_, ha⟩
        rw [ha.eq]
        exact ⟨_, rfl, .slice _ _ _ _ _ _ ha.1⟩
      · rw [e1, e2]; exact trivial
    refine kx ?_ ?_
    · exact gG (R := λa b => a = #[] /\ b = #[]) (gK ⟨rfl, rfl⟩) (λa b ⟨e1, e2⟩ => by subst e1; subst e2; exact ow _ (λi v h => by simp at h))
    · refine gG (mU _ (hz _ hu)) ?_
      rintro z z' ⟨e, hc⟩
      subst e
      exact gG (R := λa b => a = z.cells /\ b = z.cells) (gK ⟨rfl, rfl⟩) (λa b ⟨e1, e2⟩ => by subst e1; subst e2; exact ow _ hc.cells)
  · exact trivial
def Mg(P:Program)(t:TypeId):Prop:=∀(fs:Array Field)(f:Field)(i:TypeInfo)(n:Nat),P.underlying t=some (.struct fs)->fs[n]? =some f->P.info? f.type=some i->i.size≠0
def Rw t(hs:Mg P t){v v'}(hv:V E X v v') n:RE P E (V E X) X (Instr.fieldAt t v n) (Instr.fieldAt t v' n):=by
 unfold Instr.fieldAt;refine gG (iR t) ?_;rintro d d'⟨e,hu⟩;subst e;split;rename_i fields;split;rename_i f hf;refine gG (pA hv) λa a' ha=>?_;have hp:RE P E (AR E X) X (fieldPlace a f) (fieldPlace a' f):=by
  unfold fieldPlace;have pL:RE P E (λx y=>x=y/\x≠0) X (sizeOf f.type) (sizeOf f.type):=by unfold sizeOf;refine gG (vo f.type) ?_;rintro i i'⟨e,hi⟩;subst e;exact gK ⟨rfl,hs _ _ _ _ hu hf hi⟩
  refine gG pL ?_;rintro x y⟨e,iZ⟩;subst e;rw[if_neg iZ,if_neg iZ];exact gK (ha.add _)
 refine gG hp λa a' ha=>?_;rw[ha.eq];exact gK (.ptr _ _ _ _ ha.1);exact trivial;exact trivial
def Nw (n : Int) k (len : Nat) elem aog {a a'} (ha : AR E X a a') : RE P E (V E X) X
    (if 0 <= n /\ n < len then do pure (.pointer (some (a.add (n.toNat * (<- sizeOf elem)))))
      else if aog = true then unsupported (.noEntry "op/indexAddr.an index out of range at an array of length 0 or 1 (ledger 616)") else boundsPanic k n len .index)
    (if 0 <= n /\ n < len then do pure (.pointer (some (a'.add (n.toNat * (<- sizeOf elem)))))
      else if aog = true then unsupported (.noEntry "op/indexAddr.an index out of range at an array of length 0 or 1 (ledger 616)") else boundsPanic k n len .index) := by
  refine kx ?_ (kx trivial (mF _ _ _ _))
  refine jA (kp _) λm => ?_
  have := ha.add (n.toNat * m)
  rw [this.eq]
  exact gK (.ptr _ _ _ _ this.1)
def Rv t{v v' i i'}(hv:V E X v v')(hi:V E X i i'):RE P E (V E X) X (Instr.indexAt t v i) (Instr.indexAt t v' i'):=by
 unfold Instr.indexAt;refine gG (tY hi) ?_;rintro⟨k,n⟩_ rfl;dsimp only;refine jA (iY t) λd=>?_;cases d with
 |array len elem=>refine gG (pA hv) λa a' ha=>?_;refine gG (R:=λx y=>x=(some a,len,elem)/\y=(some a',len,elem)) (gK ⟨rfl,rfl⟩) ?_;rintro _ _⟨rfl,rfl⟩;refine jA (iY t) λd2=>?_;exact Nw n k len elem _ ha
 |slice elem=>
  cases hv with
  |lW m c=>refine gG (R:=λx y=>x=(none,m,elem)/\y=(none,m,elem)) (gK ⟨rfl,rfl⟩) ?_;rintro _ _⟨rfl,rfl⟩;refine jA (iY t) λd2=>?_;exact mF _ _ _ _
  |slice r b o s m c h=>refine gG (R:=λx y=>x=(some ⟨r,o,s⟩,m,elem)/\y=(some ⟨b,o,s⟩,m,elem)) (gK ⟨rfl,rfl⟩) ?_;rintro _ _⟨rfl,rfl⟩;refine jA (iY t) λd2=>?_;exact Nw n k m elem _ ⟨h,rfl,rfl⟩
  |_=>exact trivial
 |_=>exact trivial
inductive VO(E:Env)(X:List Nat):Option Value->Option Value->Prop
 |none:VO E X none none
 |some {v v':Value} (h:V E X v v'):VO E X (some v) (some v')
def pg{v v'}(hv:V E X v v') y c:RE P E Eq X (Instr.sliceBound v y c) (Instr.sliceBound v' y c):=by unfold Instr.sliceBound;refine gG (tY hv) ?_;rintro⟨k,n⟩_ rfl;exact abw (gK rfl) (mF _ _ _ _)
def mG b len cap {l l' h h' m m'} (hl : VO E X l l') (hh : VO E X h h') (hm : VO E X m m') : RE P E Eq X (Instr.sliceBounds b len cap l h m) (Instr.sliceBounds b len cap l' h' m') := by
  unfold Instr.sliceBounds
  have uq : ∀ (hi mx : Nat) (b2 b3 : Bool), b2 = b3 -> RE P E Eq X
      (do let l <- match l with
            | some v => Instr.sliceBound v hi (if b2 then .slice3C else .sliceB)
            | none => pure 0
          pure (l, hi, mx))
      (do let l <- match l' with
            | some v => Instr.sliceBound v hi (if b3 then .slice3C else .sliceB)
            | none => pure 0
          pure (l, hi, mx)) := by
    intro hi mx b2 b3 e
    subst e
    cases hl with
    | none => exact gK rfl
    | some hv => exact gG (pg hv _ _) λa a' e => by subst e; exact gK rfl
  cases hm with
  | none =>
    refine jA (gK rfl) λmx => ?_
    cases hh with
    | none => exact jA (gK rfl) λhi => uq _ _ _ _ rfl
    | some hv => exact gG (pg hv _ _) λa a' e => by subst e; exact uq _ _ _ _ rfl
  | some hv =>
    refine gG (pg hv _ _) λmx mx' e => ?_
    subst e
    cases hh with
    | none => exact trivial
    | some hv => exact gG (pg hv _ _) λa a' e => by subst e; exact uq _ _ _ _ rfl
def abt t{v v'}(hv:V E X v v'){l l' h h' m m'}(hl:VO E X l l')(hh:VO E X h h')(hm:VO E X m m'):RE P E (V E X) X (Instr.slice t v l h m) (Instr.slice t v' l' h' m'):=by
 unfold Instr.slice;refine jA (iY t) λd=>?_;cases d with
 |string=>
  cases hv with
  |string s=>
   cases hm with
   |none=>refine gG (mG _ _ _ hl hh .none) ?_;rintro⟨a,b,c⟩_ rfl;exact gK (.string _)
   |some _=>exact trivial
  |_=>exact trivial
 |slice elem=>
  cases hv with
  |lW n c=>refine gG (mG _ _ _ hl hh hm) ?_;rintro⟨a,b,c⟩_ rfl;refine jA (kp _) λz=>?_;split<;>exact gK (.lW _ _)
  |slice r b o s n c hr=>refine gG (mG _ _ _ hl hh hm) ?_;rintro⟨x,y,z⟩_ rfl;refine jA (kp _) λq=>?_;split;exact gK (.slice _ _ _ _ _ _ hr);have ha:AR E X ((⟨r,o,s⟩:Addr).add (x*q)) ((⟨b,o,s⟩:Addr).add (x*q)):=AR.add (show AR E X ⟨r,o,s⟩ ⟨b,o,s⟩from⟨hr,rfl,rfl⟩) _;simp only[Option.map_some];rw[ha.eq];exact gK (.slice _ _ _ _ _ _ ha.1)
  |_=>exact trivial
 |pointer arr=>refine gG (Jr hv) λa a' ha=>?_;refine jA (iY arr) λd2=>?_;split;exact t035;exact trivial|_=>cases hv<;>exact trivial
def Ro t{v v'}(hv:V E X v v'){l l' h h' m m'}(hl:VO E X l l')(hh:VO E X h h')(hm:VO E X m m'):RE P E (V E X) X (Instr.sliceAt t v l h m) (Instr.sliceAt t v' l' h' m'):=by unfold Instr.sliceAt;refine jA (iY t) λd=>?_;split;refine gG (pA hv) λa a' ha=>?_;exact t035;exact abt t hv hl hh hm
def abx t{v v' i i'}(hv:V E X v v')(hi:V E X i i'):RE P E (V E X) X (Instr.index t v i) (Instr.index t v' i'):=by
 unfold Instr.index;refine gG (tY hi) ?_;rintro⟨k,n⟩_ rfl;dsimp only;refine jA (iY t) λd=>?_;cases d with
 |array len elem=>cases hv with|agg a a' h1 h2=>refine kx ?_ (mF _ _ _ _);exact jA (kp _) λm=>agd elem ⟨h1,h2⟩ _|_=>exact trivial
 |string=>cases hv with|string s=>dsimp only;split;exact gK (.int _ _);exact mF _ _ _ _|_=>exact trivial
 |_=>cases hv<;>exact trivial
def Rx i{v v'}(hv:V E X v v'):RE P E (V E X) X (Instr.extract v i) (Instr.extract v' i):=by
 cases hv with
 |tuple a a' h1 h2=>unfold Instr.extract;dsimp only;rcases(VA.mk h1 h2:VA E X a a').get i with⟨x,x',e1,e2,hx⟩|⟨e1,e2⟩;rw[e1,e2];exact gK hx;rw[e1,e2];exact trivial
 |_=>exact trivial
def sO{v v'}(hv:V E X v v'):RE P E (V E X) X (Conv.bytesToString v) (Conv.bytesToString v'):=by
 cases hv with
 |lW n c=>exact gK (.string _)|slice r b o s n c h=>
  unfold Conv.bytesToString;refine gG (tV (show AR E X ⟨r,o,s⟩ ⟨b,o,s⟩from⟨h,rfl,rfl⟩) n) λc c' hc=>?_;have key:∀(l l':List Value)(s:ByteArray),VA E X l.toArray l'.toArray->RE P E Eq X
    (forIn l s λc r=>match c with
     |.int .u8 n=>pure (ForInStep.yield (r.push (UInt8.ofNat n.toNat)))
     |_=>stuck "bytesToString: byte expected" :Sem ByteArray)
    (forIn l' s λc r=>match c with
     |.int .u8 n=>pure (ForInStep.yield (r.push (UInt8.ofNat n.toNat)))
     |_=>stuck "bytesToString: byte expected" :Sem ByteArray):=by
   intro l;induction l with
   |nil=>
    intro l' s hl;have:l'=[]:=aR (by have:=hl.size;simpa using this.symm)
    subst this;exact gK rfl
   |cons x l ih=>
    intro l' s hl;cases l' with
    |nil=>have:=hl.size;simp at this
    |cons x' l'=>
     have hx:=hl.el 0 x x' ζ ζ
     have hl':VA E X l.toArray l'.toArray:=⟨by have:=hl.size;simpa using this,λj y y' h1 h2=>hl.el (j+1) y y' aFV aFR⟩
     rw[eU,eU];cases hx with
     |int k n=>
      cases k<;>first|exact trivial|(refine gG (R:=λx y=>x=ForInStep.yield (s.push (UInt8.ofNat n.toNat))/\y=x) (gK ⟨rfl,rfl⟩) ?_;rintro _ _ ⟨rfl,rfl⟩;exact ih l' _ hl')
     |_=>exact trivial
  dsimp only;rw[<-Array.forIn_toList,<-Array.forIn_toList];refine gG (key c.toList c'.toList _ (by simpa using hc)) ?_;rintro s _ rfl;exact gK (.string _)
 |_=>exact trivial
def te{Ψ}:∀ {s t:Sem α}{s':Sem α},norm P s=norm P t->RG P E Ψ X s s'->RG P E Ψ X t s':=by
 have key:∀(t s':Sem α),RG P E Ψ X (norm P t) s'->RG P E Ψ X t s':=by exact t0107
 have aue:∀(t s':Sem α),RG P E Ψ X t s'->RG P E Ψ X (norm P t) s':=by exact t0107
 intro s t s' e h;exact key t s' (e▸aue s s' h)
def ml{t d}(h:P.underlying t=some d):norm P (underlying t)=.pure d:=by show norm P (match P.underlying t with|some d=>pure d|none=>stuck "no such type")=_;rw[h];rfl
def DJ{Ψ t d}(h:P.underlying t=some d){f:TypeDesc->Sem α}{s'}(hf:RG P E Ψ X (f d) s'):RG P E Ψ X (underlying t >>= f) s':=by refine te ?_ hf;show _=norm P ((underlying t).bind f);rw[kM,ml h];rfl
def Un(P:Program)(src dst:TypeId):Prop:=(∃k j,P.underlying dst=some (.int k)/\P.underlying src=some (.int j))∨(P.underlying dst=some .string/\∃e,P.underlying src=some (.slice e)/\P.underlying e=some (.int .u8))
def Ry src dst(h:Un P src dst){v v'}(hv:V E X v v'):RE P E (V E X) X (convert src dst v) (convert src dst v'):=by
 unfold convert;refine gG (iR src) ?_;rintro ds _⟨rfl,hs⟩;refine gG (iR dst) ?_;rintro dd _⟨rfl,hd⟩;rcases h with⟨k,j,h1,h2⟩|⟨h1,e,h2,h3⟩;rw[h1]at hd;rw[h2]at hs;cases hd;cases hs;cases hv with|int j n=>exact gK (.int _ _)|_=>exact trivial
 rw[h1]at hd;rw[h2]at hs;cases hd;cases hs;have hu:RE P E (λa b=>a=.int .u8/\b=.int .u8) X (underlying e) (underlying e):=KO (iR e) λa b ⟨e1,e2⟩=>by subst e1;rw[h3]at e2;cases e2;exact⟨rfl,rfl⟩
 cases hv with
 |int k n=>exact gK (.string _)|string s=>exact gK (.string _)
 |slice r b o s n c h=>refine gG hu ?_;rintro _ _⟨rfl,rfl⟩;exact sO (.slice r b o s n c h)
 |lW n c=>refine gG hu ?_;rintro _ _⟨rfl,rfl⟩;exact sO (.lW n c)
 |_=>exact DJ h3 trivial
def Nz op k a b:RE P E (V E X) X (Op.intArith op k a b) (Op.intArith op k a b):=by unfold Op.intArith;exact t089
def Ru op k a b:RE P E (V E X) X (Op.intBits op k a b) (Op.intBits op k a b):=by unfold Op.intBits;dsimp only;exact t089
def Yu op a b:RE P E (V E X) X (Op.intCmp op a b) (Op.intCmp op a b):=by unfold Op.intCmp;cases op<;>first|exact gK (.bool _)|exact trivial
def Nu op k j a b:RE P E (V E X) X (Op.shift op k a j b) (Op.shift op k a j b):=by unfold Op.shift;split;refine mE ?_;exact trivial;dsimp only;exact t089
def Ap(op:BinOp):Prop:=match op with
 |.add|.sub|.mul|.and|.or|.xor|.shl|.shr|.lss|.geq=>True
 |_=>False
def Cw{r b}(h:At E X r b):RE P E (λx y=>x=none/\y=none∨∃a a' l,x=some (a,l)/\y=some (a',l)/\AR E X a a') X (numberAt r) (numberAt b):=by unfold numberAt;refine gG (R:=Eq) (sL h) λz _ e=>?_;subst e;cases z with|some z=>exact gK (.inl ⟨rfl,rfl⟩)|none=>refine gG (mW h) λo o' ho=>?_;cases ho with|number r b o s l h=>exact gK (.inr ⟨_,_,l,rfl,rfl,h,rfl,rfl⟩)|_=>exact gK (.inl ⟨rfl,rfl⟩)
def Jo{r b}(h:At E X r b):RE P E (λx y=>x=none/\y=none) X (viewAt r) (viewAt b):=by unfold viewAt;refine gG (R:=Eq) (sL h) λz _ e=>?_;subst e;cases z with|some z=>exact gK ⟨rfl,rfl⟩|none=>refine gG (mW h) λo o' ho=>?_;cases ho<;>exact gK ⟨rfl,rfl⟩
def mj{a a'}(h:AR E X a a'):RE P E (λx y=>AR E X x.1 y.1/\x.2=y.2) X (behindNumber a) (behindNumber a'):=by unfold behindNumber;refine gG (Cw h.1) λx y Mm=>?_;rcases Mm with⟨rfl,rfl⟩|⟨b,b',l,rfl,rfl,hb⟩;exact gK ⟨h,rfl⟩;exact gK ⟨hb,rfl⟩
def Yr{a a'}(h:AR E X a a'):RE P E (λ_ _=>True) X (noView a) (noView a'):=by unfold noView;refine gG (Jo h.1) ?_;rintro _ _⟨rfl,rfl⟩;exact gK trivial
def Yw{a a'}(h:AR E X a a'):RE P E Eq X (byteOf a) (byteOf a'):=by unfold byteOf;rw[h.2.2];cases a.spot with|some s=>exact gK rfl|none=>refine wF ?_;refine gG (Yr h) λ_ _ _=>?_;refine gG (R:=Eq) (sL h.1) λz _ e=>?_;subst e;cases z with|none=>exact trivial|some z=>refine abw (gK rfl) ?_;rw[h.2.1];split;exact gK rfl;exact trivial
def PP(E:Env)(X:List Nat)(v v':Value):Prop:=∃a a',v=.pointer (some a)/\v'=.pointer (some a')/\AR E X a a'
def PP.v{v v'}(h:PP E X v v'):V E X v v':=by obtain⟨a,a',rfl,rfl,ha⟩:=h;rw[ha.eq];exact .ptr _ _ _ _ ha.1
def qe ts t{a a'}(h:a=none/\a'=none∨∃b b',a=some b/\a'=some b'/\AR E X b b'){v v'}(hv:V E X v v'):RE P E (PP E X) X (Builtin.unsafeAdd_ ts t #[.pointer a,v]) (Builtin.unsafeAdd_ ts t #[.pointer a',v']):=by unfold Builtin.unsafeAdd_;dsimp only;refine gG (R:=Eq) (Fl hv) λn _ e=>?_;subst e;rcases h with⟨rfl,rfl⟩|⟨b,b',rfl,rfl,hb⟩;refine kx trivial (kx trivial trivial);refine kx ?_ (kx trivial ?_);refine gG (Jo hb.1) ?_;rintro _ _⟨rfl,rfl⟩;exact gK ⟨b,b',rfl,rfl,hb⟩;refine gG (R:=Eq) (sL hb.1) λz _ e=>?_;subst e;cases z with|none=>exact trivial|some z=>refine wF ?_;rw[hb.2.1];split;exact gK ⟨_,_,rfl,rfl,hb.1,rfl,hb.2.2⟩;exact trivial
def Nl{a a'}(h:AR E X a a') l:RG P E (λX' v v'=>V E X' v v') X (asNumber a l) (asNumber a' l):=by unfold asNumber;rw[h.eq];refine pe (wE (.number a.block a'.block a.off a.spot l h.1)) ?_;rintro Y r b⟨_,hr⟩;exact⟨_,rfl,.ptr _ _ _ _ hr⟩
def qM t{a a'}(h:a=none/\a'=none∨∃b b',a=some b/\a'=some b'/\AR E X b b'){y y'}(hy:V E X y y'):RG P E (λX' v v'=>V E X' v v') X (movedNumber t (.pointer a) y) (movedNumber t (.pointer a') y'):=by unfold movedNumber;refine jA (iY t) λd=>?_;dsimp only;refine kx trivial ?_;rcases h with⟨rfl,rfl⟩|⟨b,b',rfl,rfl,hb⟩;have:=qe (P:=P) (E:=E) (X:=X) #[] t (.inl ⟨rfl,rfl⟩) hy;exact zq this λ_ _ h=>h.v;refine gG (mj hb) ?_;rintro⟨a,l⟩⟨a',l'⟩⟨ha,hl⟩;dsimp only at ha hl|-;subst hl;refine gG (qe #[] t (.inr ⟨a,a',rfl,rfl,ha⟩) hy) ?_;rintro _ _⟨c,c',rfl,rfl,hc⟩;exact Nl hc l
def Dq t{a a'}(h:a=none/\a'=none∨∃b b',a=some b/\a'=some b'/\AR E X b b'){y y'}(hy:V E X y y'):RG P E (λX' v v'=>V E X' v v') X (movedPointer t (.pointer a) y) (movedPointer t (.pointer a') y'):=by unfold movedPointer;rcases h with⟨rfl,rfl⟩|⟨b,b',rfl,rfl,hb⟩;exact zq (qe (P:=P) (E:=E) (X:=X) #[] t (.inl ⟨rfl,rfl⟩) hy) λ_ _ h=>h.v;dsimp only;refine gG (Cw hb.1) λx y Mm=>?_;have hgo:=zq (Ψ:=λX' v v'=>V E X' v v') (qe (P:=P) (E:=E) (X:=X) #[] t (.inr ⟨b,b',rfl,rfl,hb⟩) hy) λ_ _ h=>h.v;rcases Mm with⟨rfl,rfl⟩|⟨_,_,l,rfl,rfl,_⟩;exact hgo;exact trivial
def KN{a a' b b'}(hG:P.globals.size<=E.G)(ha:AR E X a a')(hb:AR E X b b'){Ψ}:RG P E Ψ X (Op.twoPlaces a b) (Op.twoPlaces a' b'):=by
 unfold Op.twoPlaces;refine te (s:=.halt (.unsupported .addressObserved)) ?_ trivial;have:(a.block != b.block || decide (a.block≥P.globals.size))=true:=by have:=ha.1.1;simp;right;omega
 show _=norm P (if(a.block != b.block || decide (a.block≥P.globals.size))=true then _ else _);rw[if_pos this];rfl
def Fo{a a'}(ha:AR E X a a') k n:RE P E (V E X) X (Op.addrMod k a n) (Op.addrMod k a' n):=by unfold Op.addrMod;refine gG (R:=Eq) (sL ha.1) λz _ e=>?_;subst e;cases z with|none=>exact trivial|some z=>refine jA (mV _) λi=>?_;dsimp only;refine kx trivial ?_;refine gG (R:=Eq) (Yw ha) λx _ e=>?_;subst e;exact gK (.int _ _)
def Ns op a b:RE P E (V E X) X (Op.stringOp op a b) (Op.stringOp op a b):=by unfold Op.stringOp;dsimp only;cases op<;>first|exact gK (.bool _)|exact kx trivial (gK (.string _))|exact trivial
def YQ:Value->Bool
 |.int _ _|.string _|.pointer _|.float _ _|.complex _ _ _=>true|_=>false
def ad9 op(h:Ap op) t:∀x y,YQ x=false->∃k,kP k/\binOp op t x y=.halt k:=by
 intro x y hx;cases op<;>first
  |exact h.elim
  |(cases x<;>first
    |exact Bool.noConfusion hx
    |(cases y<;>first|(refine⟨_,?_,rfl⟩;exact trivial)|(rename_i a;cases a<;>(refine⟨_,?_,rfl⟩;exact trivial))))
def ad8 op(h:Ap op) t:∀x y,YQ y=false->∃k,kP k/\binOp op t x y=.halt k:=by
 intro x y hx;cases op<;>first
  |exact h.elim
  |(cases y<;>first
    |exact Bool.noConfusion hx
    |(cases x<;>first|(refine⟨_,?_,rfl⟩;exact trivial)|(rename_i a;cases a<;>(refine⟨_,?_,rfl⟩;exact trivial))))
def rM{Ψ}{s s':Sem α}(h:∃k,kP k/\s=.halt k):RG P E Ψ X s s':=by obtain⟨k,hk,rfl⟩:=h;exact hk
def Rh op(h:Ap op) t k j a b:RE P E (V E X) X (binOp op t (.int k a) (.int j b)) (binOp op t (.int k a) (.int j b)):=by
 cases op<;>first
  |exact h.elim
  |exact kx trivial (Nz _ _ _ _)
  |exact kx trivial (Ru _ _ _ _)
  |exact kx trivial (Yu _ _ _)
  |exact Nu .shl k j a b
  |exact Nu .shr k j a b
def AO(E:Env)(X:List Nat)(a a':Option Addr):Prop:=a=none/\a'=none∨∃b b',a=some b/\a'=some b'/\AR E X b b'
def ao{r b o s}(h:At E X r b):AO E X (some ⟨r,o,s⟩) (some ⟨b,o,s⟩):=.inr ⟨_,_,rfl,rfl,h,rfl,rfl⟩
def KH {a a' b b'} (ha : AR E X a a') (hb : AR E X b b') {Ψ} {f f' : Addr -> Addr -> Sem Value} (hf : ∀ c c' d d', AR E X c c' -> AR E X d d' -> RG P E Ψ X (f c d) (f' c' d')) :
    RG P E Ψ X (do f (<- behindNumber a).1 (<- behindNumber b).1) (do f' (<- behindNumber a').1 (<- behindNumber b').1) := by
  refine gG (mj ha) ?_
  rintro x y ⟨h1, _⟩
  refine gG (mj hb) ?_
  rintro u v ⟨h2, _⟩
  exact hf _ _ _ _ h1 h2
def Re{a a' b b'}(hG:P.globals.size<=E.G)(ha:AR E X a a')(hb:AR E X b b'){Ψ}{f f':Nat×Nat->Sem Value}:RG P E Ψ X (Op.twoPlaces a b >>= f) (Op.twoPlaces a' b' >>= f'):=ky.bind (Φ:=λ_ _ _=>False) (λ_ _ _ h=>h.elim) (KN hG ha hb)
def zl op(h:Ap op) t{a a'}(ha:AO E X a a') k n:RG P E (λX' v v'=>V E X' v v') X (binOp op t (.pointer a) (.int k n)) (binOp op t (.pointer a') (.int k n)):=by
 cases op<;>first
  |exact h.elim
  |exact trivial
  |exact jA (iY t) λd=>kx (Dq t ha (.int _ _)) (qM t ha (.int _ _))
  |exact qM t ha (.int _ _)
  |skip
 case lss=>rcases ha with⟨rfl,rfl⟩|⟨b,b',rfl,rfl,hb⟩<;>exact trivial
 case geq=>rcases ha with⟨rfl,rfl⟩|⟨b,b',rfl,rfl,hb⟩<;>exact trivial
 case and=>exact t056
def zm op(h:Ap op) t{a a'}(ha:AO E X a a') k n:RG P E (λX' v v'=>V E X' v v') X (binOp op t (.int k n) (.pointer a)) (binOp op t (.int k n) (.pointer a')):=by
 cases op<;>first
  |exact h.elim
  |exact trivial
  |exact qM t ha (.int _ _)
  |skip
 case and=>exact t056
def qd op(h:Ap op) t(hG:P.globals.size<=E.G){a a' b b'}(ha:AO E X a a')(hb:AO E X b b'):RG P E (λX' v v'=>V E X' v v') X (binOp op t (.pointer a) (.pointer b)) (binOp op t (.pointer a') (.pointer b')):=by
 rcases ha with⟨rfl,rfl⟩|⟨c,c',rfl,rfl,hc⟩;rcases hb with⟨rfl,rfl⟩|⟨d,d',rfl,rfl,hd⟩<;>cases op<;>first|exact h.elim|exact trivial
 rcases hb with⟨rfl,rfl⟩|⟨d,d',rfl,rfl,hd⟩;cases op<;>first|exact h.elim|exact trivial
 cases op;case sub=>exact KH (f:=λa b=>Op.addrSub .u64 a b) (f':=λa b=>Op.addrSub .u64 a b) hc hd λ_ _ _ _ h1 h2=>Re hG h1 h2
 case lss=>exact KH (f:=λa b=>Op.addrCmp .lss a b) (f':=λa b=>Op.addrCmp .lss a b) hc hd λ_ _ _ _ h1 h2=>Re hG h1 h2
 case geq=>exact KH (f:=λa b=>Op.addrCmp .geq a b) (f':=λa b=>Op.addrCmp .geq a b) hc hd λ_ _ _ _ h1 h2=>Re hG h1 h2
 all_goals first|exact h.elim|exact trivial
def abm op(h:Ap op) t(hG:P.globals.size<=E.G){x x' y y'}(hx:V E X x x')(hy:V E X y y'):RG P E (λX' v v'=>V E X' v v') X (binOp op t x y) (binOp op t x' y'):=by
 have ig:∀k n s,∃z,kP z/\binOp op t (.int k n) (.string s)=.halt z:=λk n s=>by cases op<;>first|exact h.elim|(refine⟨_,?_,rfl⟩;exact trivial)
 have hts:∀k n s,∃z,kP z/\binOp op t (.string s) (.int k n)=.halt z:=λk n s=>by cases op<;>first|exact h.elim|(refine⟨_,?_,rfl⟩;exact trivial)
 have xy:∀a s,∃z,kP z/\binOp op t (.string s) (.pointer a)=.halt z:=λa s=>by cases a<;>cases op<;>first|exact h.elim|(refine⟨_,?_,rfl⟩;exact trivial)
 have hsp:∀a s,∃z,kP z/\binOp op t (.pointer a) (.string s)=.halt z:=λa s=>by cases a<;>cases op<;>first|exact h.elim|(refine⟨_,?_,rfl⟩;exact trivial)
 have hss:∀a b,binOp op t (.string a) (.string b)=Op.stringOp op a b:=λa b=>by cases op<;>first|exact h.elim|rfl
 by_cases hn:YQ x=true/\YQ y=true;obtain⟨h1,h2⟩:=hn;have hAO:∀ {v v'},V E X v v'->∀a,v=.pointer a->∃a',v'=.pointer a'/\AO E X a a':=by
  intro v v' hv a e;cases hv with
  |ptrN=>cases e;exact⟨_,rfl,.inl ⟨rfl,rfl⟩⟩
  |ptr r b o s h=>cases e;exact⟨_,rfl,.inr ⟨_,_,rfl,rfl,h,rfl,rfl⟩⟩
  |_=>cases e
 cases hx with
 |int k n=>cases hy with|int j m=>exact zq (Rh op h t k j n m) λ_ _ h=>h|string s=>exact rM (ig _ _ _)|ptrN=>exact zm op h t (.inl ⟨rfl,rfl⟩) k n|ptr r b o s hr=>exact zm op h t (ao hr) k n|_=>cases h2
 |string s=>cases hy with|int j m=>exact rM (hts _ _ _)|string s2=>rw[hss];exact zq (Ns op s s2) λ_ _ h=>h|ptrN=>exact rM (xy _ _)|ptr r b o s hr=>exact rM (xy _ _)|_=>cases h2
 |ptrN=>cases hy with|int j m=>exact zl op h t (.inl ⟨rfl,rfl⟩) j m|string s=>exact rM (hsp _ _)|ptrN=>exact qd op h t hG (.inl ⟨rfl,rfl⟩) (.inl ⟨rfl,rfl⟩)|ptr r b o s hr=>exact qd op h t hG (.inl ⟨rfl,rfl⟩) (ao hr)|_=>cases h2
 |ptr r b o s hr=>cases hy with|int j m=>exact zl op h t (ao hr) j m|string s=>exact rM (hsp _ _)|ptrN=>exact qd op h t hG (ao hr) (.inl ⟨rfl,rfl⟩)|ptr r b o s qX=>exact qd op h t hG (ao hr) (ao qX)|_=>cases h2
 |_=>cases h1
 cases Ax:YQ x with|false=>exact rM (ad9 op h t x y Ax)|true=>cases hny:YQ y with|false=>exact rM (ad8 op h t x y hny)|true=>exact absurd ⟨Ax,hny⟩ hn
end
end Rn
