import Derived.Test.YtlpcjiollnnmgabGreatDoorM08
set_option maxRecDepth 100000
set_option maxHeartbeats 8000000
set_option linter.all false
namespace Go.Proofs.YtlpcjiollnnmgabGreatDoor
open Go.Proofs.Tryz
def t0101{p:Prop}(h:p:=by
 go_step;go_frame;go_step
 (go_meet;case rel=>exact⟨(hf.aol _).drew,(hb.setCell ν _).drew⟩)):p:=h
def t0100{p:Prop}(h:p:=by
 go_step;go_frame;go_step
 (go_meet;case rel=>exact⟨(hf.abc _).drew,(hb.setCell ν _).drew⟩)):p:=h
section
open Go.RowKit iz
def akt:prog.follows .mixedOrders=true:=κ
def arA(k:Nat)(h:k<64):U (UInt64.ofNat k&&&lO 63)=(k:Int):=by unfold U;rw[UInt64.toNat_and,aT,show(lO 63).toNat=63 % 2^64 from rfl];have:k % 2^64=k:=bp ω;rw[this,show 63 % 2^64=2^6-1 by decide,Nat.and_two_pow_sub_one_eq_mod];congr 1;omega
def Ra x(k:Nat)(hk:k<64) w:Calls prog 110 #[.int .u64 (U x),.int .i64 k] w λe w'=>e=.returned (.int .u64 (U (rotl x k)))/\w=w':=by
 have h1:(k:Int)<=64:=ω;have h2:=arA k hk;go_enter func110,ntmps110;go_wp2;go_ret;have h3:(U (lO (64-(k:Int)))).toNat=64-k:=by rw[rk];omega
 exact⟨by show Ending.returned (.int .u64 (U (shl x k ||| shr x (U (lO (64-(k:Int)))).toNat)))=_;rw[h3];rfl,rfl⟩
def SI x(k:Nat)(hk:k<64) w:Calls prog 160 #[.int .u64 (U x),.int .i64 k] w λe w'=>e=.returned (.int .u64 (U (rotl x k)))/\∃n,w'=w.drewN n:=by
 have h1:(k:Int)<=64:=ω;go_enter func160,ntmps160;go_wp2;go_quiet (fail)
 go_wp2;go_ret;exact⟨rfl,_,rfl⟩
def lZ s(hs:s.length<=9223372036854775807) w:Calls prog 150 #[.string (str s)] w λe w'=>e=.returned (.int .u64 (U (iE.le s)))/\w=w':=by
 have h0:=η (show iE.le (s.drop s.length)=lO 0 by rw[eR];rfl);go_enter func150,ntmps150;go_wp2;go_loop [3,4] (λn i=>∃k:Nat,k<=s.length/\i=.int .i64 ((k:Int) - 1)/\n=.int .u64 (U (iE.le (s.drop k)))) (λ_ i=>(intOf i+1).toNat)
 ·exact⟨s.length,by omega,by go_num,by rw[h0.o];rfl⟩
 obtain⟨k,hk,rfl,rfl⟩:=hrel;by_cases h:0<k
 ·have hd:=η (iE.agK s (k-1) ω);go_wp2;go_round
  ·exact⟨k-1,by omega,by go_num,by rw[hd.o,show k-1+1=k by omega]⟩
  simp[intOf];omega
 go_wp2;go_ret;have:k=0:=ω;subst this;exact⟨rfl,rfl⟩
def yn s(hs:8<=s.length)(hs':s.length<=9223372036854775807) w:Calls prog 75 #[.string (str s)] w λe w'=>e=.returned (.int .u64 (U (iE.le (s.take 8))))/\w=w':=by
 go_enter func75,ntmps75;go_wp2;go_loop [3,5] (λn i=>∃k:Nat,k<=8/\i=.int .i64 k/\n=.int .u64 (U (iE.le (s.take k)))) (λ_ i=>8-(intOf i).toNat);exact⟨0,by omega,rfl,rfl⟩;obtain⟨k,hk,rfl,rfl⟩:=hrel;by_cases h:k<8
 ·have hd:=η (iE.zI s k ω h);have h8:0<=8*(k:Int):=ω;go_wp2;go_round
  ·exact⟨k+1,by omega,by go_num,by rw[hd.o]⟩
  simp[intOf];omega
 go_wp2;go_ret;have:k=8:=ω;subst this;exact⟨rfl,rfl⟩
def ach x k(h0:0<=k)(h1:k<64) w:Calls prog 160 #[.int .u64 (U x),.int .i64 k] w λe w'=>e=.returned (.int .u64 (U (rotl x k.toNat)))/\∃n,w'=w.drewN n:=by obtain⟨n,rfl⟩:=dB h0;exact SI x n ω w
def EZ x k(h0:0<=k)(h1:k<64) w:Calls prog 110 #[.int .u64 (U x),.int .i64 k] w λe w'=>e=.returned (.int .u64 (U (rotl x k.toNat)))/\w=w':=by obtain⟨n,rfl⟩:=dB h0;exact Ra x n ω w
def lN(w:World)(b:Nat)(A B C D:UInt64):Prop:=∃T,w.heap[b]? =some (.cells #[.int .u64 (U A),.int .u64 (U B),.int .u64 (U C),.int .u64 (U D)] T)
def lN.all{w b A B C D}(h:lN w b A B C D):(w.cell? ⟨b,0,none⟩=some (.int .u64 (U A))/\w.cell? ⟨b,1,none⟩=some (.int .u64 (U B))/\w.cell? ⟨b,2,none⟩=some (.int .u64 (U C))/\w.cell? ⟨b,3,none⟩=some (.int .u64 (U D)))/\w.frozen? ⟨b,0,none⟩=false/\w.frozen? ⟨b,1,none⟩=false/\w.frozen? ⟨b,2,none⟩=false/\w.frozen? ⟨b,3,none⟩=false:=by obtain⟨T,h⟩:=h;simp[World.cell?,World.frozen?,h]
section
variable{w:World}{b:Nat}{A B C D:UInt64}(h:lN w b A B C D)(x:UInt64)
include h
def lN.Yb:lN (w.setCell ⟨b,0,none⟩ (.int .u64 (U x))) b x B C D:=by exact t029
def lN.aol:lN (w.setCell ⟨b,1,none⟩ (.int .u64 (U x))) b A x C D:=by exact t029
def lN.abd:lN (w.setCell ⟨b,2,none⟩ (.int .u64 (U x))) b A B x D:=by exact t029
def lN.abc:lN (w.setCell ⟨b,3,none⟩ (.int .u64 (U x))) b A B C x:=by exact t029
def lN.drew:lN w.drew b A B C D:=h
end
def Dm b s(n:Nat)(hn:n<=100) w(h:lN w b s.a s.b s.c s.d):Calls prog 151 #[.slice (some ⟨b,0,none⟩) 4 4,.int .i64 n] w λe w'=>e=.returned (.slice (some ⟨w.heap.size,0,none⟩) 4 4)/\lN w' w.heap.size (iE.rounds n s).a (iE.rounds n s).b (iE.rounds n s).c (iE.rounds n s).d/\Below w.heap.size w w':=by
 obtain⟨⟨c0,c1,c2,c3⟩,_⟩:=h.all;clear h;go_enter func151,ntmps151;go_wp2;clear c0 c1 c2 c3;go_loopw [1,5,6,7,8] (λi a b c d wr=>∃k m:Nat,k<=n/\i=.int .i64 ((n:Int) - k)/\a=.int .u64 (U (iE.rounds k s).a)/\b=.int .u64 (U (iE.rounds k s).b)/\c=.int .u64 (U (iE.rounds k s).c)/\d=.int .u64 (U (iE.rounds k s).d)/\wr=w.drewN m) (λi _ _ _ _ _=>(intOf i).toNat)
 ·exact⟨0,0,by omega,by go_num,rfl,rfl,rfl,rfl,rfl⟩
 obtain⟨k,m,hk,rfl,rfl,rfl,rfl,rfl,rfl⟩:=hrel;by_cases gV:k<n
 ·go_wp2_with (go_at_call 160;refine(ach _ _ ω ω _).mono ?_;rintro e w' ⟨rfl,m',rfl⟩)
  go_roundw
  ·exact⟨k+1,_,by omega,by go_num,rfl,rfl,rfl,rfl,rfl⟩
  simp[intOf];omega
 go_wp2;go_ret;obtain rfl:k=n:=ω;refine⟨rfl,?_,(fE (Below.refl _ w) m).alloc ν _⟩;refine⟨26,?_⟩;show((w.drewN m).heap.push _)[w.heap.size]? =_;rw[show w.heap.size=(w.drewN m).heap.size from rfl,dw]
def EV ev o w(hc:∀v,ev (.const v)=v){b i x}(p:o.op=.indexAddr 174 x (.const (.int .i64 i)))(h:ev x=.pointer (some ⟨b,0,none⟩))(hi:i<4):(execOp ev o).run prog w=.ok (.value (.pointer (some ⟨b,i,none⟩))) w:=by
 have Qn:(i:Int)<4:=ω;have kV:(0:Int)<=i:=ω;have aqB:∀n:Nat,Addr.add ⟨b,0,none⟩ n=⟨b,n,none⟩:=λn=>by rw[fJ,aC]
 simp[execOp,p,h,hc,go_sem,↓IntWalk.iteOmega]
def EU ev o w{p ad x}(hp:o.op=.load 26 p)(h:ev p=.pointer (some ad))(cx:w.cell? ad=some (.int .u64 (U x))):(execOp ev o).run prog w=.ok (.value (.int .u64 (U x))) w:=by simp[execOp,hp,h,go_sem,cx]
def af7 ev o w(hc:∀v,ev (.const v)=v){x k v ts}(hp:o.op=.call {callee:=.value (.func 110),args:=#[x,.const (.int .i64 k)],argTypes:=ts})(h:ev x=v)(hf:ev (.func 110)=.func (.func 110) #[] #[]):(execOp ev o).run prog w=.ok (.enter 110 #[v,.int .i64 k]) w:=by simp[execOp,hp,h,hc,hf,go_sem]
def Ye ev o w{p q x y t}(hp:o.op=.binOp .xor 26 p q t)(h:ev p=.int .u64 (U x))(h':ev q=.int .u64 (U y)):(execOp ev o).run prog w=.ok (.value (.int .u64 (U (x ^^^ y)))) w:=by simp[execOp,hp,h,h',go_sem]
def M7 ev o w{p q ad x u}(hp:o.op=.store 26 p q)(h:ev p=.pointer (some ad))(h':ev q=.int .u64 (U x))(cx:w.cell? ad=some u)(fz:w.frozen? ad=false):(execOp ev o).run prog w=.ok .skip (w.setCell ad (.int .u64 (U x))):=by simp[execOp,hp,h,h',go_sem,cx,fz]
def tT{id:Nat}{o0 o1 o2 o3 o4 o5 o6 o7:Oper}{Q:Exit->Act->World->Prop}{a:Act}{w:World}(b i j s:Nat)(k:Int)(x y:UInt64) (e0:o0.op=.indexAddr 174 (.tmp 1) (.const (.int .i64 i))/\o0.dst=some s/\o0.guard=none) (e1:o1.op=.load 26 (.tmp s)/\o1.dst=some (s+1)/\o1.guard=none) (e2:o2.op=.call {callee:=.value (.func 110),args:=#[.tmp (s+1),.const (.int .i64 k)],argTypes:=#[26,3]}/\o2.dst=some (s+2)/\o2.guard=none) (e3:o3.op=.indexAddr 174 (.tmp 1) (.const (.int .i64 j))/\o3.dst=some (s+3)/\o3.guard=none) (e4:o4.op=.load 26 (.tmp (s+3))/\o4.dst=some (s+4)/\o4.guard=none) (e5:o5.op=.binOp .xor 26 (.tmp (s+2)) (.tmp (s+4)) 26/\o5.dst=some (s+5)/\o5.guard=none) (e6:o6.op=.indexAddr 174 (.tmp 1) (.const (.int .i64 i))/\o6.dst=some (s+6)/\o6.guard=none) (e7:o7.op=.store 26 (.tmp (s+6)) (.tmp (s+5))/\o7.dst=none/\o7.guard=none) (hB:Region.lexTailB .any [o0,o1,o2,o3,o4,o5,o6,o7].toArray 7=true) (ha:a.eval (.tmp 1)=.pointer (some ⟨b,0,none⟩)) (hs:1<s) (pL:s+7<=a.tmps.size) (hi:i<4) (hj:j<4) (hk:0<=k/\k<64) (cx:w.cell? ⟨b,i,none⟩=some (.int .u64 (U x))) (cy:w.cell? ⟨b,j,none⟩=some (.int .u64 (U y))) (fz:w.frozen? ⟨b,i,none⟩=false) (h:Q .normal (((((((a.put (some s) (.pointer (some ⟨b,i,none⟩))).put (some (s+1)) (.int .u64 (U x))).put (some (s+2)) (.int .u64 (U (rotl x k.toNat)))).put (some (s+3)) (.pointer (some ⟨b,j,none⟩))).put (some (s+4)) (.int .u64 (U y))).put (some (s+5)) (.int .u64 (U (rotl x k.toNat ^^^ y)))).put (some (s+6)) (.pointer (some ⟨b,i,none⟩))) (w.setCell ⟨b,i,none⟩ (.int .u64 (U (rotl x k.toNat ^^^ y)))).drew):(Code.region id [o0,o1,o2,o3,o4,o5,o6,o7].toArray true).wp prog Q a w:=by
 obtain⟨p0,q0,g0⟩:=e0;obtain⟨p1,q1,g1⟩:=e1;obtain⟨p2,q2,g2⟩:=e2;obtain⟨p3,q3,g3⟩:=e3;obtain⟨p4,q4,g4⟩:=e4;obtain⟨p5,q5,g5⟩:=e5;obtain⟨p6,q6,g6⟩:=e6;obtain⟨p7,q7,g7⟩:=e7;have kC:∀(a:Act) v,a.eval (.const v)=v:=λ_ _=>rfl;have Lh:∀n,s<=n->(n:Nat)≠1:=λn h=>by omega
 refine Cv 7 akt hB ?_;simp only[aW,bH,bg,bB];refine qz g0 (EV _ _ _ (kC _) p0 ha hi) ?_;rw[q0];refine qz g1 (EU _ _ _ p1 (om _ _ _ ω) cx) ?_;rw[q1];refine MP g2 (af7 _ _ _ (kC _) p2 (om _ _ _ (by rw[qO];omega)) rfl) ((EZ x k hk.1 hk.2 _).mono λ_ _ h=>⟨h.1,h.2.symm⟩) ?_;rw[q2];refine qz g3 (EV _ _ _ (kC _) p3 (by rw[oS _ _ _ _ (Lh _ ω),oS _ _ _ _ (Lh _ ω),oS _ _ _ _ (Lh _ ω)];exact ha) hj) ?_;rw[q3];refine qz g4 (EU _ _ _ p4 (om _ _ _ aHg) cy) ?_;rw[q4];refine qz g5 (Ye _ _ _ p5 (by rw[oS _ _ _ _ (by show(_:Nat)≠_;omega),oS _ _ _ _ (by show(_:Nat)≠_;omega),om _ _ _ aHg]) (om _ _ _ aHg)) ?_;rw[q5];refine qz g6 (EV _ _ _ (kC _) p6 (by rw[oS _ _ _ _ (Lh _ ω),oS _ _ _ _ (Lh _ ω),oS _ _ _ _ (Lh _ ω),oS _ _ _ _ (Lh _ ω),oS _ _ _ _ (Lh _ ω),oS _ _ _ _ (Lh _ ω)];exact ha) hi) ?_;rw[q6];refine wpStill_nil ?_;refine JL g7 (M7 _ _ _ p7 (om _ _ _ aHg) (by rw[oS _ _ _ _ (by show(_:Nat)≠_;omega),om _ _ _ aHg]) cx fz) ?_;rw[q7];have e:∀(a:Act) v,a.put none v=a:=λ_ _=>rfl;rw[e];exact wpList_nil h
def Nc b s(n:Nat)(hn:n<=100) w(h:lN w b s.a s.b s.c s.d):Calls prog 109 #[.int .i64 n,.pointer (some ⟨b,0,none⟩)] w λe w'=>e=.returned (.tuple #[])/\lN w' b (iE.rounds n s).a (iE.rounds n s).b (iE.rounds n s).c (iE.rounds n s).d/\Below b w w':=by
 go_enter func109,ntmps109;go_wp2;go_loopw [4] (λi wr=>∃k:Nat,k<=n/\i=.int .i64 k/\lN wr b (iE.rounds k s).a (iE.rounds k s).b (iE.rounds k s).c (iE.rounds k s).d/\Below b w wr) (λi _=>n-(intOf i).toNat);exact⟨0,by omega,rfl,h,Below.refl _ _⟩;obtain⟨k,hk,rfl,hf,hb⟩:=hrel;have ig:∃st,st=iE.rounds k s:=⟨_,rfl⟩;obtain⟨⟨A,B,C,D⟩,ig⟩:=ig;rw[<-ig]at hf;replace hf:lN wr b A B C D:=hf;have hs:=η (show iE.rounds (k+1) s=iE.round ⟨A,B,C,D⟩by rw[ig];rfl);have auN:=η ig;clear ig h;by_cases gV:k<n
 ·obtain⟨⟨c0,c1,c2,c3⟩,f0,f1,f2,f3⟩:=hf.all;go_wp2_with fail;generalize hx:A+B=xa1;have auA:=η hx;clear hx;generalize hx:C+D=xc1;have auu:=η hx;clear hx;replace hf:=(hf.Yb xa1).abd xc1;replace hb:=((hb).setCell (p:=⟨b,0,none⟩) ν (.int .u64 (U xa1))).setCell (p:=⟨b,2,none⟩) ν (.int .u64 (U xc1));clear c0 c1 c2 c3 f0 f1 f2 f3;generalize(wr.setCell _ _).setCell _ _=wg1 at hf hb|-;obtain⟨⟨c0,c1,c2,c3⟩,f0,f1,f2,f3⟩:=hf.all;go_cut [] (λwc=>lN wc b xa1 (rotl B 13 ^^^ xa1) xc1 D/\Below b w wc)
  case first=>refine tT b 1 0 18 13 B xa1 ⟨rfl,rfl,rfl⟩ ⟨rfl,rfl,rfl⟩ ⟨rfl,rfl,rfl⟩ ⟨rfl,rfl,rfl⟩ ⟨rfl,rfl,rfl⟩ ⟨rfl,rfl,rfl⟩ ⟨rfl,rfl,rfl⟩ ⟨rfl,rfl,rfl⟩ ξ rfl ψ ζ ψ ψ ψ c1 c0 f1 ?_;exact t0101
  case rest=>
  clear hf hb c0 c1 c2 c3 f0 f1 f2 f3;obtain⟨hf,hb⟩:=hcut;generalize hx:rotl B 13 ^^^ xa1=xb1 at hf;have auw:=η hx;clear hx;obtain⟨⟨c0,c1,c2,c3⟩,f0,f1,f2,f3⟩:=hf.all;go_wp2_with fail;go_cut [] (λwc=>lN wc b xa1 xb1 xc1 (rotl D 16 ^^^ xc1)/\Below b w wc)
  case first=>refine tT b 3 2 25 16 D xc1 ⟨rfl,rfl,rfl⟩ ⟨rfl,rfl,rfl⟩ ⟨rfl,rfl,rfl⟩ ⟨rfl,rfl,rfl⟩ ⟨rfl,rfl,rfl⟩ ⟨rfl,rfl,rfl⟩ ⟨rfl,rfl,rfl⟩ ⟨rfl,rfl,rfl⟩ ξ rfl ψ ζ ψ ψ ψ c3 c2 f3 ?_;exact t0100
  case rest=>
  clear hf hb c0 c1 c2 c3 f0 f1 f2 f3;obtain⟨hf,hb⟩:=hcut;generalize hx:rotl D 16 ^^^ xc1=xd1 at hf;have aus:=η hx;clear hx;obtain⟨⟨c0,c1,c2,c3⟩,f0,f1,f2,f3⟩:=hf.all;go_wp2_with fail;refine(EZ _ _ ω ω _).mono ?_;rintro e w'⟨rfl,rfl⟩;go_wp2_with fail;generalize hx:rotl xa1 32=xa2;have auz:=η hx;clear hx;generalize hx:xc1+xb1=xc2;have aut:=η hx;clear hx;generalize hx:xa2+xd1=xa3;have auy:=η hx;clear hx;replace hf:=((hf.Yb xa2).abd xc2).Yb xa3;replace hb:=(((hb).setCell (p:=⟨b,0,none⟩) ν (.int .u64 (U xa2))).setCell (p:=⟨b,2,none⟩) ν (.int .u64 (U xc2))).setCell (p:=⟨b,0,none⟩) ν (.int .u64 (U xa3));clear c0 c1 c2 c3 f0 f1 f2 f3;generalize((wc.setCell _ _).setCell _ _).setCell _ _=wg2 at hf hb|-;obtain⟨⟨c0,c1,c2,c3⟩,f0,f1,f2,f3⟩:=hf.all;go_cut [] (λwc=>lN wc b xa3 (rotl xb1 17 ^^^ xc2) xc2 xd1/\Below b w wc)
  case first=>refine tT b 1 2 48 17 xb1 xc2 ⟨rfl,rfl,rfl⟩ ⟨rfl,rfl,rfl⟩ ⟨rfl,rfl,rfl⟩ ⟨rfl,rfl,rfl⟩ ⟨rfl,rfl,rfl⟩ ⟨rfl,rfl,rfl⟩ ⟨rfl,rfl,rfl⟩ ⟨rfl,rfl,rfl⟩ ξ rfl ψ ζ ψ ψ ψ c1 c2 f1 ?_;exact t0101
  case rest=>
  clear hf hb c0 c1 c2 c3 f0 f1 f2 f3;obtain⟨hf,hb⟩:=hcut;generalize hx:rotl xb1 17 ^^^ xc2=xb2 at hf;have auv:=η hx;clear hx;obtain⟨⟨c0,c1,c2,c3⟩,f0,f1,f2,f3⟩:=hf.all;go_wp2_with fail;go_cut [] (λwc=>lN wc b xa3 xb2 xc2 (rotl xd1 21 ^^^ xa3)/\Below b w wc)
  case first=>refine tT b 3 0 55 21 xd1 xa3 ⟨rfl,rfl,rfl⟩ ⟨rfl,rfl,rfl⟩ ⟨rfl,rfl,rfl⟩ ⟨rfl,rfl,rfl⟩ ⟨rfl,rfl,rfl⟩ ⟨rfl,rfl,rfl⟩ ⟨rfl,rfl,rfl⟩ ⟨rfl,rfl,rfl⟩ ξ rfl ψ ζ ψ ψ ψ c3 c0 f3 ?_;exact t0100
  case rest=>
  clear hf hb c0 c1 c2 c3 f0 f1 f2 f3;obtain⟨hf,hb⟩:=hcut;generalize hx:rotl xd1 21 ^^^ xa3=xd2 at hf;have aur:=η hx;clear hx;obtain⟨⟨c0,c1,c2,c3⟩,f0,f1,f2,f3⟩:=hf.all;go_wp2_with fail;refine(EZ _ _ ω ω _).mono ?_;rintro e w'⟨rfl,rfl⟩;go_wp2_with fail;go_roundw
  ·exact⟨k+1,by omega,by go_num,by rw[hs.o,iE.round_eq auA.o auu.o auw.o aus.o auz.o aut.o auy.o auv.o aur.o];exact hf.abd _,hb.setCell ν _⟩
  simp[intOf];omega
 go_wp2;go_end0;obtain rfl:k=n:=ω;exact⟨rfl,by rw[<-auN.o];exact hf,hb⟩
def AY b{A B C D} n(h0:0<=n)(hn:n<=100) w(h:lN w b A B C D):Calls prog 109 #[.int .i64 n,.pointer (some ⟨b,0,none⟩)] w λe w'=>e=.returned (.tuple #[])/\lN w' b (iE.rounds n.toNat ⟨A,B,C,D⟩).a (iE.rounds n.toNat ⟨A,B,C,D⟩).b (iE.rounds n.toNat ⟨A,B,C,D⟩).c (iE.rounds n.toNat ⟨A,B,C,D⟩).d/\Below b w w':=by obtain⟨m,rfl⟩:=dB h0;exact Nc b ⟨A,B,C,D⟩ m ω w h
def xG b{A B C D} n(h0:0<=n)(hn:n<=100) w(h:lN w b A B C D):Calls prog 151 #[.slice (some ⟨b,0,none⟩) 4 4,.int .i64 n] w λe w'=>e=.returned (.slice (some ⟨w.heap.size,0,none⟩) 4 4)/\lN w' w.heap.size (iE.rounds n.toNat ⟨A,B,C,D⟩).a (iE.rounds n.toNat ⟨A,B,C,D⟩).b (iE.rounds n.toNat ⟨A,B,C,D⟩).c (iE.rounds n.toNat ⟨A,B,C,D⟩).d/\Below w.heap.size w w':=by obtain⟨m,rfl⟩:=dB h0;exact Dm b ⟨A,B,C,D⟩ m ω w h
end
section
open Go.RowKit iz
def il(ts:List (List UInt8)):List Value:=(ts.map gD).flatten
def mr ts t:il ts++gD t=il (ts++[t]):=by simp[il]
def El:(prog.info? 78).map (λi=>(i.zero,i.size,i.bytes))=some (some (.agg j1.toArray),33,48):=κ
def ju{w w' B S n e z v xs}(h:w.ownsRow B e z v n xs)(hb:iL w.heap.size S w w')(hS:S<B):w'.ownsRow B e z v n xs:=by refine⟨h.1,?_⟩;rcases h.2 with h|⟨g,cap,cur,rfl,h1,h2,h3⟩;exact .inl h;exact .inr ⟨g,cap,cur,rfl,h1,by rw[hb.block g (ae.1 h2).1 ω];exact h2,h3⟩
def kB{w:World}{B S n e z v xs}(h:w.ownsRow B e z v n xs) m(hS:S<B):(w.setRow S m).ownsRow B e z v n xs:=by refine⟨h.1,?_⟩;rcases h.2 with h|⟨g,cap,cur,rfl,h1,h2,h3⟩;exact .inl h;exact .inr ⟨g,cap,cur,rfl,h1,by rw[fI w S g m ω];exact h2,h3⟩
def iJ{w:World}{B n a e z v xs}(h:w.ownsRow B e z v n xs) u(hS:a.block<B):(w.setCell a u).ownsRow B e z v n xs:=by refine⟨h.1,?_⟩;rcases h.2 with h|⟨g,cap,cur,rfl,h1,h2,h3⟩;exact .inl h;exact .inr ⟨g,cap,cur,rfl,h1,by rw[ft _ _ _ _ (show g≠a.block by omega)];exact h2,h3⟩
def lC{w:World}{B C n e z v xs}(h:w.ownsRow B e z v n xs)(hC:C<=B):w.ownsRow C e z v n xs:=⟨h.1,h.2.imp id λ⟨g,cap,cur,h1,h2,h3⟩=>⟨g,cap,cur,h1,ak hC h2,h3⟩⟩
def pC{w:World}{B n e z v xs}(h:w.ownsRow B e z v n xs):v.oneCell'=true:=by rcases h.2 with⟨rfl,_⟩|⟨g,cap,cur,rfl,_⟩<;>rfl
namespace Wr
def R.map_map{α β γ}(x:R α) f(g:β->γ):(x.map f).map g=x.map (λa=>g (f a)):=by cases x<;>rfl
def R.map_id{α}(x:R α):x.map (λa=>a)=x:=by cases x<;>rfl
end Wr
def RPT(x:Wr.R (List (List UInt8)))(b:Nat)(w:World)(e:Ending)(w':World):Prop:=match x with
 |.ok ts r=>∃v,e=.returned v/\w'.ownsRow w.heap.size 78 33 v ts.length (il ts)/\Row w' b [.string (str r)]/\iL w.heap.size b w w'
 |.bad n=>e=.panicked (oF (n:Int))/\iL w.heap.size b w w'
def RPT.jn{x:Wr.R (List (List UInt8))}{b w w' n}(hx:x=.bad n)(h2:iL w.heap.size b w w'):RPT x b w (.panicked (oF (n:Int))) w':=by subst hx;exact⟨rfl,h2⟩
def RPT.vH{x b w w' ts r v}(hx:x=.ok ts r)(h1:w'.ownsRow w.heap.size 78 33 v ts.length (il ts))(h2:Row w' b [.string (str r)])(h3:iL w.heap.size b w w'):RPT x b w (.returned v) w':=by subst hx;exact⟨v,rfl,h1,h2,h3⟩
def EX w s a0 a1 a2 a3 a4 a5 a6 a7 a8 a9 Me Md a12 Mc Mb Ma L9 L7 L6 L5 a20 a21 LZ LY a24 LX LW LV a28 LU LS a31:(Instr.buildSlice 42 1 #[(0,.agg (.string s::w8 [a0,a1,a2,a3,a4,a5,a6,a7,a8,a9,Me,Md,a12,Mc,Mb,Ma,L9,L7,L6,L5,a20,a21,LZ,LY,a24,LX,LW,LV,a28,LU,LS,a31]).toArray)]).run prog w=.ok (.slice (some ⟨w.heap.size,0,none⟩) 1 1) (w.alloc (.cells (.string s::w8 [a0,a1,a2,a3,a4,a5,a6,a7,a8,a9,Me,Md,a12,Mc,Mb,Ma,L9,L7,L6,L5,a20,a21,LZ,LY,a24,LX,LW,LV,a28,LU,LS,a31]).toArray 78)):=κ
def Iq w s l(hl:l.length=32):(Instr.buildSlice 42 1 #[(0,.agg (.string s::w8 l).toArray)]).run prog w=.ok (.slice (some ⟨w.heap.size,0,none⟩) 1 1) (w.alloc (.cells (.string s::w8 l).toArray 78)):=
 match l,hl with
 |[a0,a1,a2,a3,a4,a5,a6,a7,a8,a9,Me,Md,a12,Mc,Mb,Ma,L9,L7,L6,L5,a20,a21,LZ,LY,a24,LX,LW,LV,a28,LU,LS,a31],_=>EX w s a0 a1 a2 a3 a4 a5 a6 a7 a8 a9 Me Md a12 Mc Mb Ma L9 L7 L6 L5 a20 a21 LZ LY a24 LX LW LV a28 LU LS a31
def Ku w t:(Instr.buildSlice 42 1 #[(0,Mi t)]).run prog w=.ok (.slice (some ⟨w.heap.size,0,none⟩) 1 1) (w.alloc (.cells (gD t).toArray 78)):=Iq w (str t) (Mk.gC t) (gP.kI _)
def qI{ops rest o a w Q}(pn:o.guard=none) x(ho:o.op=.buildSlice 42 1 #[(0,x)]) t (hx:a.eval x=Mi t) (h:wpList prog ops Q rest (a.put o.dst (.slice (some ⟨w.heap.size,0,none⟩) 1 1)) (w.alloc (.cells (gD t).toArray 78))):wpList prog ops Q (o::rest) a w:=by refine qV pn ?_ h;have:=Ku w t;unfold execOp;simp only[ho,bN,List.map_cons,bP,hx,fh,this,fi,fj]
def XP(b n:Nat) l w(hT:km w)(vR:1<b)(hr:Row w b [.string (str l)])(hl:l.length<=9223372036854775807)(hn:n<=1000):Calls prog 73 #[.pointer (some ⟨b,0,none⟩),.int .i64 n] w (RPT (Wr.jX n l) b w):=by
 obtain⟨i0,kV,mJ,mC,kS⟩:=fy El;have HI:=η kV;have hb:=hr.lt;have yM:=hT.lt;have HT:=η hT;have HR:=η hr;clear hT hr kV;go_enter func73,ntmps73;go_wp2_with fail;go_loopw [5,7] (λsv iv wr=>∃(i:Nat)(ts:List (List UInt8))(ri:List UInt8),i<=n/\iv=.int .i64 i/\ts.length=i/\wr.ownsRow w.heap.size 78 33 sv ts.length (il ts)/\Row wr b [.string (str ri)]/\iL w.heap.size b w wr/\ri.length<=l.length/\Wr.jX n l=(Wr.jX (n-i) ri).map (λus=>ts++us)) (λ_ iv _=>n-(intOf iv).toNat)
 exact⟨0,[],l,by omega,rfl,rfl,fc _ _ _ _,HR.o,iL.refl _ _ _,ν,by rw[eH];exact(Wr.R.map_id _).symm⟩;obtain⟨i,ts,ri,hi,rfl,Mn,iB,oH,hB,hle,hE⟩:=hrel;have A1:=η iB;have A2:=η hB;have ql:=hB.size;by_cases gV:i<n
 ·have p1:(i:Int)< (n:Int):=by omega
  have E1:=η (show Wr.jX n l=(((Wr.tx ri).bind λt r=>(Wr.jX (n-(i+1)) r).map λus=>t::us)).map (λus=>ts++us)by rw[hE,show n-i=(n-(i+1))+1 by omega];rfl);have T1:=η (EG b ri wr (hB.AL HT.o yM vR) vR oH ω);have hmx:ts.length<1000:=ω;have Lj:=η Mn;clear iB hB hE oH Mn;go_wp2_with fail;refine T1.o.mono ?_;clear T1;cases hx:Wr.tx ri with
  |bad k=>rintro e w2⟨rfl,h⟩;rw[hx]at E1;exact⟨rfl,RPT.jn E1.o (A2.o.trans (h.mono ql))⟩
  |ok t r2=>
  rintro e w2⟨rfl,h3,h4⟩;rw[hx]at E1;have E2:=η (show Wr.jX n l=(Wr.jX (n-(i+1)) r2).map (λus=>(ts++[t])++us)by rw[E1.o,Wr.R.jq,Wr.R.map_map];congr 1;funext us;simp);have ur:=ak ((Wr.Ef ri).le hx) hle;have B1:=η (ju A1.o h4 hb);have B2:=η (A2.o.trans (h4.mono ql));have R2:=η h3;have zP:=B2.o.size;have L1:=η (show∀(j:Nat)(u:Value),(gD t)[j]? =some u->(w2.alloc (.cells (gD t).toArray 78)).cell? (Addr.add ⟨w2.heap.size,0,none⟩ j)=some u from λj u hu=>by rw[fJ,aC,(Row.new w2 _ _).cell];exact hu);clear h3 h4 A1 A2 E1 hx;go_wp2_with (first|(refine qI (o:=⟨some 12,_,_,_,_,_⟩) rfl _ rfl t rfl ?_)|(at_builtin;refine wpList_append_own _ rfl _ _ 42 rfl w.heap.size 78 i0 (.agg j1.toArray) 33 48 fT HI.o mJ mC kS aIO ψ _ _ _ rfl (B1.o.alloc _) ⟨w2.heap.size,0,none⟩ 1 1 (gD t) rfl aGK L1.o (λu hu=>List.all_eq_true.1 (iV t) u hu) ι ω χ ?_;intro XO w3 iM jF _));have mQ:Below w.heap.size w2 w3:=((Below.refl w.heap.size w2).alloc zP _).grown jF χ (λk hk=>(B1.o.lt k hk).1);have H1:=η iM;have H2:=η mQ;clear iM jF mQ L1;go_roundw
  ·exact⟨i+1,ts++[t],r2,by omega,by go_num,by rw[ai,Lj.o];rfl,by rw[ai,<-mr];exact H1.o,R2.o.below H2.o hb,B2.o.trans (iL.gL H2.o),ur,E2.o⟩
  simp[intOf];omega
 obtain rfl:i=n:=by omega
 go_wp2_with fail;go_ret;exact RPT.vH (r:=ri) (by rw[hE,bh];show Wr.R.ok (ts++[]) ri=_;rw[aO]) A1.o oH A2.o
def yo(is:List Nat):List Value:=is.map λ(i:Nat)=>.int .i64 (i:Int)
def yZ is i:yo is++[.int .i64 (i:Int)]=yo (is++[i]):=by simp[yo]
def zO:(prog.info? 3).map (λi=>(i.zero,i.size,i.bytes))=some (some (.int .i64 0),1,8):=κ
def tL:List Value:=[.string (str []),.slice none 0 0]
def pr(h:List UInt8)(v:Value):List Value:=[.string (str h),v]
def RPP{α:Type}(x:Wr.R α)(hd:α->List UInt8)(t:TypeId)(z:Nat)(n:α->Nat)(xs:α->List Value)(b:Nat)(w:World)(e:Ending)(w':World):Prop:=match x with
 |.ok a r=>∃v,e=.returned (.agg (pr (hd a) v).toArray)/\w'.ownsRow w.heap.size t z v (n a) (xs a)/\Row w' b [.string (str r)]/\iL w.heap.size b w w'
 |.bad k=>e=.panicked (oF (k:Int))/\iL w.heap.size b w w'
def RPP.jn{α}{x:Wr.R α}{hd t z n xs b w w' k}(hx:x=.bad k)(h2:iL w.heap.size b w w'):RPP x hd t z n xs b w (.panicked (oF (k:Int))) w':=by subst hx;exact⟨rfl,h2⟩
def RPP.vH{α}{x:Wr.R α}{hd t z n xs b w w' a r v}(hx:x=.ok a r)(h1:w'.ownsRow w.heap.size t z v (n a) (xs a))(h2:Row w' b [.string (str r)])(h3:iL w.heap.size b w w'):RPP x hd t z n xs b w (.returned (.agg (pr (hd a) v).toArray)) w':=by subst hx;exact⟨v,rfl,h1,h2,h3⟩
def RDP{α:Type}(x:Wr.R α)(hd:α->List UInt8)(t:TypeId)(z:Nat)(n:α->Nat)(xs:α->List Value)(w:World)(e:Ending)(w':World):Prop:=match x with
 |.ok a _=>∃v,e=.returned (.tuple #[.agg (pr (hd a) v).toArray,.int .i64 0])/\w'.ownsRow w.heap.size t z v (n a) (xs a)/\Below w.heap.size w w'
 |.bad k=>e=.returned (.tuple #[.agg tL.toArray,.int .i64 k])/\Below w.heap.size w w'
def RDP.jn{α}{x:Wr.R α}{hd t z n xs w w' k}(hx:x=.bad k)(h2:Below w.heap.size w w'):RDP x hd t z n xs w (.returned (.tuple #[.agg tL.toArray,.int .i64 k])) w':=by subst hx;exact⟨rfl,h2⟩
def RDP.vH{α}{x:Wr.R α}{hd t z n xs w w' a r v}(hx:x=.ok a r)(h1:w'.ownsRow w.heap.size t z v (n a) (xs a))(h3:Below w.heap.size w w'):RDP x hd t z n xs w (.returned (.tuple #[.agg (pr (hd a) v).toArray,.int .i64 0])) w':=by subst hx;exact⟨v,rfl,h1,h3⟩
structure PI(w:World)(b:Nat)(n:Nat)(lk:List UInt8)(wk:World):Prop where
 cur:Row wk b [.string (str lk)]
 own:Row wk w.heap.size tL
 but:iL w.heap.size b w wk
 le:lk.length<=n
def PI.step{w b n lk SD wk u9}(h:PI w b n lk wk)(hb:b<w.heap.size)(h1:Row u9 b [.string (str SD)])(h2:iL wk.heap.size b wk u9)(hl:SD.length<=lk.length):PI w b n SD u9:=⟨h1,h2.row h.own h.own.lt ω,h.but.trans (h2.mono h.but.size),ak hl h.le⟩
def PI.bad{w b n lk wk u9}(h:PI w b n lk wk)(h2:iL wk.heap.size b wk u9):iL w.heap.size b w u9:=h.but.trans (h2.mono h.but.size)
def gZ{w:World}{B n e z v xs}(h:w.ownsRow B e z v n xs):∃a c,v=.slice a n c:=by rcases h.2 with⟨rfl,rfl⟩|⟨g,cap,cur,rfl,_⟩;exact⟨none,0,rfl⟩;exact⟨_,cap,rfl⟩
namespace Wr
def Yh(l:List UInt8):R (List UInt8×List (List UInt8)):=(take 32 l).bind λh r=>(kK 1 16 r).bind λn r=>(jX n r).map λts=>(h,ts)
end Wr
def Gs:(prog.info? 83).map (·.size)=some 2:=κ
def Fw{v} h(hv:v.oneCell'=true):(pr h v).all (·.oneCell')=true:=by unfold pr;rw[bV,bV,hv];rfl
def PT s a n c:prog.built 109 [(0,.string s),(1,.slice a n c)]=some #[.string s,.slice a n c]:=κ
def jL:(prog.info? 109).map (·.size)=some 2:=κ
def PV{ops rest o a w Q}(pn:o.guard=none) x y(ho:o.op=.build 109 #[(0,x),(1,y)]) s v (hv:∃a n c,v=.slice a n c) (hx:a.eval x=.string (str s)) (hy:a.eval y=v) (h:wpList prog ops Q rest (a.put o.dst (.agg (pr s v).toArray)) w):wpList prog ops Q (o::rest) a w:=by obtain⟨ad,n,c,rfl⟩:=hv;refine wpList_buildTo pn 109 _ ho _ rfl _ ?_ h;simp only[bN,List.map_cons,bP,hx,hy];exact PT (str s) ad n c
def Mh b l w(hT:km w)(vR:1<b)(hr:Row w b [.string (str l)])(hl:l.length<=9223372036854775807):Calls prog 96 #[.pointer (some ⟨b,0,none⟩)] w (RPP (Wr.Yh l) (λa=>a.1) 78 33 (λa=>a.2.length) (λa=>il a.2) b w):=by
 have hb:=hr.lt;have yM:=hT.lt;have hk:=And.intro vR hl;clear hk;have I0:PI w b l.length l (w.alloc (.cells tL.toArray 109)):=⟨hr.alloc _,Row.new w _ _,(iL.refl _ _ _).alloc ν _,ν⟩;rw[show tL.toArray=#[Value.string (str []),.slice none 0 0]from rfl]at I0;have HT:=η hT;have EQ:=η (show Wr.Yh l=(Wr.take 32 l).bind λh r=>(Wr.kK 1 16 r).bind λn r=>(Wr.jX n r).map λts=>(h,ts)from rfl);clear hr hT;go_enter func96,ntmps96;go_upto_region 1 with fail;generalize w.alloc _=w1 at I0|-;have T1:=η (jr b 32 l w1 I0.cur ω);have J:=η I0;clear I0;go_wp2_with fail;refine T1.o.mono ?_;clear T1;cases hx:Wr.take 32 l with
 |bad n=>rintro e w2⟨rfl,h⟩;rw[hx]at EQ;exact⟨rfl,RPP.jn EQ.o (J.o.bad h)⟩
 |ok t1 r1=>
 rintro e w2⟨rfl,h3,h4⟩;rw[hx]at EQ;have nE:=η (show Wr.Yh l=(Wr.kK 1 16 r1).bind λn r=>(Wr.jX n r).map λts=>(t1,ts)from EQ.o);have J2:=η (J.o.step hb h3 h4 ((Wr.jc 32 l).le hx));have T2:=η (oR b 1 16 r1 w2 h3 ω ω);clear h3 h4 J EQ hx;go_wp2_with fail;refine T2.o.mono ?_;clear T2;cases hx:Wr.kK 1 16 r1 with
 |bad n=>rintro e w3⟨rfl,h⟩;rw[hx]at nE;exact⟨rfl,RPP.jn nE.o (J2.o.bad h)⟩
 |ok n r2=>
 rintro e w3⟨rfl,h3,h4⟩;rw[hx]at nE;have hn:=(Wr.nA hx).2;have Um:=η (show Wr.Yh l=(Wr.jX n r2).map λts=>(t1,ts)from nE.o);have J3:=η (J2.o.step hb h3 h4 ((Wr.mq 1 16 r1).le hx));clear h3 h4 J2 nE hx;have T3:=η (XP b n r2 w3 (J3.o.but.AL HT.o yM vR) vR J3.o.cur (ak J3.o.le hl) ω);go_wp2_with fail;refine T3.o.mono ?_;clear T3;cases hx:Wr.jX n r2 with
 |bad k=>rintro e w4⟨rfl,h⟩;rw[hx]at Um;exact⟨rfl,RPP.jn Um.o (J3.o.bad h)⟩
 |ok ts r3=>rintro e w4⟨v,rfl,h2,h3,h4⟩;rw[hx]at Um;have J4:=η (J3.o.step hb h3 h4 ((Wr.MC n r2).le hx));have uW:=J4.o.own;have rn:=J3.o.but.size;have aBx:=J3.o.own.lt;have hv:=gZ h2;have JO:=pC h2;have O1:=η (kB (S:=w.heap.size) h2 (pr t1 v).toArray ω);clear h2 h3 h4 J3 hx;go_wp2_with (first|(refine PV (o:=⟨some 15,_,_,_,_,_⟩) rfl _ _ rfl t1 v (by obtain⟨a,c,h⟩:=hv;exact⟨a,_,c,h⟩) rfl rfl ?_)|(with_reducible refine gJ (o:=⟨none,_,_,_,_,_⟩) rfl _ _ _ rfl w.heap.size tL (pr t1 v) rfl rfl uW (jL.trans rfl) rfl (Fw t1 JO) ?_));obtain⟨T2,GH⟩:=uW.setRow (pr t1 v);exact bodyPost_ret (v:=.agg (pr t1 v).toArray) (fH (fn:=Tryz.f96) rfl _ _ w.heap.size T2 _ (0,0) _ rfl GH fL rfl (jL.trans rfl)) rfl (RPP.vH (a:=(t1,ts)) Um.o (lC O1.o rn) (J4.o.cur.gX ω _) (J4.o.but.trans (iL.gL (below_setRow (Below.refl _ _) ν _))))
def DV g h w:CallsD prog 122 #[.pointer (some ⟨g,0,none⟩),.pointer (some ⟨h,0,none⟩)] .returning w λe u' w'=>e=.returned (.tuple #[])/\u'=.returning/\w'=w:=by refine fX func122 rfl λPC cs hu=>?_;simp only[ntmps122,az,aq,bW,Nat.reduceAdd,Nat.reduceSub,bA,bJ,bZ,bR,aX,aU];apply wpS_seq;apply gq;simp[wpOpsS,go_sem,recoverD,hu,Exit.thenS];refine gy ?_;go_wp2_with fail;cases PC;simp_all[bodyPostS,results,results122]
def pG g h n m l w(hg:Row w g l)(hh:Row w h [.int .i64 m])(hl:l.length=2)(iZ:g≠h):CallsD prog 122 #[.pointer (some ⟨g,0,none⟩),.pointer (some ⟨h,0,none⟩)] (.panicking (oF n)) w λe u' w'=>e=.returned (.tuple #[])/\u'=.panicking [{v:=.iface 178 (.agg #[.int .i64 n]),recovered:=true}]/\Row w' g tL/\Row w' h [.int .i64 n]/\ik (λk=>k=g∨k=h) w w':=by
 refine fX func122 rfl λPC cs hu=>?_;simp only[ntmps122,az,aq,bW,Nat.reduceAdd,Nat.reduceSub,bA,bJ,bZ,bR,aX,aU];apply wpS_seq;apply gq;unfold oF at hu;have hta:=MN n;simp[wpOpsS,go_sem,recoverD,hu,Exit.thenS];refine gy ?_;have hzg:=hg.lt;have hzh:=hh.lt;have r1:Row ((w.alloc (.cells #[.int .i64 n] 178)).alloc (.cells #[.string (str []),.slice none 0 0] 109)) w.heap.size [.int .i64 n]:=(Row.new w [.int .i64 n] 178).alloc _;have r2:Row ((w.alloc (.cells #[.int .i64 n] 178)).alloc (.cells #[.string (str []),.slice none 0 0] 109)) (w.heap.size+1) tL:=by have:=Row.new (w.alloc (.cells #[.int .i64 n] 178)) tL 109;rw[World.size_alloc]at this;exact this
 have r3:Row ((w.alloc (.cells #[.int .i64 n] 178)).alloc (.cells #[.string (str []),.slice none 0 0] 109)) g l:=(hg.alloc _).alloc _;have r4:Row ((w.alloc (.cells #[.int .i64 n] 178)).alloc (.cells #[.string (str []),.slice none 0 0] 109)) h [.int .i64 m]:=(hh.alloc _).alloc _;have kk:ik (λk=>k=g∨k=h) w ((w.alloc (.cells #[.int .i64 n] 178)).alloc (.cells #[.string (str []),.slice none 0 0] 109)):=((ik.refl _ _).alloc _).alloc _;clear hg hh;go_wp2_with fail;generalize(w.alloc _).alloc _=w1 at r1 r2 r3 r4 kk|-;generalize w.heap.size=A at *;have hu:∀u:gI.Of (λu=>Row u A [.int .i64 n]/\Row u (A+1) tL),u.w.cell? ⟨A,0,none⟩=some (.int .i64 n):=λu=>u.h.1.cell 0;haveI apN:Nonempty (gI.Of (λu=>Row u A [.int .i64 n]/\Row u (A+1) tL)):=⟨⟨w1,r1,r2⟩⟩;refine gI.jl [0,1,2] 2 mixed κ rfl rfl θ ξ rfl (λu=>Row u A [.int .i64 n]/\Row u (A+1) tL) ⟨r1.drew,r2.drew⟩ ?_;show wpQuiet _ _ _ _ [_,_,_] _;refine rV (o:=⟨some 12,_,_,_,_,_⟩) rfl _ _ rfl (A+1) tL rfl aFW _ fL (jL.trans rfl) _ rfl ?_;go_frame;repeat(go_big_quiet_step (fail))
 refine fe ?_;have r1:=r1.drew;have r2:=r2.drew;have r3:=r3.drew;have r4:=r4.drew;have kk:=kk.drew;generalize w1.drew=w2 at r1 r2 r3 r4 kk|-;refine gI.one 3 _ κ rfl rfl ?_;refine gJ rfl _ _ _ rfl g l tL rfl rfl r3 (jL.trans rfl) (by rw[hl];rfl) aFK ?_;have s1:=r1.gX (g:=g) ω tL.toArray;have s2:=r2.gX (g:=g) ω tL.toArray;have s3:=r3.setRow tL;have s4:=r4.gX (g:=g) (aG iZ) tL.toArray;have kk:=kk.setRow g tL.toArray (.inl rfl);exact t06
def Dr l w(hT:km w)(hl:l.length<=9223372036854775807):Calls prog 95 #[.string (str l),.func (.func 96) #[] #[]] w (RDP (Wr.ko l) (λa=>a.1) 78 33 (λa=>a.2.length) (λa=>il a.2) w):=by
 have hmf:=Vo;have yM:=hT.lt;have HT:=η hT;have EQ:=η (show Wr.ko l=(Wr.Yh l).bind λa r=>if r=[]then .ok a r else .bad 5 from rfl);have r1:Row (((w.alloc (.cells #[.string (str []),.slice none 0 0] 109)).alloc (.cells #[.int .i64 0] 37)).alloc (.cells #[.string (str l)] 136)) w.heap.size tL:=((Row.new w tL 109).alloc _).alloc _;have r2:Row (((w.alloc (.cells #[.string (str []),.slice none 0 0] 109)).alloc (.cells #[.int .i64 0] 37)).alloc (.cells #[.string (str l)] 136)) (w.heap.size+1) [.int .i64 0]:=by have:=Row.new (w.alloc (.cells tL.toArray 109)) [.int .i64 0] 37;exact t0104
 have r3:Row (((w.alloc (.cells #[.string (str []),.slice none 0 0] 109)).alloc (.cells #[.int .i64 0] 37)).alloc (.cells #[.string (str l)] 136)) (w.heap.size+2) [.string (str l)]:=by have:=Row.new ((w.alloc (.cells tL.toArray 109)).alloc (.cells #[.int .i64 0] 37)) [.string (str l)] 136;exact t082
 have hB:Below w.heap.size w (((w.alloc (.cells #[.string (str []),.slice none 0 0] 109)).alloc (.cells #[.int .i64 0] 37)).alloc (.cells #[.string (str l)] 136)):=(((Below.refl _ _).alloc ν _).alloc ζ _).alloc aFJ _;clear hT;go_enter_defers func95,ntmps95;go_wp2_with fail;generalize((w.alloc _).alloc _).alloc _=w1 at r1 r2 r3 hB|-;have HB:=η hB;have hz:=hB.size;have rn:=r3.lt;have R1:=η r1;have R2:=η r2;have T1:=η (Mh (w.heap.size+2) l w1 (HT.o.below hB yM) ω r3 hl)
 clear r1 r2 r3 hB;refine T1.o.mono ?_;clear T1;cases hx:Wr.Yh l with
 |bad n=>rintro e w2⟨rfl,h⟩;rw[hx]at EQ;have H1:=h.row R1.o R1.o.lt ω;have H2:=h.row R2.o R2.o.lt ω;refine fS (f:=122) (args:=#[.pointer (some ⟨w.heap.size,0,none⟩),.pointer (some ⟨w.heap.size+1,0,none⟩)]) ζ aGD ?_;refine(pG w.heap.size (w.heap.size+1) n 0 tL w2 H1 H2 rfl ω).mono ?_;rintro e u' w3⟨rfl,rfl,h5,h6,h7⟩;refine⟨_,lX rfl _ _ w.heap.size (w.heap.size+1) tL n rfl rfl h5 h6 _ fL (jL.trans rfl),?_⟩;exact RDP.jn EQ.o (HB.o.trans ⟨h7.os.trans h.os,h7.tape.trans h.tape,h7.output.trans h.output,ak h.size h7.size,λk hk=>(h7.block k (by have:=h.size;omega) ω).trans (h.block k ω ω)⟩)
 |ok t r=>
 rintro e w2⟨v,rfl,ho,h3,h⟩;rw[hx]at EQ;have nE:=η (show Wr.ko l=if r=[]then .ok t r else .bad 5 from EQ.o);have H1:=h.row R1.o R1.o.lt ω;have H2:=h.row R2.o R2.o.lt ω;have kS:=h.size;have JO:=pC ho;have B2:=η (show Below w.heap.size w w2 from HB.o.trans ⟨h.os,h.tape,h.output,h.size,λk hk=>h.block k ω ω⟩);have S1:=η (H1.setRow (pr t.1 v));have S2:=η (H2.gX (g:=w.heap.size) ω (pr t.1 v).toArray);have S3:=η (h3.gX (g:=w.heap.size) ω (pr t.1 v).toArray);have B3:=η (below_setRow B2.o ν (pr t.1 v).toArray);have O3:=η (kB (S:=w.heap.size) ho (pr t.1 v).toArray ω);clear EQ h h3 H2 R1 R2 HB hx ho;go_wp2_with (with_reducible refine gJ (o:=⟨none,_,_,_,_,_⟩) rfl _ _ _ rfl w.heap.size tL (pr t.1 v) rfl rfl H1 (jL.trans rfl) rfl (Fw t.1 JO) ?_);clear H1;generalize w2.setRow _ _=w3 at S1 S2 S3 B3 O3|-;refine(BW (w.heap.size+2) r w3 S3.o).mono ?_;by_cases hr:r=[]
 ·simp only[if_pos hr];rintro e w4⟨rfl,rfl⟩;have uW:=S1.o;have S4:=η (S2.o.gX (g:=w.heap.size) ω (pr t.1 v).toArray);have S5:=η (S1.o.setRow (pr t.1 v));have B5:=η (below_setRow B3.o ν (pr t.1 v).toArray);have O5:=η (kB (S:=w.heap.size) O3.o (pr t.1 v).toArray ω);have SQ:=S4.o.free 0;have hc5:=S4.o.cell 0;go_wp2_with (first|(refine l0 (o:=⟨some 19,_,_,_,_,_⟩) rfl _ _ rfl w.heap.size (pr t.1 v) rfl uW _ fL (jL.trans rfl) _ rfl ?_)|(with_reducible refine gJ (o:=⟨none,_,_,_,_,_⟩) rfl _ _ _ rfl w.heap.size (pr t.1 v) (pr t.1 v) rfl rfl uW (jL.trans rfl) rfl (Fw t.1 JO) ?_));refine fS (f:=122) (args:=#[.pointer (some ⟨w.heap.size,0,none⟩),.pointer (some ⟨w.heap.size+1,0,none⟩)]) ζ aGD ?_;refine(DV w.heap.size (w.heap.size+1) _).mono ?_;rintro e u' w5⟨rfl,rfl,rfl⟩;refine⟨_,lX rfl _ _ w.heap.size (w.heap.size+1) (pr t.1 v) 0 rfl rfl (S5.o.other (show w.heap.size+1≠w.heap.size by omega) _) (S4.o.set 0 _) _ fL (jL.trans rfl),?_⟩;exact RDP.vH (nE.o.trans (if_pos hr)) (lC (iJ O5.o _ (by show w.heap.size+1<_;omega)) hz) (B5.o.setCell (show w.heap.size<=w.heap.size+1 by omega) _)
 simp only[if_neg hr];rintro e w4⟨rfl,rfl⟩;refine fS (f:=122) (args:=#[.pointer (some ⟨w.heap.size,0,none⟩),.pointer (some ⟨w.heap.size+1,0,none⟩)]) ζ aGD ?_;refine(pG w.heap.size (w.heap.size+1) 5 0 (pr t.1 v) w4 S1.o S2.o rfl ω).mono ?_;rintro e u' w5⟨rfl,rfl,h5,h6,h7⟩;refine⟨_,lX rfl _ _ w.heap.size (w.heap.size+1) tL 5 rfl rfl h5 h6 _ fL (jL.trans rfl),?_⟩;exact RDP.jn (k:=5) (nE.o.trans (if_neg hr)) (B3.o.trans ⟨h7.os,h7.tape,h7.output,h7.size,λk hk=>h7.block k aIP ω⟩)
def XH l w(hT:km w)(hl:l.length<=9223372036854775807):Calls prog 52 #[.string (str l)] w (RDP (Wr.ko l) (λa=>a.1) 78 33 (λa=>a.2.length) (λa=>il a.2) w):=by
 have yM:=hT.lt;have r1:Row (w.alloc (.cells #[.string (str []),.slice none 0 0] 109)) w.heap.size tL:=Row.new w tL 109;have hB:Below w.heap.size w (w.alloc (.cells #[.string (str []),.slice none 0 0] 109)):=(Below.refl _ _).alloc ν _;go_enter func52,ntmps52;go_wp2_with fail;generalize w.alloc _=w1 at r1 hB|-;have HB:=η hB;have R1:=η r1;have hz:=r1.lt;have T1:=η (Dr l w1 (hT.below hB yM) hl);clear hT hB r1;refine T1.o.mono ?_;clear T1;cases hx:Wr.ko l with
 |bad n=>have EQ:=η hx;clear hx;rintro e w2⟨rfl,h2⟩;have H1:=R1.o.below h2 hz;have B2:=η (HB.o.trans (h2.mono ω));have S1:=η (H1.setRow tL);have B3:=η (below_setRow B2.o ν tL.toArray);clear h2 R1 HB;go_wp2_with (with_reducible refine gJ (o:=⟨none,_,_,_,_,_⟩) rfl _ _ _ rfl w.heap.size tL tL rfl rfl H1 (jL.trans rfl) rfl aFK ?_);exact bodyPost_ret (v:=.tuple #[.agg tL.toArray,.int .i64 n]) (jE rfl _ _ w.heap.size tL (.int .i64 n) rfl rfl S1.o _ fL (jL.trans rfl)) rfl (RDP.jn EQ.o B3.o)
 |ok t r=>have EQ:=η hx;clear hx;rintro e w2⟨v,rfl,ho,h2⟩;have JO:=pC ho;have H1:=R1.o.below h2 hz;have B2:=η (HB.o.trans (h2.mono ω));have S1:=η (H1.setRow (pr t.1 v));have B3:=η (below_setRow B2.o ν (pr t.1 v).toArray);have O3:=η (kB (S:=w.heap.size) ho (pr t.1 v).toArray ω);clear h2 R1 HB ho;go_wp2_with (with_reducible refine gJ (o:=⟨none,_,_,_,_,_⟩) rfl _ _ _ rfl w.heap.size tL (pr t.1 v) rfl rfl H1 (jL.trans rfl) rfl (Fw t.1 JO) ?_);exact bodyPost_ret (v:=.tuple #[.agg (pr t.1 v).toArray,.int .i64 0]) (jE rfl _ _ w.heap.size (pr t.1 v) (.int .i64 0) rfl rfl S1.o _ fL (jL.trans rfl)) rfl (RDP.vH EQ.o (lC O3.o ω) B3.o)
end
