import Derived.Test.YtlpcjiollnnmgabGreatDoorM00
import Derived.Test.YtlpcjiollnnmgabGreatDoorM10
import Derived.Test.YtlpcjiollnnmgabGreatDoorM11
import Derived.Sort.KeysCollected
import Derived.Sort.OwnSorted
set_option maxRecDepth 100000
set_option maxHeartbeats 8000000
set_option linter.all false
namespace Go.Proofs.YtlpcjiollnnmgabGreatDoor
open Go.Proofs.Tryz
def t05{p:Prop}(h:p:=by
 have RD9:=η RD8.o.drew;have NB9:=η NB.o.drew;have RA9:=η RA8.o.drew;have RR9:=η RR8.o.drew;have RB9:=η RB8.o.drew;have O9:=η (show w8'.drew.ownsRow C 78 33 (.slice (some ⟨gb,0,none⟩) ts.length cb) ts.length (il ts)from O8.o);clear RD8 NB RA8 RR8 RB8 O8;generalize w8'.drew=w9 at RD9 NB9 RA9 RR9 RB9 O9|-;have S9:gI.cls (λu=>Row u D (w8 r1)/\Row u K (pr h (.slice (some ⟨gb,0,none⟩) ts.length cb))) w9:=gI.gF ⟨RD9.o,RB9.o⟩;refine gI.one 8 _ κ rfl rfl ?_;try go_frame
 go_wp2_with fail;refine⟨S9,?_⟩;refine fg κ ?_ 0
 try go_frame
 have hAr:A≠rb:=ω;have rA9:=RA9.o;go_wp2_with (first|(refine tH (o:=⟨some 56,_,_,_,_,_⟩) rfl _ rfl 3 rfl ?_)|(with_reducible refine gJ (o:=⟨none,_,_,_,_,_⟩) rfl _ _ _ rfl A (an 0 []) (an 3 []) rfl rfl rA9 (gY.trans rfl) rfl rfl ?_));obtain⟨T2,GH⟩:=rA9.setRow (an 3 []);refine bodyPost_ret (v:=.agg (an 3 []).toArray) (fH (fn:=Tryz.f46) rfl _ _ A T2 _ (0,0) _ rfl GH underlying49 rfl (gY.trans rfl)) rfl ?_;exact⟨by rw[Wp.o],RR9.o.gX ω _,NB9.o.trans (iL.gL (below_setRow (Below.refl _ _) (by rw[HA.o];omega) _))⟩):p:=h
section
open Go.RowKit iz
def vzq{P ops rest o a C Q v}(hw:Region.wanted o (yielded ops a.tmps)=true)(hv:∀w,C w->(execOp a.eval o).run P w=.ok (.value v) w) (h:wpQuiet P ops C Q rest (a.put o.dst v)):wpQuiet P ops C Q (o::rest) a:=by unfold wpQuiet;rw[if_pos hw];refine⟨v,λw hC=>?_,h⟩;have:=hv w hC;unfold Oper.quietAt;simp only[this,Oper.quietUpon];first|trivial|exact⟨trivial,trivial⟩|exact⟨rfl,rfl⟩|exact⟨rfl,hC⟩
def Ij{P ops rest o a C Q}(hw:Region.wanted o (yielded ops a.tmps)=true) src dst e x(ho:o.op=.convert src dst x) g off n cap l (hl:l.length=n) (hx:a.eval x=.slice (some ⟨g,off,none⟩) n cap) (hs:P.underlying src=some (.slice e)) (he:P.underlying e=some (.int .u8)) (hd:P.underlying dst=some .string) (hb:∀w,C w->Bytes w g off l) (h:wpQuiet P ops C Q rest (a.put o.dst (.string (str l)))):wpQuiet P ops C Q (o::rest) a:=by subst hl;refine vzq hw (λw hC=>?_) h;unfold execOp;simp only[ho,hx];rw[fh,oZ w src dst e g off cap l hs he hd (hb w hC)];rfl
def gY:(prog.info? 49).map (·.size)=some 2:=κ
def an(k:Nat)(s:List UInt8):List Value:=[.int .i64 (k:Int),.string (str s)]
def ZH k s:prog.built 49 [(0,.int .i64 k),(1,.string s)]=some #[.int .i64 k,.string s]:=κ
def ZI k:prog.built 49 [(0,.int .i64 k)]=some #[.int .i64 k,.string ByteArray.empty]:=κ
def ZJ:prog.built 49 []=some #[.int .i64 0,.string ByteArray.empty]:=κ
def wZ{ops rest o a w Q}(pn:o.guard=none) x y(ho:o.op=.build 49 #[(0,x),(1,y)]) (k:Nat) s (hx:a.eval x=.int .i64 (k:Int)) (hy:a.eval y=.string (str s)) (h:wpList prog ops Q rest (a.put o.dst (.agg (an k s).toArray)) w):wpList prog ops Q (o::rest) a w:=by refine wpList_buildTo pn 49 _ ho _ rfl _ ?_ h;simp only[bN,List.map_cons,bP,hx,hy];exact ZH k (str s)
def tH{ops rest o a w Q}(pn:o.guard=none) x(ho:o.op=.build 49 #[(0,x)]) (k:Nat) (hx:a.eval x=.int .i64 (k:Int)) (h:wpList prog ops Q rest (a.put o.dst (.agg (an k []).toArray)) w):wpList prog ops Q (o::rest) a w:=by refine wpList_buildTo pn 49 _ ho _ rfl _ ?_ h;simp only[bN,List.map_cons,bP,hx];exact ZI k
def qJ{ops rest o a w Q}(pn:o.guard=none)(ho:o.op=.build 49 #[]) (h:wpList prog ops Q rest (a.put o.dst (.agg (an 0 []).toArray)) w):wpList prog ops Q (o::rest) a w:=by refine wpList_buildTo pn 49 _ ho _ rfl _ ?_ h;simp only[bN,bP];exact ZJ
def ajJ{w g t}(h:Row w g (gD t)):w.rangeAt g 1 (w8 (Mk.gC t)):=λj v hv=>by rw[h.cell];unfold gD;rw[dR,cW];exact hv
def n8(mb:Nat)(h:List UInt8)(tv mv:Value):List Value:=[.map (some mb),.string (str h),tv,mv]
def xf(mb:Nat):List Value:=n8 mb [] (.slice none 0 0) (.slice none 0 0)
def kn(w:World)(b:Nat)(l:List Value):Prop:=w.heap[b]? =some (.cells l.toArray 44 (0,0))
namespace kn
variable{w w':World}{b:Nat}{l:List Value}
def row(h:kn w b l):Row w b l:=⟨_,h⟩
theorem cell(h:kn w b l) i:w.cell? ⟨b,i,none⟩=l[i]?:=h.row.cell i
theorem free(h:kn w b l) i:w.frozen? ⟨b,i,none⟩=false:=h.row.free i
theorem lt(h:kn w b l):b<w.heap.size:=h.row.lt
def same(h:kn w b l)(e:w'.heap[b]? =w.heap[b]?):kn w' b l:=e.trans h
def set(h:kn w b l) i v:kn (w.setCell ⟨b,i,none⟩ v) b (l.set i v):=by have h':w.heap[b]? =some (.cells l.toArray 44 (0,0)):=h;show(w.setCell ⟨b,i,none⟩ v).heap[b]? =_;simp[World.setCell,bd,h']
def other(h:kn w b l){a}(ha:a.block≠b) v:kn (w.setCell a v) b l:=h.same (ft _ _ _ _ (aG ha))
def drew(h:kn w b l):kn w.drew b l:=h
def alloc(h:kn w b l) o:kn (w.alloc o) b l:=h.same (fM _ _ _ h.lt)
def below{B}(h:kn w b l)(hb:Below B w w')(hB:b<B):kn w' b l:=h.same (hb.block b hB)
def gX{g}(h:kn w b l)(hb:b≠g) m:kn (w.setRow g m) b l:=h.same (fI w g b m hb)
end kn
def Lu rb mb h tv mv ts C w(hT:km w)(vR:1<rb)(hR:kn w rb (n8 mb h tv mv))(ho:w.ownsRow C 78 33 tv ts.length (il ts)) (hs:∀t∈ts,t.length<=610) (h0:0<ts.length) (hn:ts.length<=16) (hl:h.length=80) (hrC:rb<C):Calls prog 46 #[.pointer (some ⟨rb,0,none⟩)] w λe w'=>e=.returned (.agg (an (Cp.finish h ts).1 (Cp.finish h ts).2).toArray)/\kn w' rb (xf mb)/\iL w.heap.size rb w w':=by
 obtain⟨i0,kV,mJ,mC,kS⟩:=fy agR;have HI:=η kV;have hb:=hR.lt;have yM:=hT.lt;have HS:=η hs;obtain⟨gb,cb,rfl,aCJ,Zl,hTA⟩:=Ej ho h0;have oX:gb≠rb:=ω;have rA:Row (w.alloc (.cells (an 0 []).toArray 49)) w.heap.size (an 0 []):=Row.new w _ _;have hB:iL w.heap.size rb w (w.alloc (.cells (an 0 []).toArray 49)):=(iL.refl _ _ _).alloc ν _;rw[show(an 0 []).toArray=#[Value.int .i64 0,.string (str [])]from rfl]at rA hB;have Zp:=η (hR.alloc (.cells #[Value.int .i64 0,.string (str [])] 49));have HT:=η hT;have HTA:=η hTA;clear hT hR hs kV hTA;have FE:=η (show Cp.finish h ts=if(Mk.root (ts.map Mk.gC) false).2=true∨(Mk.root (ts.map Mk.gC) false).1≠(h.drop 36).take 32 then(3,[])else(2,h++(Wr.jT ts.length++ts.flatten))from rfl);obtain⟨fin,ow⟩:∃p,Cp.finish h ts=p:=⟨_,rfl⟩;rw[ow]at FE|-;clear ow;go_enter func46,ntmps46;go_upto_region 2 with fail;generalize World.alloc _ _=w1 at rA hB Zp|-;have qH:=Zp.o.cell 2;rw[show(n8 mb h (.slice (some ⟨gb,0,none⟩) ts.length cb) mv)[2]? =some (.slice (some ⟨gb,0,none⟩) ts.length cb)from rfl]at qH;have RA:=η rA;have HB:=η hB;obtain⟨A,hA⟩:∃A,w.heap.size=A:=⟨_,rfl⟩;have HA:=η hA;have ara:=rA.lt;rw[hA]at rA hB ara RA Zl hb;clear rA hB;go_wp2_with fail;clear qH;go_loopw [3,5,14] (λsv pv iv wr=>∃i:Nat,i<=ts.length/\iv=.int .i64 i/\wr.ownsRow w1.heap.size 76 32 sv i (w8 ((ts.map Mk.gC).take i).flatten)/\Below w1.heap.size w1 wr) (λ_ _ iv _=>ts.length-(intOf iv).toNat);exact⟨0,by omega,rfl,fc _ _ _ _,Below.refl _ _⟩;obtain⟨i,hi,rfl,iB,hBr⟩:=hrel;have B2:=η iB;have B3:=η hBr;have ql:=hBr.size;clear iB hBr;by_cases gV:i<ts.length
 ·have p0:(i:Int)< (ts.length:Int):=by omega
  have Qg:(ts.getD i []).length<=610:=HS.o _ aFX;have IF:wr.rangeAt gb (33*i) (gD (ts.getD i [])):=rangeAt_of_block (HTA.o i gV) ((B3.o.block gb ω).trans (HB.o.block gb (by rw[HA.o];omega) oX));have htk:=η (show(ts.map Mk.gC).take (i+1)=(ts.map Mk.gC).take i++[Mk.gC (ts.getD i [])]by rw[ax aH3,dL,ab,ag gV];rfl);obtain⟨t,hte⟩:∃t,ts.getD i []=t:=⟨_,rfl⟩;rw[hte]at Qg IF htk;rw[br]at IF;have r1:Row (wr.alloc (.cells j1.toArray 78)) wr.heap.size j1:=Row.new wr j1 78;have bw:=below_setRow ((Below.refl wr.heap.size wr).alloc ν (.cells j1.toArray 78)) ν (gD t).toArray;have RT:=η (r1.setRow (gD t));have O2:=η (gM B2.o bw ν);have B4:=η (B3.o.trans (bw.mono ql));rw[Tryz.n9]at r1 bw RT O2 B4;have Em:=bw.size;clear bw hte B2 B3;go_upto_region 5 with(first|(refine JJ (o:=⟨some 17,_,_,_,_,_⟩) rfl _ rfl gb (i*33) t rfl IF ?_)|(with_reducible refine gJ (o:=⟨none,_,_,_,_,_⟩) rfl _ _ _ rfl wr.heap.size j1 (gD t) rfl rfl r1 (kj.trans aGK) aH8 (iV t) ?_));clear r1 IF;generalize World.setRow _ _ _=w2 at RT O2 B4 Em|-;obtain⟨T,hTe⟩:∃T,wr.heap.size=T:=⟨_,rfl⟩;rw[hTe]at RT Em ql|-;have hdg:=ajJ RT.o;have yL:=RT.o.lt;have L1:=η (show∀(j:Nat)(u:Value),(w8 (Mk.gC t))[j]? =some u->(w2.alloc (.cells (w8 (Mk.gC t)).toArray 76)).cell? (Addr.add ⟨w2.heap.size,0,none⟩ j)=some u from λj u hu=>by rw[fJ,aC,(Row.new w2 _ _).cell];exact hu);go_wp2_with (first|(refine agI (o:=⟨some 20,_,_,_,_,_⟩) rfl _ rfl T 1 (Mk.gC t) (mz t) rfl hdg ?_)|(refine ZK (o:=⟨some 21,_,_,_,_,_⟩) rfl _ rfl (Mk.gC t) (mz t) rfl ?_)|(at_builtin;refine wpList_append_own _ rfl _ _ 110 rfl w1.heap.size 76 i0 (.agg (w8 (List.replicate 32 0)).toArray) 32 32 underlying110 HI.o mJ mC kS rfl ψ _ _ _ rfl (O2.o.alloc _) ⟨w2.heap.size,0,none⟩ 1 1 (w8 (Mk.gC t)) rfl (by rw[ir,mz]) L1.o (AA _) ι ω χ ?_;intro XO w3 iM jF _;have mK:Below w1.heap.size w2 w3:=((Below.refl w1.heap.size w2).alloc ω _).grown jF χ (λk hk=>(O2.o.lt k hk).1);have H1:=η iM;have H2:=η mK;clear iM jF mK))
  go_roundw
  ·((repeat(apply Exists.intro));(first|refine And.intro ?_ rfl|refine And.intro ?_ ⟨rfl,rfl⟩|refine And.intro ?_ ⟨rfl,rfl,rfl⟩);exact⟨i+1,by omega,by go_num,by rw[htk.o,<-Zv];exact H1.o,B4.o.trans H2.o⟩)
  simp[intOf];omega
 obtain rfl:i=ts.length:=by omega
 have hO:=η (show wr.ownsRow w1.heap.size 76 32 u3 ts.length (w8 (ts.map Mk.gC).flatten)by have:=B2.o;rwa[au ζ]at this);have IS:p9 (ts.map Mk.gC):=λd hd=>by obtain⟨t,_,rfl⟩:=List.mem_map.1 hd;exact mz t
 have Ay:(ts.map Mk.gC).length=ts.length:=bk _;obtain⟨g,k,rfl,hg,DN,hdg⟩:=abL hO.o h0 Ay.symm IS;have lD:=Mk.Nf (ts.map Mk.gC) IS ω;have hTw:km wr:=(HB.o.AL HT.o yM vR).below B3.o ω;have CR:=aiO g k (ts.map Mk.gC) wr hTw DN hdg IS ω ω;rw[Ay]at CR;have C2:=η CR;have RA2:=η (RA.o.below B3.o ara);have RR2:=η (Zp.o.below B3.o Zp.o.lt);have Qh:=Zp.o.lt;have O0:=η ho;clear IS hdg hTw CR hO B2 RA Zp ho Ay;generalize Mk.root (ts.map Mk.gC) false=R at C2 lD FE;obtain⟨r1,r2⟩:=R;dsimp only at FE lD;go_wp2_with fail;refine C2.o.mono ?_;clear C2;rintro e w4⟨rfl,tA⟩;have Em:=tA.size;have B4:=η (B3.o.trans (tA.mono ql));have RA4:=η (RA2.o.below tA ω);have RR4:=η (RR2.o.below tA ω);clear tA B3 RA2 RR2;have hRn:=Row.new w4 (w8 (List.replicate 32 0)) 76;have hBn:=(Below.refl w4.heap.size w4).alloc ν (.cells (w8 (List.replicate 32 0)).toArray 76);have hBr:=below_setRow hBn ν (w8 r1).toArray;have RD:=η (hRn.setRow (w8 r1));have B5:=η (B4.o.trans (hBr.mono ω));have RA5:=η (RA4.o.below hBr ω);have RR5:=η (RR4.o.below hBr ω);rw[Tryz.xY]at hRn RD B5 RA5 RR5;clear hBn hBr B4 RA4 RR4;go_upto_region 8 with(with_reducible refine ng (o:=⟨none,_,_,_,_,_⟩) rfl _ _ rfl w4.heap.size (List.replicate 32 0) r1 rfl lD rfl rfl hRn ?_);clear hRn;generalize World.setRow _ _ _=w5 at RD B5 RA5 RR5|-;obtain⟨D,hD⟩:∃D,w4.heap.size=D:=⟨_,rfl⟩;rw[hD]at RD Em|-;have hD5:=RD.o.lt;clear hD;have DK:∀u:gI.Of (λu=>Row u rb (n8 mb h (.slice (some ⟨gb,0,none⟩) ts.length cb) mv)),u.w.cell? ⟨rb,1,none⟩=some (.string (str h)):=λu=>u.h.cell 1;have pZ:∀u:gI.Of (λu=>Row u rb (n8 mb h (.slice (some ⟨gb,0,none⟩) ts.length cb) mv)),u.w.cell? ⟨rb,2,none⟩=some (.slice (some ⟨gb,0,none⟩) ts.length cb):=λu=>u.h.cell 2;haveI iZ:Nonempty (gI.Of (λu=>Row u rb (n8 mb h (.slice (some ⟨gb,0,none⟩) ts.length cb) mv))):=⟨⟨w5,RR5.o.row⟩⟩;refine gI.jl [0,1,2,3,4,5,6,7,8] 2 mixed κ rfl rfl θ ξ rfl (λu=>Row u rb (n8 mb h (.slice (some ⟨gb,0,none⟩) ts.length cb) mv)) RR5.o.row.drew ?_;show wpQuiet _ _ _ _ [_,_,_,_,_,_,_,_,_] _;repeat(go_big_quiet_step (fail))
 refine fe ?_;clear DK pZ;have RD6:=η RD.o.drew;have B6:=η B5.o.drew;have RA6:=η RA5.o.drew;have RR6:=η RR5.o.drew;have hD6:D<w5.drew.heap.size:=hD5;clear RD B5 RA5 RR5 hD5;generalize w5.drew=w6 at RD6 B6 RA6 RR6 hD6|-;have hz6:=B6.o.size;have hRb:=Row.new w6 tL 83;have hBb:=(Below.refl w6.heap.size w6).alloc ν (.cells tL.toArray 83);have hBc:=below_setRow hBb ν (pr h (.slice (some ⟨gb,0,none⟩) ts.length cb)).toArray;have RB7:=η (hRb.setRow (pr h (.slice (some ⟨gb,0,none⟩) ts.length cb)));have RD7:=η (RD6.o.below hBc hD6);have B7:=η (B6.o.trans (hBc.mono ω));have RA7:=η (RA6.o.below hBc ω);have RR7:=η (RR6.o.below hBc ω);rw[show tL.toArray=#[Value.string (str []),.slice none 0 0]from rfl]at hRb RB7 RD7 B7 RA7 RR7;have hS6:=RR6.o.row.alloc (.cells #[Value.string (str []),.slice none 0 0] 83);clear hBb hBc RD6 B6 RA6 RR6;refine gI.one 9 _ κ rfl rfl ?_;try go_frame
 go_wp2_with fail;refine⟨gI.gF hS6,?_⟩;refine gI.one 10 _ κ rfl rfl ?_
 refine gJ rfl _ _ _ rfl w6.heap.size tL (pr h (.slice (some ⟨gb,0,none⟩) ts.length cb)) rfl rfl hRb (Gs.trans rfl) rfl (Fw h rfl) ?_;clear hRb hS6;generalize World.setRow _ _ _=w7 at RB7 RD7 B7 RA7 RR7|-;obtain⟨K,hK⟩:∃K,w6.heap.size=K:=⟨_,rfl⟩;rw[hK]at RB7 hD6 hz6|-;clear hK;have hK7:=RB7.o.lt;refine⟨gI.gF RR7.o.row,?_⟩;refine fg κ ?_ 0;try go_frame
 have f1:=RR7.o.free 1;have f2:=RR7.o.free 2;have f3:=RR7.o.free 3;have c1:=RR7.o.cell 1;have c2:=RR7.o.cell 2;have c3:=RR7.o.cell 3;have RR8:=η (show kn (((w7.setCell ⟨rb,1,none⟩ (.string (str []))).setCell ⟨rb,2,none⟩ (.slice none 0 0)).setCell ⟨rb,3,none⟩ (.slice none 0 0)) rb (xf mb)from((RR7.o.set 1 (.string (str []))).set 2 (.slice none 0 0)).set 3 (.slice none 0 0));go_upto_region 10 with fail;have NB:=η (show iL w.heap.size rb w (((w7.setCell ⟨rb,1,none⟩ (.string (str []))).setCell ⟨rb,2,none⟩ (.slice none 0 0)).setCell ⟨rb,3,none⟩ (.slice none 0 0))from(((HB.o.trans (iL.gL (B7.o.mono HB.o.size))).jI 1 _).jI 2 _).jI 3 _);have RD8:=η (((RD7.o.other (show rb≠D by omega) _).other (show rb≠D by omega) _).other (show rb≠D by omega) _:Row (((w7.setCell ⟨rb,1,none⟩ (.string (str []))).setCell ⟨rb,2,none⟩ (.slice none 0 0)).setCell ⟨rb,3,none⟩ (.slice none 0 0)) D _);have RB8:=η (((RB7.o.other (show rb≠K by omega) _).other (show rb≠K by omega) _).other (show rb≠K by omega) _:Row (((w7.setCell ⟨rb,1,none⟩ (.string (str []))).setCell ⟨rb,2,none⟩ (.slice none 0 0)).setCell ⟨rb,3,none⟩ (.slice none 0 0)) K _);have RA8:=η (((RA7.o.other (show rb≠A by omega) _).other (show rb≠A by omega) _).other (show rb≠A by omega) _:Row (((w7.setCell ⟨rb,1,none⟩ (.string (str []))).setCell ⟨rb,2,none⟩ (.slice none 0 0)).setCell ⟨rb,3,none⟩ (.slice none 0 0)) A _);clear f1 f2 f3 c1 c2 c3 RD7 RB7 RA7 RR7 B7;have auI:K< (((w7.setCell ⟨rb,1,none⟩ (.string (str []))).setCell ⟨rb,2,none⟩ (.slice none 0 0)).setCell ⟨rb,3,none⟩ (.slice none 0 0)).heap.size:=RB8.o.lt;generalize World.setCell _ _ _=w8' at NB RD8 RB8 RA8 RR8 auI|-;have O8:=η (ju O0.o NB.o hrC);by_cases hm:r2=true
 ·subst hm;have Wp:=η (show fin=(3,[])by rw[FE.o,if_pos (.inl rfl)]);haveI iZ:Nonempty (gI.Of (λu=>Row u D (w8 r1)/\Row u K (pr h (.slice (some ⟨gb,0,none⟩) ts.length cb)))):=⟨⟨w8',RD8.o,RB8.o⟩⟩;refine gI.jl [0,1,2,3,4,5,6,7] 1 mixed κ rfl rfl θ ξ rfl (λu=>Row u D (w8 r1)/\Row u K (pr h (.slice (some ⟨gb,0,none⟩) ts.length cb))) ⟨RD8.o.drew,RB8.o.drew⟩ ?_;show wpQuiet _ _ _ _ [_,_,_,_,_,_,_,_] _;repeat(go_big_quiet_step (fail))
  refine fe ?_;exact t05
 obtain rfl:r2=false:=by simpa using hm
 clear hm;have Av:∀u:gI.Of (λu=>Row u D (w8 r1)/\Row u K (pr h (.slice (some ⟨gb,0,none⟩) ts.length cb))),u.w.cell? ⟨K,0,none⟩=some (.string (str h)):=λu=>u.h.2.cell 0;haveI iZ:Nonempty (gI.Of (λu=>Row u D (w8 r1)/\Row u K (pr h (.slice (some ⟨gb,0,none⟩) ts.length cb)))):=⟨⟨w8',RD8.o,RB8.o⟩⟩;refine gI.jl [0,1,2,3,4,5,6,7] 1 mixed κ rfl rfl θ ξ rfl (λu=>Row u D (w8 r1)/\Row u K (pr h (.slice (some ⟨gb,0,none⟩) ts.length cb))) ⟨RD8.o.drew,RB8.o.drew⟩ ?_;show wpQuiet _ _ _ _ [_,_,_,_,_,_,_,_] _;go_big_quiet_step (fail);go_big_quiet_step (fail);go_big_quiet_step (fail);refine Ij (o:=⟨some 50,_,_,_,_,_⟩) rfl 35 9 5 _ rfl D 0 32 32 r1 lD rfl fq fu fp (λw hw=>by obtain⟨u,rfl⟩:=hw;exact u.h.1.bytes) ?_;go_frame;repeat(go_big_quiet_step (fail))
 refine fe ?_;by_cases hq:r1=(h.drop 36).take 32
 ·have Wp:=η (show fin=(2,h++Mk.m7 ts)by rw[FE.o,if_neg (by simp[hq])];rfl);rw[show(!(r1==List.take 32 (List.drop 36 h)))=false by simp[hq]];have RD9:=η RD8.o.drew;have NB9:=η NB.o.drew;have RA9:=η RA8.o.drew;have RR9:=η RR8.o.drew;have RB9:=η RB8.o.drew;have O9:=η (show w8'.drew.ownsRow C 78 33 (.slice (some ⟨gb,0,none⟩) ts.length cb) ts.length (il ts)from O8.o);clear RD8 NB RA8 RR8 RB8 O8;generalize w8'.drew=w9 at RD9 NB9 RA9 RR9 RB9 O9|-;have S9:gI.cls (λu=>Row u D (w8 r1)/\Row u K (pr h (.slice (some ⟨gb,0,none⟩) ts.length cb))) w9:=gI.gF ⟨RD9.o,RB9.o⟩;refine gI.one 8 _ κ rfl rfl ?_;try go_frame
  go_wp2_with fail;refine⟨S9,?_⟩;refine fg κ ?_ 0
  try go_frame
  have hAr:A≠rb:=ω;have rA9:=RA9.o;have BB:=η (Ce h (.slice (some ⟨gb,0,none⟩) ts.length cb) ts C w9 O9.o HS.o ω ω);have rK:=RB9.o;clear O9 FE HS;generalize h++Mk.m7 ts=bs at Wp BB;go_wp2_with (refine l0 (o:=⟨some 57,_,_,_,_,_⟩) rfl _ _ rfl K (pr h (.slice (some ⟨gb,0,none⟩) ts.length cb)) rfl rK _ underlying83 (Gs.trans rfl) _ rfl ?_);refine BB.o.mono ?_;rintro e w10⟨rfl,alE⟩;have aow:=rA9.below alE rA9.lt;have axu:=RR9.o.below alE RR9.o.lt;have axI:=NB9.o.trans (iL.gL (alE.mono NB9.o.size));clear rA9;go_wp2_with (first|(refine wZ (o:=⟨some 59,_,_,_,_,_⟩) rfl _ _ rfl 2 bs rfl rfl ?_)|(with_reducible refine gJ (o:=⟨none,_,_,_,_,_⟩) rfl _ _ _ rfl A (an 0 []) (an 2 bs) rfl rfl aow (gY.trans rfl) rfl rfl ?_));obtain⟨T2,GH⟩:=aow.setRow (an 2 bs);refine bodyPost_ret (v:=.agg (an 2 bs).toArray) (fH (fn:=Tryz.f46) rfl _ _ A T2 _ (0,0) _ rfl GH underlying49 rfl (gY.trans rfl)) rfl ?_;exact⟨by rw[Wp.o],axu.gX ω _,axI.trans (iL.gL (below_setRow (Below.refl _ _) (by rw[HA.o];omega) _))⟩
 have Wp:=η (show fin=(3,[])by rw[FE.o,if_pos (.inr hq)]);rw[show(!(r1==List.take 32 (List.drop 36 h)))=true by simp[hq]];exact t05
end
def t0116{p:Prop}(h:p:=by go_wp2_with fail;go_ret;exact⟨rfl,rfl⟩):p:=h
section
open iz
open Go.RowKit
def SG w:Calls prog 147 #[.int .u64 0] w λe w'=>e=.returned (.int .i64 0)/\w'=w:=by go_enter func147,ntmps147;go_wp2_with fail;go_ret;exact⟨congrArg (λz=>Ending.returned (.int .i64 z)) (show wrap64 (wrap64 (Lib.len8 0))=0 by decide +kernel),rfl⟩
def acf w:Calls prog 120 #[.int .u64 0] w λe w'=>e=.returned (.int .i64 0)/\w'=w:=by go_enter func120,ntmps120;go_wp2_with fail;refine(SG w).mono ?_;rintro e w1⟨rfl,rfl⟩;exact t0116
def akA w:Calls prog 137 #[.slice none 0 0,.int .i64 0,.int .i64 0] w λe w'=>e=.returned (.tuple #[])/\w'=w:=by go_enter func137,ntmps137;go_wp2_with fail;refine wp_loop_rounds 1 ?_;rw[rounds_succ];exact t0112
def agm w:Calls prog 119 #[.slice none 0 0,.int .i64 0,.int .i64 0,.int .i64 0] w λe w'=>e=.returned (.tuple #[])/\w'=w:=by go_enter func119,ntmps119;go_wp2_with fail;refine wp_loop_rounds 1 ?_;rw[rounds_succ];go_wp2_with fail;refine(akA _).mono ?_;rintro e w1⟨rfl,rfl⟩;go_wp2_with fail;refine bodyPost_ret (fN rfl _ _ _) rfl ?_;exact⟨rfl,rfl⟩
def xF w:Calls prog 85 #[.slice none 0 0] w λe w'=>e=.returned (.tuple #[])/\w'=w:=by
 go_enter func85,ntmps85;go_wp2_with fail;rw[show U (lO 0)=0 by decide +kernel]
 refine(acf w).mono ?_;rintro e w1⟨rfl,rfl⟩;go_wp2_with fail;refine(agm _).mono ?_;rintro e w1⟨rfl,rfl⟩;exact t0112
theorem Oh{α β:Type}{f:α->Option β}:∀ {l:List α}{r:List β},l.mapM f=some r->∀x∈l,∃y,f x=some y
 |[],_,_,x,hx=>by cases hx
 |a::l,r,h,x,hx=>by
  rw[dE]at h;cases ha:f a with
  |none=>rw[ha]at h;cases h
  |some y=>
  rw[ha]at h;cases hl:l.mapM f with
  |none=>rw[hl]at h;cases h
  |some r'=>rcases List.mem_cons.1 hx with rfl|hx;exact⟨y,ha⟩;exact Oh hl x hx
def byteOf:Value->UInt8
 |.int _ n=>UInt8.ofNat n.toNat|_=>0
def ajE{d c ls}(h:prog.keyLits (d+1) 5 [c]=some ls):c=.int .u8 (Y (byteOf c)):=by
 unfold Program.keyLits at h;simp only[fu]at h;cases c<;>try(simp at h;done)
 rename_i k n;dsimp only at h;split at h;rename_i hk;obtain⟨rfl,hw⟩:=hk;have hn:0<=n/\n<=255:=by simp[Lit.wf,IntKind.min,IntKind.max,IntKind.signed,IntKind.bits]at hw;omega
 have:Y (byteOf (.int .u8 n))=n:=by unfold byteOf Y;simp only[cK];omega
 rw[this];cases h
def Lf{v kl}(h:keyOf prog 76 v=some kl):∃d,d.length=32/\v=.agg (w8 d).toArray/\kl=.string d:=by
 have h0:=h;obtain⟨n,hn⟩:∃n,prog.types.size+1=n+2:=⟨prog.types.size-1,by kernel_rfl⟩;unfold keyOf at h;simp only[fA,show prog.keyType 76=true by kernel_rfl,Bool.true_and]at h;split at h
 ·rename_i hf;cases v<;>try(simp[Value.formed,fA]at hf;done)
  rename_i cs;have pL:cs.toList.length=32:=by simp only[Value.formed,fA,Ev,beq_iff_eq]at hf;simpa using hf
  rw[hn,show(Value.agg cs).cells.toList=cs.toList by simp[Value.cells]]at h;cases hl:prog.keyLits (n+2) 76 cs.toList with
  |none=>rw[hl]at h;cases h
  |some ls=>
  unfold Program.keyLits at hl;simp only[fA,Ev,pL,if_true,Wh]at hl;cases hm:(List.range 32).mapM (λi=>prog.keyLits (n+1) 5 ((cs.toList.drop (i*1)).take 1))with
  |none=>rw[hm]at hl;cases hl
  |some r=>
  have ll:=Oh hm;have np:∀i (hi:i<cs.toList.length),cs.toList[i]=.int .u8 (Y (byteOf cs.toList[i])):=λi hi=>by obtain⟨y,hy⟩:=ll i (dC.2 ω);rw[bS,bo hi]at hy;exact ajE hy
  have kC:cs.toList=w8 (cs.toList.map byteOf):=by apply List.ext_getElem;simp[w8];intro i h1 h2;have:=np i h1;simp only[w8,dL];exact this
  have hd:(cs.toList.map byteOf).length=32:=by simpa using pL
  have hv:Value.agg cs=.agg (w8 (cs.toList.map byteOf)).toArray:=by rw[<-kC]
  refine⟨_,hd,hv,?_⟩;rw[hv,Mp.BI _ hd]at h0;exact(aA h0).symm
 cases h
def Pj{w w'}(h:Below w.heap.size w w'):w.grownBy w' none:=⟨h.os,h.tape,h.output,h.size,λi hi _=>h.block i hi⟩
def akz P:strKeys (Mp.D P)=P.map Mk.gC:=by show(Mp.vU P).map (λp=>strOf p.1)=_;unfold Mp.vU;rw[List.map_map];rfl
def X6{l:List (List UInt8)}(h:l.Pairwise (· < ·)):l.mergeSort leB=l:=by refine List.mergeSort_of_pairwise (h.imp λ{a b} VX=>?_);exact decide_eq_true (List.le_of_lt VX)
def BY{P:List Mp.B}(nU:Pl.Up Mk.gC P){left:Lit->Bool}{ss:List (List UInt8)}(hC:Collected (Mp.D P) left ss)(hl:∀kl,left kl=false):ss.mergeSort leB=P.map Mk.gC/\ss.length=P.length:=by
 have hp:ss.Perm (P.map Mk.gC):=by
  rw[<-akz];refine perm_strKeys (es:=Mp.vU P) ?_ (λp hp=>?_) hC.1 (λx=>by rw[hC.2 x,hl];exact⟨λh=>h.1,λh=>⟨h,rfl⟩⟩);refine List.pairwise_map.2 (nU.imp λ{a b} VX e=>?_);have:Mk.gC a=Mk.gC b:=by simpa using e
  rw[this]at VX;exact Pl.vJ _ VX;obtain⟨t,_,rfl⟩:=List.mem_map.1 hp;exact⟨_,rfl⟩
 refine⟨?_,by simpa using hp.length_eq⟩;rw[mergeSort_of_perm hp,X6 (Pl.agO Mk.gC P nU)]
def anb r m P w(hr:w.cell? ⟨r,0,none⟩=some (.map (some m)))(hM:Mp.Map w m P):Calls prog 59 #[.pointer (some ⟨r,0,none⟩)] w λe w'=>∃v,e=.returned v/\w'.ownsRow w.heap.size 9 1 v P.length (wt (P.map Mk.gC))/\Below w.heap.size w w':=by
 obtain⟨i0,kV,mJ,mC,kS⟩:=fy mZ;have HI:=η kV;have HM:=η hM;have hmw:=hM.lt;have nU:=hM.up;have hle:=hM.le;clear kV hM;go_enter func59,ntmps59;go_wp2_with (at_range;refine wpList_range_own _ (o:=⟨some 9,_,_,_,_,_⟩) rfl _ 39 rfl 76 78 Mp.law fU Mp.AH m 20 (Mp.D P) rfl HM.o.own ?_;intro w0 acO hg0 Aw)
 go_frame;obtain⟨R,hR⟩:∃R,w.heap.size=R:=⟨_,rfl⟩;have B0:=η ((Below.refl w.heap.size w).grown hg0 ν (λj hj=>by cases hj));have HRG:=η acO;rw[hR]at HRG;rw[hR];have HRE:=η hR;have pL:=Mp.AS P;clear acO hg0 Aw hR;go_loopw [3,4] (λov _ wr=>∃(left:Lit->Bool)(cnt:Nat)(ss:List (List UInt8)),wr.ranges prog 76 Mp.AH m R 20 (Mp.D P) left cnt/\ss.length+cnt<=20/\wr.ownsRow w.heap.size 9 1 ov ss.length (wt ss)/\Collected (Mp.D P) left ss/\Below w.heap.size w wr) (λ_ _ wr=>wr.rangeLeft m R);exact⟨_,_,[],HRG.o,by rw[pL];simpa using hle,fc _ _ _ _,Collected.start _,B0.o⟩;obtain⟨left,cnt,ss,hrg,kC,jb,hC,hB⟩:=hrel;have amr:=η jb;have HC:=η hC;have HB:=η hB;have ql:=hB.size;clear jb hC hB;go_wp2_with (at_next;refine wpList_next_ranges _ (o:=⟨some 10,_,_,_,_,_⟩) rfl _ rfl 76 Mp.law Mp.AH (λd:{d:List UInt8 // d.length=32}=>Value.agg (w8 d.1).toArray) (λc:Value=>c) aGk (λv y hv=>⟨v,rfl⟩) m R 20 _ _ _ rfl hrg ?_ ?_)
 ·intro pV hl0;have BJ:=BY nU HC.o hl0;have H1:=η BJ.1;have HSN:=η BJ.2;clear BJ;have jb:=amr.o;rcases jb.2 with⟨Lm,hss⟩|⟨g,cap,cur,hv,oM,hb,h1,h2,h3,h4⟩
  ·subst Lm;have Aw:ss=[]:=by exact bF.1 hss
   have hP0:P=[]:=bF.1 (by rw[<-HSN.o,Aw];rfl);have H2:=η hP0;clear jb hP0 Aw;have T1:=η (xF wr);go_wp2_with fail;refine T1.o.mono ?_;rintro e w3⟨rfl,rfl⟩;go_wp2_with fail;go_ret;exact⟨_,rfl,by rw[H2.o];exact fc _ _ _ _,HB.o⟩
  subst hv;have hH:Sort.Holds encStr wr g 0 ss.toArray:=holds_of_block hb (by rw[bS]at h4;exact h4);have Ia:g<wr.heap.size:=(ae.1 hb).1;have T1:=η (EM g 0 cap ss wr hH Ia ω);have O2:∀(n:Nat)(os:Array Obj),(Sort.grow (Sort.putRow encStr (Sort.ahead wr n) g 0 (P.map Mk.gC).toArray) os).ownsRow w.heap.size 9 1 (.slice (some ⟨g,0,none⟩) ss.length cap) ss.length ((P.map Mk.gC).map encStr):=λn os=>ownsRow_sorted (by rw[bk,HSN.o]) oM hb h1 h2 h3;have HO2:=η O2;clear jb hH hb O2 h1 h2 h3 h4;go_wp2_with fail;refine T1.o.mono ?_;rintro e w3⟨rfl,nn,os,rfl⟩;rw[H1.o];have B3:=η (HB.o.grown (grownBy_sorted (P.map Mk.gC).toArray (w:=wr) (g:=g) (n:=nn) (os:=os)) ql aG5);have O3:=η (HO2.o nn os);generalize Sort.grow (Sort.putRow encStr (Sort.ahead wr nn) g 0 (P.map Mk.gC).toArray) os=w3 at B3 O3|-;go_wp2_with fail;go_ret;refine⟨_,rfl,?_,B3.o⟩;have:=O3.o;rw[<-HSN.o];exact this
 intro x hx c kl yd yp w2 arp BM OV hv q8 acN gV Th zU hen;obtain rfl:kl=.string x:=by rw[Mp.BI x hx]at BM;exact(aA BM).symm
 have uJ:=amr.o.kept Th (Or.inr (row_ne_iter amr.o hrg).symm);have hRB:w.heap.size<=R:=HRE.o▸ν;have pW:=HB.o.grown Th ql (λj hj=>by cases hj;exact hRB);have C2:=η (HC.o.step OV q8);have LE:=η hrg.left_eq;obtain⟨Da,rn,Ic,DT⟩:=adu w2 x 76;rw[Tryz.xY]at Da rn Ic DT;clear BM OV hv q8 zU Th hrg;go_upto_region 5 with(with_reducible refine ng (o:=⟨none,_,_,_,_,_⟩) rfl _ _ rfl w2.heap.size (List.replicate 32 0) x rfl hx rfl rfl DT ?_);obtain⟨A,hA⟩:∃A,w2.heap.size=A:=⟨_,rfl⟩;have hzw:w.heap.size<=w2.heap.size:=pW.size;have G3:=Pj Da;have B3:=η (pW.trans (Da.mono hzw));have ah8:=η (acN.kept G3 ζ ζ);have O3:=η (gM uJ Da ν);clear G3 Da rn DT uJ pW acN;rw[hA]at Ic B3 ah8 O3|-;clear hA hen;generalize World.setRow _ A (w8 x).toArray=w3 at Ic B3 ah8 O3|-;have rn:=B3.o.size;go_frame;go_wp2_with (first
  |(with_reducible refine tF (o:=⟨some 16,_,_,_,_,_⟩) rfl _ _ _ _ rfl A 0 32 32 x hx rfl fq fu fp Ic.bytes ?_)
  |(at_builtin;(refine wpList_append_own _ rfl _ _ 28 rfl w.heap.size 9 i0 (.string ByteArray.empty) 1 16 underlying28 HI.o mJ mC kS rfl ψ _ _ _ rfl (O3.o.alloc _) ⟨w3.heap.size,0,none⟩ 1 1 [.string (str x)] rfl rfl (cell_one_new _ _ _) (kh [x]) ι ω χ ?_);intro v4 w4 lI zZ _;have H1:=η lI;have H2:=η zZ;clear lI zZ))
 have arJ:=η ((ah8.o.alloc _).kept H2.o (row_ne_low O3.o hmw) (row_ne_iter O3.o ah8.o));have B4:=η ((B3.o.alloc rn _).grown H2.o χ (λk hk=>(O3.o.lt k hk).1));clear H2;go_roundw;exact⟨_,arp,ss++[x],arJ.o,by simp;omega,by rw[ai,<-kZ];exact H1.o,C2.o,B4.o⟩;rw[arJ.o.left_eq,LE.o];exact gV
end
namespace Ph
open iz
open Go.RowKit
abbrev By:=List UInt8
def na(f:By->By)(iP:List By)(s:By):List By:=iP.reverse.filter λt=>f t==s
def xN(p:By×Value):Value×Value:=(.string (str p.1),p.2)
def mN(w:World)(B m:Nat)(f:By->By)(iP:List By):Prop:=∃(es:Array MapEntry)(clock:Nat)(K:List (By×Value)),w.heap[m]? =some (.map es clock)/\es.toList.map (λe=>(e.key,e.val))=K.map xN/\(K.map (·.1)).Nodup/\(∀s,s∈K.map (·.1)↔ ∃t∈iP,f t=s)/\(∀p∈K,w.ownsRow B 78 33 p.2 (na f iP p.1).length (il (na f iP p.1)))/\∀(i j:Nat)(p q:By×Value),K[i]? =some p->K[j]? =some q->i≠j->p.2.ownBlock≠q.2.ownBlock
def Qs:List (By×Value)->By->Nat->Option (Nat×Value)
 |[],_,_=>none|p::K,s,i=>if p.1=s then some (i,p.2)else Qs K s (i+1)
def af1(a b:By):(str a==str b)=decide (a=b):=by rw[beq_toListBytes,EK,EK,cQ,beq_iff_eq,decide_eq_true_eq]
theorem vT:∀(es:List MapEntry)(K:List (By×Value)),es.map (λe=>(e.key,e.val))=K.map xN->∀(s:By)(i:Nat),Instr.findNow .string (.string (str s)) es i=some (Qs K s i)
 |[],[],_,s,i=>rfl|[],p::K,h,_,_=>by simp at h|e::es,[],h,_,_=>by simp at h|e::es,p::K,h,s,i=>by simp only[List.map_cons,List.cons.injEq]at h;obtain⟨h1,h2⟩:=h;have hk:e.key=.string (str p.1):=(Prod.mk.inj h1).1;have hv:e.val=p.2:=(Prod.mk.inj h1).2;unfold Instr.findNow Qs;rw[hk];unfold Instr.sameNow;dsimp only;rw[af1];by_cases hs:p.1=s;rw[if_pos hs];rw[show decide (s=p.1)=true from by simp[hs],hv];rw[if_neg hs];rw[show decide (s=p.1)=false from by simp;exact λe=>hs e.symm];exact vT es K h2 s (i+1)
theorem GO:∀ {K:List (By×Value)}{s:By}{i:Nat},Qs K s i=none->s∉K.map (·.1)
 |[],_,_,_=>by simp|p::K,s,i,h=>by unfold Qs at h;split at h;cases h;rename_i hs;have:=GO h;simp only[List.map_cons,List.mem_cons,not_or];exact⟨λe=>hs e.symm,this⟩
theorem vS:∀ {K:List (By×Value)}{s:By}{i j:Nat}{v:Value},Qs K s i=some (j,v)->∃k,j=i+k/\K[k]? =some (s,v)
 |[],_,_,_,_,h=>by cases h
 |p::K,s,i,j,v,h=>by unfold Qs at h;split at h;rename_i hs;cases h;exact⟨0,rfl,by subst hs;rfl⟩;obtain⟨k,h1,h2⟩:=vS h;exact⟨k+1,by omega,by simpa using h2⟩
def tO(K:List (By×Value))(s:By):Value:=match Qs K s 0 with
 |some (_,v)=>v
 |none=>.slice none 0 0
def My(K:List (By×Value))(s:By)(v:Value):List (By×Value):=match Qs K s 0 with
 |some (i,_)=>K.set i (s,v)
 |none=>K++[(s,v)]
section
variable{w:World}{m clock:Nat}{es:Array MapEntry}{K:List (By×Value)}
def vl{P}(h:w.heap[m]? =some (.map es clock)):(getObj m).run P w=.ok (.map es clock) w:=by simp[getObj,Sem.run,h]
def afE:(zeroValue 42).run prog w=.ok (.slice none 0 0) w:=κ
def Gl(h:w.heap[m]? =some (.map es clock))(hk:es.toList.map (λe=>(e.key,e.val))=K.map xN)(s:By):(Instr.lookup 101 (.map (some m)) (.string (str s)) false).run prog w=.ok (tO K s) w:=by unfold Instr.lookup;have h1:=underlying101;have hc:(Instr.checkKey es.isEmpty (9999+1) 9 (.string (str s))).run prog w=.ok () w:=MapKept.run_checkKey fp (by trivial) _ _;have hf:(Instr.findKey 9 (.string (str s)) es.toList).run prog w=.ok (Qs K s 0) w:=MapKept.run_findKey fp (vT es.toList K hk s 0);simp only[fh,fO h1,fi,vl h,fj,hc,hf];unfold tO;cases Qs K s 0 with|none=>simp only[fh,afE,fi,fj];rfl|some p=>obtain⟨i,v⟩:=p;simp only[fj,fi];rfl
def uj(es:Array MapEntry) i k v:(es.modify i λe=>{e with key:=k,val:=v}).toList.map (λe=>(e.key,e.val))=(es.toList.map λe=>(e.key,e.val)).set i (k,v):=by apply b9;intro j;rw[aE,bE,bd,eL];by_cases qG:i=j;subst qG;rw[if_pos rfl,if_pos rfl];by_cases hi:i<es.size;rw[Array.getElem?_eq_getElem hi,if_pos aGd];rfl;rw[aI ω,if_neg aGd];rfl;rw[if_neg qG,if_neg qG,aE,bE]
def afN(h:w.heap[m]? =some (.map es clock))(hk:es.toList.map (λe=>(e.key,e.val))=K.map xN)(s:By)(v:Value):∃nM rh,(Instr.mapUpdate 101 (.map (some m)) (.string (str s)) v).run prog w=.ok () {w with heap:=w.heap.setIfInBounds m (.map nM rh)}/\nM.toList.map (λe=>(e.key,e.val))=(My K s v).map xN:=by
 have h1:=underlying101;have hc:(Instr.checkKey false (9999+1) 9 (.string (str s))).run prog w=.ok () w:=MapKept.run_checkKey fp (by trivial) _ _;have hf:(Instr.findKey 9 (.string (str s)) es.toList).run prog w=.ok (Qs K s 0) w:=MapKept.run_findKey fp (vT es.toList K hk s 0);cases hF:Qs K s 0 with
 |none=>refine⟨es.push {key:=.string (str s),val:=v,born:=clock},clock+1,?_,?_⟩;unfold Instr.mapUpdate;rw[hF]at hf;simp only[fh,fO h1,fi,vl h,fj,hc,hf];exact MapKept.run_setObj_map _ h;unfold My;rw[hF,Array.toList_push,cP,hk,cP];rfl|some p=>
 obtain⟨i,v0⟩:=p;obtain⟨k,hi,hK⟩:=vS hF;rw[aC]at hi;subst hi;have IL:∃e,es[i]? =some e/\e.key=.string (str s):=by
  have:(es.toList.map λe=>(e.key,e.val))[i]? =(K.map xN)[i]?:=by rw[hk]
  rw[aE,aE,hK,bE]at this;obtain⟨e,he,hp⟩:=aS.1 this;exact⟨e,he,(Prod.mk.inj hp).1⟩
 obtain⟨e,he,BM⟩:=IL;have hkt:(Instr.keyThatStays (((es[i]?).map (·.key)).getD (.string (str s))) (.string (str s))).run prog w=.ok (.string (str s)) w:=by rw[he];simp only[Option.map_some,cV,BM];unfold Instr.keyThatStays;rw[if_pos (by simp[Instr.sameBits,beq_toListBytes])];rfl
 refine⟨es.modify i λe=>{e with key:=.string (str s),val:=v},clock,?_,?_⟩;unfold Instr.mapUpdate;rw[hF]at hf;simp only[fh,fO h1,fi,vl h,fj,hc,hf,hkt];exact MapKept.run_setObj_map _ h;unfold My;rw[hF,uj,hk,dD];rfl
def adk f iP t:na f (t::iP) (f t)=na f iP (f t)++[t]:=by unfold na;rw[List.reverse_cons,eF];simp
def Zq{f iP t s}(h:f t≠s):na f (t::iP) s=na f iP s:=by unfold na;rw[List.reverse_cons,eF];simp[h]
def adl{f iP s}(h:¬∃t∈iP,f t=s):na f iP s=[]:=by unfold na;rw[dH];intro t ht;simp only[List.mem_reverse]at ht;simp only[beq_iff_eq];exact λe=>h ⟨t,ht,e⟩
def mr(ts:List By)(t:By):il (ts++[t])=il ts++gD t:=by unfold il;simp
def CN{w:World}{B m e z n v xs es clock}(h:w.ownsRow B e z v n xs)(hm:w.heap[m]? =some (.map es clock)) o:({w with heap:=w.heap.setIfInBounds m o}:World).ownsRow B e z v n xs:=by refine⟨h.1,h.2.imp id λ⟨g,cap,cur,h1,h2,h3,h4⟩=>⟨g,cap,cur,h1,h2,?_,h4⟩⟩;show(w.heap.setIfInBounds m o)[g]? =_;rw[ah];exact h3;rintro rfl;rw[hm]at h3;cases h3
def NZ{w:World}{B e z n:Nat}{v:Value}{xs:List Value}(h:w.ownsRow B e z v n xs)(hn:0<n):∃g,v.ownBlock=some g:=by rcases h.2 with⟨_,h0⟩|⟨g,cap,cur,rfl,_⟩;omega;exact⟨g,rfl⟩
structure Slot(w:World)(B m:Nat)(f:By->By)(iP:List By)(s:By)(es:Array MapEntry)(clock:Nat)(K:List (By×Value)):Prop where
 at_:w.heap[m]? =some (.map es clock)
 key:es.toList.map (λe=>(e.key,e.val))=K.map xN
 nodup:(K.map (·.1)).Nodup
 mem:∀s,s∈K.map (·.1)↔ ∃t∈iP,f t=s
 rows:∀p∈K,w.ownsRow B 78 33 p.2 (na f iP p.1).length (il (na f iP p.1))
 adH:∀(i j:Nat)(p q:By×Value),K[i]? =some p->K[j]? =some q->i≠j->p.2.ownBlock≠q.2.ownBlock
 own:w.ownsRow B 78 33 (tO K s) (na f iP s).length (il (na f iP s))
def Slot.below{w w' B C m f iP s es clock K}(h:Slot w B m f iP s es clock K)(hb:Below C w w')(hC:w.heap.size<=C):Slot w' B m f iP s es clock K:=⟨(hb.block m (ay (ae.1 h.at_).1 hC)).trans h.at_,h.key,h.nodup,h.mem,λp hp=>gM (h.rows p hp) hb hC,h.adH,gM h.own hb hC⟩
def mN.slot{w B m f iP}(h:mN w B m f iP) s:∃es clock K,Slot w B m f iP s es clock K:=by obtain⟨es,clock,K,h1,h2,h3,h4,h5,h6⟩:=h;refine⟨es,clock,K,h1,h2,h3,h4,h5,h6,?_⟩;unfold tO;cases hF:Qs K s 0 with|none=>rw[adl (λhx=>GO hF ((h4 s).2 hx))];exact fc _ _ _ _|some p=>obtain⟨i,v⟩:=p;obtain⟨k,_,hK⟩:=vS hF;exact h5 _ (List.mem_of_getElem? hK)
def mN.nil w B m f(h:w.heap[m]? =some (.map #[] 0)):mN w B m f []:=⟨#[],0,[],h,rfl,by simp,(λs=>by simp),(λp hp=>by cases hp),λi j p q hp=>by simp at hp⟩
def Slot.put{w w1 B m f iP t es nM clock rh K}(h:Slot w B m f iP (f t) es clock K){v1}(hg:w.grownBy w1 (tO K (f t)).ownBlock) (hv:w1.ownsRow B 78 33 v1 ((na f iP (f t)).length+1) (il (na f iP (f t))++gD t)) (hb:v1.ownBlock=(tO K (f t)).ownBlock∨∃g,v1.ownBlock=some g/\w.heap.size<=g) (IL:nM.toList.map (λe=>(e.key,e.val))=(My K (f t) v1).map xN):mN {w1 with heap:=w1.heap.setIfInBounds m (.map nM rh)} B m f (t::iP):=by
 have Zh:m<w.heap.size:=(ae.1 h.at_).1;have Qk:w1.heap[m]? =some (.map es clock):=by
  rw[hg.block m Zh];exact h.at_;intro e;rcases h.own.2 with⟨h0,_⟩|⟨g,cap,cur,Ti,_,hc,_⟩;rw[h0]at e;cases e;rw[Ti]at e;have:m=g:=by have:=e.symm;exact(aA this).symm
  subst this;rw[h.at_]at hc;cases hc
 have aiX:m<w1.heap.size:=(ae.1 Qk).1;have pL:∀p∈K,∃g,p.2.ownBlock=some g/\g<w.heap.size:=λp hp=>by obtain⟨t',ht',e⟩:=(h.mem p.1).1 (dP hp);have hn:0< (na f iP p.1).length:=List.length_pos_of_mem (a:=t') (by unfold na;simp[ht',e]);obtain⟨g,Ti⟩:=NZ (h.rows p hp) hn;exact⟨g,Ti,((h.rows p hp).lt g Ti).2⟩
 have ai1:∀p∈K,p.1≠f t->w1.ownsRow B 78 33 p.2 (na f (t::iP) p.1).length (il (na f (t::iP) p.1)):=λp hp iZ=>by
  rw[Zq (λe=>iZ e.symm)];refine(h.rows p hp).kept hg (.inr ?_);obtain⟨g,Ti,_⟩:=pL p hp;unfold tO;cases hF:Qs K (f t) 0 with
  |none=>rw[Ti];exact λe=>by cases e
  |some q=>obtain⟨i,v⟩:=q;obtain⟨k,_,hK⟩:=vS hF;obtain⟨j,hj⟩:=cD hp;refine h.adH j k p _ hj hK λe=>?_;subst e;rw[hj]at hK;exact iZ (by rw[aA hK])
 have ag5:w1.ownsRow B 78 33 v1 (na f (t::iP) (f t)).length (il (na f (t::iP) (f t))):=by rw[adk,ai,mr];exact hv
 obtain⟨g1,hg1⟩:=NZ hv ω;cases hF:Qs K (f t) 0 with
 |none=>
 have hU:My K (f t) v1=K++[(f t,v1)]:=by unfold My;rw[hF]
 have hV:tO K (f t)=.slice none 0 0:=by unfold tO;rw[hF]
 have qY:w.heap.size<=g1:=by rcases hb with e|⟨g,e,hle⟩;rw[hV,hg1]at e;cases e;rw[hg1]at e;rw[aA e];exact hle
 have hnm:=GO hF;rw[hU]at IL;refine⟨nM,rh,_,aj aiX,IL,?_,λs=>?_,λp hp=>CN ?_ Qk _,λi j p q hp hq qG=>?_⟩;rw[cP,dX];exact⟨h.nodup,by simp,λa ha b sB e=>by simp only[List.map_cons,bP,cn]at sB;subst sB;subst e;exact hnm ha⟩;rw[cP,bx,h.mem s];simp only[List.map_cons,bP,cn,List.mem_cons,List.not_mem_nil,or_false];constructor;rintro(⟨t',h1,h2⟩|rfl);exact⟨t',.inr h1,h2⟩;exact⟨t,.inl rfl,rfl⟩;rintro⟨t',rfl|h1,h2⟩;exact .inr h2.symm;exact .inl ⟨t',h1,h2⟩;rcases bx.1 hp with hp|hp;exact ai1 p hp λe=>hnm (by rw[<-e];exact dP hp);rw[cn]at hp;subst hp;exact ag5;have sq:∀(i:Nat) p,(K++[(f t,v1)])[i]? =some p->(∃g,i<K.length/\K[i]? =some p/\p.2.ownBlock=some g/\g<w.heap.size)∨(i=K.length/\p=(f t,v1)):=λi p hp=>by
  rw[List.getElem?_append]at hp;split at hp;rename_i gV;obtain⟨g,h1,h2⟩:=pL p (List.mem_of_getElem? hp);exact .inl ⟨g,gV,hp,h1,h2⟩;rename_i hge;have:i-K.length=0:=by rcases cY (i-K.length)with h0|h0;exact h0;rw[bT aFJ]at hp;cases hp
  rw[this]at hp;exact .inr ⟨by omega,(aA hp).symm⟩
 rcases sq i p hp with⟨g,a1,a2,a3,a4⟩|⟨a1,rfl⟩<;>rcases sq j q hq with⟨g',b1,b2,b3,b4⟩|⟨b1,rfl⟩;exact h.adH i j p q a2 b2 qG;rw[a3,hg1];intro e;have:=aA e;omega;rw[b3,hg1];intro e;have:=aA e;omega;omega
 |some q0=>
 obtain⟨k,v0⟩:=q0;obtain⟨k',Tg,hK⟩:=vS hF;rw[aC]at Tg;subst Tg;have hU:My K (f t) v1=K.set k (f t,v1):=by unfold My;rw[hF]
 have hV:tO K (f t)=v0:=by unfold tO;rw[hF]
 have Ln:k<K.length:=(aB.1 hK).1;rw[hU]at IL;have OR:(K.set k (f t,v1)).map (·.1)=K.map (·.1):=by rw[dD];apply b9;intro j;by_cases hj:k=j;subst hj;rw[cG (by simpa using Ln),aE,hK];rfl;rw[de hj]
 have sq:∀(i:Nat) p,(K.set k (f t,v1))[i]? =some p->(i≠k/\K[i]? =some p)∨(i=k/\p=(f t,v1)):=λi p hp=>by by_cases hik:i=k;subst hik;rw[cG Ln]at hp;exact .inr ⟨rfl,(aA hp).symm⟩;rw[de (aG hik)]at hp;exact .inl ⟨hik,hp⟩
 have apM:∀(i:Nat) p,i≠k->K[i]? =some p->p.2.ownBlock≠v1.ownBlock:=λi p hik hp=>by rcases hb with e|⟨g,e,hle⟩;rw[e,hV];exact h.adH i k p _ hp hK hik;obtain⟨g',h1,h2⟩:=pL p (List.mem_of_getElem? hp);rw[h1,e];intro e';have:=aA e';omega
 refine⟨nM,rh,_,aj aiX,IL,by rw[OR];exact h.nodup,λs=>?_,λp hp=>CN ?_ Qk _,λi j p q hp hq qG=>?_⟩;rw[OR,h.mem s];constructor;rintro⟨t',h1,h2⟩;exact⟨t',aF _ h1,h2⟩;rintro⟨t',h1,h2⟩;rcases List.mem_cons.1 h1 with rfl|h1;exact(h.mem s).1 (by rw[<-h2];exact dP (List.mem_of_getElem? hK));exact⟨t',h1,h2⟩;obtain⟨i,hi⟩:=cD hp;rcases sq i p hi with⟨hik,Qn⟩|⟨_,rfl⟩;refine ai1 p (List.mem_of_getElem? Qn) λe=>hik ?_;have h1:(K.map (·.1))[i]? =some (f t):=by rw[aE,Qn,<-e];rfl
 have h2:(K.map (·.1))[k]? =some (f t):=by rw[aE,hK];rfl
 have hil:i< (K.map (·.1)).length:=(aB.1 h1).1;exact(eM hil h.nodup).1 (h1.trans h2.symm);exact ag5;rcases sq i p hp with⟨a1,a2⟩|⟨a1,rfl⟩<;>rcases sq j q hq with⟨b1,b2⟩|⟨b1,rfl⟩;exact h.adH i j p q a2 b2 qG;exact apM i p a1 a2;exact(apM j q b1 b2).symm;omega
end
end Ph
def t063{p:Prop}(h:p:=by
 simp only[e1,e2];generalize rz f P (gA.getD nx [])=hh at ht;match hh,ht with
 |[],_=>simp
 |[t],ht=>exact absurd rfl ht
 |a::b::l,_=>simp):p:=h
section
open iz
namespace Cp
open Wr En
structure nN(n:Nat)(gB:List (Nat×B)):Prop where
 up:(gB.map (·.1)).Pairwise (· < ·)
 lt:∀p∈gB,p.1<n
 full:∀p∈gB,p.2≠ []/\p.2.length<=610
def mI{gB:List (Nat×B)}{i t}(h:gB.lookup i=some t):(i,t)∈gB:=by
 induction gB with
 |nil=>cases h
 |cons p l ih=>
 obtain⟨a,b⟩:=p;rw[dn]at h;split at h;rename_i he;have:i=a:=by simpa using he
 cases h;subst this;exact aH;exact aF _ (ih h)
def CP{gB:List (Nat×B)}{i}(h:gB.lookup i=none):∀p∈gB,p.1≠i:=by
 induction gB with
 |nil=>intro p hp;cases hp
 |cons q l ih=>obtain⟨a,b⟩:=q;rw[dn]at h;split at h;cases h;rename_i he;intro p hp;rcases List.mem_cons.1 hp with rfl|hp;intro e;exact absurd e.symm aHB;exact ih h p hp
def cnt(gB:List (Nat×B))(i:Nat):Nat:=(gB.filter λp=>decide (p.1<i)).length
def PJ gB:cnt gB 0=0:=by unfold cnt;rw[bF,dH];simp
theorem Hg:∀ {gB:List (Nat×B)}{i:Nat}{t:B},(gB.map (·.1)).Pairwise (· < ·)->gB.lookup i=some t->cnt gB (i+1)=cnt gB i+1
 |[],i,t,_,h=>by cases h
 |(a,b)::l,i,t,nU,h=>by
  simp only[List.map_cons,bI]at nU;obtain⟨h1,h2⟩:=nU;rw[dn]at h;unfold cnt;split at h;rename_i he;have hia:i=a:=by simpa using he
  subst hia;have e:∀k,k<=i+1->(l.filter λp=>decide (p.1<k))=[]:=λk hk=>by rw[dH];intro p hp;have:=h1 p.1 (List.mem_map.2 ⟨p,hp,rfl⟩);simp;omega
  rw[List.filter_cons_of_pos ζ,List.filter_cons_of_neg ζ,e (i+1) ω,e i ω];rfl;have ih:=Hg h2 h;unfold cnt at ih;by_cases ha:a<i;rw[List.filter_cons_of_pos aFJ,List.filter_cons_of_pos (by simpa using ha),aq,aq,ih];have hm:=mI h;have:=h1 i (List.mem_map.2 ⟨_,hm,rfl⟩);omega
def Aj{gB i}(h:gB.lookup i=none):cnt gB (i+1)=cnt gB i:=by unfold cnt;congr 1;refine eN λp hp=>?_;have:=CP h p hp;simp only[decide_eq_decide];omega
theorem aaE:∀(l:List Nat)(a b),l.Pairwise (· < ·)->(∀x∈l,a<=x/\x<b)->l.length<=b-a
 |[],_,_,_,_=>cI _|x::l,a,b,h,hb=>by rw[bI]at h;have h1:=hb x aH;have h2:=aaE l (x+1) b h.2 λy hy=>⟨h.1 y hy,(hb y (aF _ hy)).2⟩;rw[aq];omega
theorem arj{α:Type}(p:α->Bool):∀l:List α,l.length=(l.filter p).length+(l.filter λx=> !p x).length
 |[]=>rfl|x::l=>by have ih:=arj p l;cases h:p x;rw[List.filter_cons_of_neg (by simp[h]),List.filter_cons_of_pos (by simp[h]),aq,aq];omega;rw[List.filter_cons_of_pos (by simp[h]),List.filter_cons_of_neg (by simp[h]),aq,aq];omega
def adU{n gB}(h:nN n gB){i}(hn:gB.lookup i=none):gB.length<=cnt gB i+(n-(i+1)):=by
 have hz:((gB.filter λp=> !decide (p.1<i)).map (·.1)).length<=n-(i+1):=by
  refine aaE _ _ _ (h.up.sublist (List.filter_sublist.map _)) λx hx=>?_;obtain⟨p,hp,rfl⟩:=List.mem_map.1 hx;obtain⟨Mq,Qj⟩:=eT.1 hp;have:=CP hn p Mq;have h3:¬p.1<i:=by simpa using Qj
  exact⟨by omega,h.lt p Mq⟩
 have:=arj (λp:Nat×B=>decide (p.1<i)) gB;rw[bk]at hz;unfold cnt;omega
structure FI(f:B->B)(P:List B)(gB:List (Nat×B))(gA:List B)(n i:Nat)(L:List B)(ms:List Nat)(nx:Nat):Prop where
 len:L.length=n
 ahead:∀j,i<=j->j<n->L.getD j []=(gB.lookup j).getD []
 res:fill f P gB n 0 gA=(L.take i++(fill f P gB (n-i) i (gA.drop nx)).1,ms++(fill f P gB (n-i) i (gA.drop nx)).2)
 at_:nx+cnt gB i=i
 le:i<=n
section
variable{f:B->B}{P:List B}{gB:List (Nat×B)}{gA:List B}{n i:Nat}{L:List B}{ms:List Nat}{nx:Nat}
def Il{L:List B}{i t}(h:i<L.length):(L.set i t).take (i+1)=L.take i++[t]:=by rw[ax (by rw[aY];exact h),List.getElem_set_self,List.take_set_of_le ν]
def Je{L:List B}{i}(h:i<L.length):L.take (i+1)=L.take i++[L.getD i []]:=by rw[ax h,ab,ag h];rfl
def GM{L:List B}{i j t}(h:i≠j):(L.set i t).getD j []=L.getD j []:=by rw[ab,ab,de h]
def FI.skip(h:FI f P gB gA n i L ms nx)(hs:nN n gB)(hi:i<n)(hL:L.getD i []≠ []):FI f P gB gA n (i+1) L ms nx:=by have ha:=h.ahead i ν hi;cases hx:gB.lookup i with|none=>rw[hx]at ha;exact absurd ha hL|some t=>rw[hx]at ha;have ht:L.getD i []=t:=ha;refine⟨h.len,λj h1 h2=>h.ahead j ω h2,?_,?_,by omega⟩;rw[h.res,show n-i=(n-(i+1))+1 by omega,fill,hx,Je (by rw[h.len];exact hi),ht];simp;rw[Hg hs.up hx];have:=h.at_;omega
def FI.none(h:FI f P gB gA n i L ms nx)(hs:nN n gB)(hi:i<n)(hL:L.getD i []=[]):gB.lookup i=none:=by have ha:=h.ahead i ν hi;cases hx:gB.lookup i with|none=>rfl|some t=>rw[hx,hL]at ha;exact absurd ha.symm (hs.full _ (mI hx)).1
def FI.next(h:FI f P gB gA n i L ms nx)(hs:nN n gB)(hn:n=gA.length+gB.length)(hi:i<n)(hL:L.getD i []=[]):nx<gA.length:=by have h1:=adU hs (h.none hs hi hL);have h2:=h.at_;omega
def wY{gA:List B}{nx}(h:nx<gA.length):(gA.drop nx).headD []=gA.getD nx []/\(gA.drop nx).tail=gA.drop (nx+1):=by rw[bo h,ab,ag h];exact⟨rfl,rfl⟩
def FI.hit(h:FI f P gB gA n i L ms nx)(hs:nN n gB)(hn:n=gA.length+gB.length)(hi:i<n)(hL:L.getD i []=[]){t}(ht:rz f P (gA.getD nx [])=[t]):FI f P gB gA n (i+1) (L.set i t) ms (nx+1):=by have hx:=h.none hs hi hL;obtain⟨e1,e2⟩:=wY (h.next hs hn hi hL);refine⟨by rw[aY];exact h.len,λj h1 h2=>by rw[GM ω];exact h.ahead j ω h2,?_,?_,by omega⟩;rw[h.res,show n-i=(n-(i+1))+1 by omega,fill,hx];simp only[e1,ht,e2];rw[Il (by rw[h.len];exact hi)];simp;rw[Aj hx];have:=h.at_;omega
def FI.aku(h:FI f P gB gA n i L ms nx)(hs:nN n gB)(hn:n=gA.length+gB.length)(hi:i<n)(hL:L.getD i []=[])(ht:(rz f P (gA.getD nx [])).length≠1):FI f P gB gA n (i+1) L (ms++[i]) (nx+1):=by have hx:=h.none hs hi hL;obtain⟨e1,e2⟩:=wY (h.next hs hn hi hL);refine⟨h.len,λj h1 h2=>h.ahead j ω h2,?_,?_,by omega⟩;rw[h.res,show n-i=(n-(i+1))+1 by omega,fill,hx];rw[Je (by rw[h.len];exact hi),hL];exact t063;rw[Aj hx];have:=h.at_;omega
def FI.done(h:FI f P gB gA n n L ms nx):fill f P gB n 0 gA=(L,ms):=by rw[h.res,bh,fill];simp only[aO];rw[au (by rw[h.len];exact ν)]
end
def ahc{f:B->B}{P iP:List B}(h:∀p:B->Bool,iP.countP p=P.countP p)(s:B):(Ph.na f iP s).length=(rz f P s).length/\∀t,Ph.na f iP s=[t]->rz f P s=[t]:=by
 have hl:(Ph.na f iP s).length=(rz f P s).length:=by unfold Ph.na rz;rw[<-List.countP_eq_length_filter,<-List.countP_eq_length_filter,List.countP_reverse,h]
 refine⟨hl,λt ht=>?_⟩;rw[ht,List.length_singleton]at hl;obtain⟨u,hu⟩:=dF.1 hl.symm;rw[hu];have h1:(P.countP λx=>x==t&&f x==s)=1:=by rw[<-h,<-List.countP_reverse,<-List.countP_filter];have:iP.reverse.filter (λx=>f x==s)=[t]:=ht;rw[this];simp
 rw[<-List.countP_filter]at h1;have:P.filter (λx=>f x==s)=[u]:=hu;rw[this]at h1;by_cases e:u=t;rw[e];simp[e]at h1
end Cp
end
def t020{p:Prop}(h:p:=by
 refine⟨λu hu=>?_,λj hj he=>?_,?_⟩;rcases List.mem_cons.1 hu with rfl|hu;exact t2;exact h1 u hu;cases j with|zero=>exact absurd he t1|succ j=>have:=h2 j ω he;rwa[show i+(j+1)=i+1+j by omega]
 rw[show i+(n+1)=i+1+n by omega];exact Jk _ _ _ _ ω h3):p:=h
section
open iz
namespace Cp
open Wr En
def ints(l:List Nat):List Int:=l.map λ(i:Nat)=>(i:Int)
def pD l:(ints l).length=l.length:=bk _
def Ol{n gB}(h:nN n gB){i t}(hx:gB.lookup i=some t):t≠ []/\t.length<=610:=h.full _ (mI hx)
section
variable{f:B->B}{P:List B}{gB:List (Nat×B)}
def OX{s t}(h:rz f P s=[t]):t∈P:=by
 have:t∈rz f P s:=by rw[h];exact aH
 exact(eT.1 this).1
theorem Ad{N}(hs:nN N gB)(hP:∀t∈P,t≠ []/\t.length<=610):∀n i ss,(∀t∈(fill f P gB n i ss).1,t.length<=610)/\(∀j,j<n->(fill f P gB n i ss).1.getD j []=[]->i+j∈(fill f P gB n i ss).2)/\Ht (i+n) i (ints (fill f P gB n i ss).2)
 |0,_,_=>⟨λt h=>(by cases h),λj h=>absurd h (eg _),trivial⟩|n+1,i,ss=>by
  have Jk:∀(l:List Int)(lo lo':Int)(m:Nat),lo'<=lo->Ht m lo l->Ht m lo' l:=λl=>by cases l with|nil=>intros;trivial|cons a l=>exact λlo lo' m hl h=>⟨Int.le_trans hl h.1,h.2⟩
  rw[fill];split;rename_i t hx;obtain⟨h1,h2,h3⟩:=Ad hs hP n (i+1) ss;obtain⟨t1,t2⟩:=Ol hs hx;exact t020;split;rename_i t ht;obtain⟨h1,h2,h3⟩:=Ad hs hP n (i+1) ss.tail;obtain⟨t1,t2⟩:=hP t (OX ht);exact t020;obtain⟨h1,h2,h3⟩:=Ad hs hP n (i+1) ss.tail;refine⟨λu hu=>?_,λj hj he=>?_,?_⟩;rcases List.mem_cons.1 hu with rfl|hu;simp;exact h1 u hu;cases j with|zero=>exact aH|succ j=>exact aF _ (by have:=h2 j ω he;rwa[show i+(j+1)=i+1+j by omega])
  rw[show i+(n+1)=i+1+n by omega];exact⟨Int.le_refl _,by show(i:Int)< ((i+1+n:Nat):Int);omega,h3⟩
end
structure IZ(s:RS):Prop where
 some:s.missing≠ []
 head:s.header.length=80
 pos:0<s.jX.length
 le:s.jX.length<=16
 short:∀t∈s.jX,t.length<=610
 asked:∀j,j<s.jX.length->s.jX.getD j []=[]->j∈s.missing
 aot:Ht s.jX.length 0 (ints s.missing)
def ab2{l}{j:Nat}(h:j∈l):(j:Int)∈ints l:=List.mem_map.2 ⟨j,h,rfl⟩
def IZ.lt{s}(h:IZ s){j}(hj:j∈s.missing):j<s.jX.length:=by have:=UW _ _ _ h.aot _ (ab2 hj);omega
def IZ.few{s}(h:IZ s):s.missing.length<=16:=by rcases Nj _ _ _ ω h.aot with h1|h1;rw[pD]at h1;have:=h.le;omega;have:=congrArg List.length h1;rw[pD]at this;simp at this;rw[this];simp
theorem Pp:∀(is:List Nat)(us ts:List B),is.length=us.length->(∀u∈us,u≠ []/\u.length<=610)->(∀t∈ts,t.length<=610)->(∀i∈is,i<ts.length)->(∀j,j<ts.length->ts.getD j []=[]->j∈is)->∀t∈put ts is us,t≠ []/\t.length<=610
 |[],[],ts,_,_,h1,_,h2,t,ht=>by have ht':t∈ts:=ht;refine⟨λe=>?_,h1 t ht'⟩;obtain⟨j,hj,he⟩:=cR.1 ht';have:=h2 j hj (by rw[ab,ag hj];simpa[e]using he);cases this
 |i::is,u::us,ts,hl,hu,h1,gV,h2,t,ht=>by rw[put]at ht;have DK:=hu u aH;have hi:=gV i aH;refine Pp is us (ts.set i u) (by simpa using hl) (λx hx=>hu x (aF _ hx)) (λx hx=>?_) (λx hx=>by rw[aY];exact gV x (aF _ hx)) (λj hj he=>?_) t ht;rcases List.mem_or_eq_of_mem_set hx with hx|rfl;exact h1 x hx;exact DK.2;rw[aY]at hj;by_cases ij:i=j;subst ij;rw[ab,cG hj]at he;exact absurd he DK.1;rw[GM ij]at he;rcases List.mem_cons.1 (h2 j hj he)with rfl|h;exact absurd rfl ij;exact h
 |[],_::_,_,hl,_,_,_,_,_,_=>by simp at hl|_::_,[],_,hl,_,_,_,_,_,_=>by simp at hl
theorem Fu:∀(is:List Nat)(us ts:List B)(k),is.length=us.length->k<is.length->put ts (is.take (k+1)) (us.take (k+1))=(put ts (is.take k) (us.take k)).set (is.getD k 0) (us.getD k [])
 |[],us,ts,k,_,h=>by simp at h|i::is,[],ts,k,hl,_=>by simp at hl|i::is,u::us,ts,0,_,_=>by simp[put]|i::is,u::us,ts,k+1,hl,h=>by rw[aW,aW,put,Fu is us (ts.set i u) k (by simpa using hl) aF0];rfl
theorem Fv:∀(gB:List (Nat×B))(ts)(j),(gB.map (·.1)).Pairwise (· < ·)->(∀p∈gB,p.1<ts.length)->j<ts.length->(put ts (gB.map (·.1)) (gB.map (·.2))).getD j []=(gB.lookup j).getD (ts.getD j [])
 |[],ts,j,_,_,_=>rfl|(a,b)::l,ts,j,nU,gV,hj=>by
  simp only[List.map_cons,bI]at nU;rw[List.map_cons,List.map_cons,put,Fv l (ts.set a b) j nU.2 (λp hp=>by rw[aY];exact gV p (aF _ hp)) (by rw[aY];exact hj),dn];by_cases h:j=a;subst h;have hn:l.lookup j=none:=by cases hx:l.lookup j with|none=>rfl|some t=>have:=nU.1 j (List.mem_map.2 ⟨_,mI hx,rfl⟩);omega
  rw[hn];simp[cG hj,ab];have:(j==a)=false:=by simpa using h
  rw[this];simp only[GM (aG h)]
def nC(f:B->B)(P:List B)(c:Wr.Cb):(Nat×B)×RS:=
 let r:=fill f P c.gB (c.gA.length+c.gB.length) 0 c.gA
 if r.2=[]then(finish c.header r.1,idle)else((1,request c.header r.2),⟨c.header,r.1,r.2⟩)
def Hc{P:List B}{l:B}{c:Wr.Cb}{r:B}(h:Wr.iX l=.ok c r)(hn:c.gA.Nodup):compact P l=((nC (En.short c.header c.ie) P c).1,0,(nC (En.short c.header c.ie) P c).2):=by unfold compact nC;simp only[h,hn,not_true_eq_false,if_false];split<;>rfl
end Cp
end
section
open iz
namespace Wr
def ad6{l u r}(h:body l=.ok u r):r.length+4<=l.length:=by
 unfold body at h;cases h1:take 4 l with
 |bad e=>rw[h1]at h;cases h
 |ok a s=>
 rw[h1,R.jq]at h;have hs:s.length+4=l.length:=by unfold take at h1;split at h1;cases h1;cases h1;rw[aD];omega
 have ht:kT s ((kK 1 4 s).bind λn r=>(rep sk n r).bind λ_ r=>(kK 1 4 r).bind λn r=>(rep lR n r).bind λ_ r=>(take 4 r).void):=(mq _ _ s).bind λn r _=>(vm Ov n r).bind λ_ r _=>(mq _ _ r).bind λn r _=>(vm JD n r).bind λ_ r _=>(jc 4 r).void;have:=ht.le h;omega
def QC{l t r}(h:tx l=.ok t r):t≠ []/\t.length<=610:=by
 unfold tx at h;cases hb:body l with
 |bad e=>rw[hb]at h;cases h
 |ok u s=>rw[hb,R.jq]at h;cases h;have h1:=ad6 hb;have h2:=Cd l u _ hb;refine⟨λe=>?_,?_⟩;have:=congrArg List.length e;rw[aJ]at this;simp at this;omega;rw[aJ];omega
theorem UE:∀n l ts r,jX n l=.ok ts r->ts.length=n/\∀t∈ts,t≠ []/\t.length<=610
 |0,l,ts,r,h=>by cases h;exact⟨rfl,λt ht=>by cases ht⟩
 |n+1,l,ts,r,h=>by
  rw[jX]at h;cases hx:tx l with
  |bad e=>rw[hx]at h;cases h
  |ok t s=>
  rw[hx,R.jq]at h;cases hy:jX n s with
  |bad e=>rw[hy]at h;cases h
  |ok us q=>rw[hy]at h;cases h;obtain⟨h1,h2⟩:=UE n s us _ hy;exact⟨by rw[aq,h1],λx wV=>by rcases List.mem_cons.1 wV with rfl|wV;exact QC hx;exact h2 x wV⟩
def Y9{next bound l i r}(h:index next bound l=.ok i r):next<=i/\i<bound:=by
 unfold index at h;cases hx:size l with
 |bad e=>rw[hx]at h;cases h
 |ok d s=>rw[hx,R.jq]at h;split at h;cases h;cases h;omega
theorem JC bound:∀n next l ps r,iG bound n next l=.ok ps r->ps.length=n/\(ps.map (·.1)).Pairwise (· < ·)/\(∀p∈ps,next<=p.1/\p.1<bound)/\∀p∈ps,p.2≠ []/\p.2.length<=610
 |0,next,l,ps,r,h=>by cases h;exact⟨rfl,List.Pairwise.nil,(λp hp=>by cases hp),λp hp=>by cases hp⟩
 |n+1,next,l,ps,r,h=>by
  rw[iG]at h;cases hx:index next bound l with
  |bad e=>rw[hx]at h;cases h
  |ok i s=>
  rw[hx,R.jq]at h;cases hy:tx s with
  |bad e=>rw[hy]at h;cases h
  |ok t s2=>
  rw[hy,R.jq]at h;cases hz:iG bound n (i+1) s2 with
  |bad e=>rw[hz]at h;cases h
  |ok qs s3=>rw[hz]at h;cases h;obtain⟨h1,h2,h3,h4⟩:=JC bound n (i+1) s2 qs _ hz;have hi:=Y9 hx;refine⟨by rw[aq,h1],?_,?_,?_⟩;rw[List.map_cons,bI];refine⟨λy hy'=>?_,h2⟩;obtain⟨p,hp,rfl⟩:=List.mem_map.1 hy';have:=(h3 p hp).1;dsimp only;omega;intro p hp;rcases List.mem_cons.1 hp with rfl|hp;exact hi;have:=h3 p hp;omega;intro p hp;rcases List.mem_cons.1 hp with rfl|hp;exact QC hy;exact h4 p hp
theorem Jd k:∀n l ss r,jK k n l=.ok ss r->ss.length=n/\∀s∈ss,s.length=k
 |0,l,ss,r,h=>by cases h;exact⟨rfl,λs hs=>by cases hs⟩
 |n+1,l,ss,r,h=>by
  rw[jK]at h;cases hx:take k l with
  |bad e=>rw[hx]at h;cases h
  |ok t s=>
  rw[hx,R.jq]at h;cases hy:jK k n s with
  |bad e=>rw[hy]at h;cases h
  |ok us q=>rw[hy]at h;cases h;obtain⟨h1,h2⟩:=Jd k n s us _ hy;exact⟨by rw[aq,h1],λx wV=>by rcases List.mem_cons.1 wV with rfl|wV;exact Rf.take_len hx;exact h2 x wV⟩
structure arX(c:Cb):Prop where
 head:c.header.length=80
 ie:c.ie.length=8
 pos:0<c.gA.length+c.gB.length
 le:c.gA.length+c.gB.length<=16
 gB:Cp.nN (c.gA.length+c.gB.length) c.gB
 six:∀s∈c.gA,s.length=6
def Eu{l c r}(h:iX l=.ok c r):arX c:=by
 have h:=V7 h;cases h1:take 80 l with
 |bad e=>rw[h1]at h;cases h
 |ok hd s1=>
 rw[h1,R.jq]at h;cases h2:take 8 s1 with
 |bad e=>rw[h2]at h;cases h
 |ok nn s2=>
 rw[h2,R.jq]at h;cases h3:kK 0 16 s2 with
 |bad e=>rw[h3]at h;cases h
 |ok n s3=>
 rw[h3,R.jq]at h;cases h4:jK 6 n s3 with
 |bad e=>rw[h4]at h;cases h
 |ok ss s4=>
 rw[h4,R.jq]at h;cases h5:kK 0 (16-ss.length) s4 with
 |bad e=>rw[h5]at h;cases h
 |ok m s5=>
 rw[h5,R.jq]at h;split at h;cases h;rename_i hz;cases h6:iG (m+ss.length) m 0 s5 with
 |bad e=>rw[h6]at h;cases h
 |ok ps s6=>rw[h6]at h;cases h;obtain⟨e1,e2,e3,e4⟩:=JC _ _ _ _ _ _ h6;obtain⟨e5,e6⟩:=Jd _ _ _ _ _ h4;have l3:=nA h3;have l5:=nA h5;refine⟨Rf.take_len h1,Rf.take_len h2,by dsimp only;omega,by dsimp only;omega,⟨e2,λp hp=>?_,e4⟩,e6⟩;have:=(e3 p hp).2;dsimp only;omega
def af9{l a r}(h:ko l=.ok a r):a.1.length=32/\1<=a.2.length/\a.2.length<=16/\∀t∈a.2,t≠ []/\t.length<=610:=by
 have h:=V7 h;cases h1:take 32 l with
 |bad e=>rw[h1]at h;cases h
 |ok t s=>
 rw[h1,R.jq]at h;cases h2:kK 1 16 s with
 |bad e=>rw[h2]at h;cases h
 |ok n s2=>
 rw[h2,R.jq]at h;cases h3:jX n s2 with
 |bad e=>rw[h3]at h;cases h
 |ok ts s3=>rw[h3]at h;cases h;obtain⟨h4,h5⟩:=UE n s2 ts _ h3;have:=nA h2;exact⟨Rf.take_len h1,by dsimp only;omega,by dsimp only;omega,h5⟩
end Wr
end
