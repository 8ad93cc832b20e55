import Derived.Test.YtlpcjiollnnmgaaGreatDoorM03
import Derived.Maps.Ext
import Derived.Shelf.Sort.Plain
import Derived.Sort.KeysCollected
import Derived.Sort.OwnSorted
import Derived.RangeFuncNested
import Derived.RangeFuncBound
import Derived.Shelf.Slices.CompactS
set_option maxRecDepth 100000
set_option maxHeartbeats 8000000
set_option linter.all false
namespace Go.Proofs.YtlpcjiollnnmgaaGreatDoor
open Go.Proofs.Tryz
section
open Go.RowKit ba
def vzq{P ops rest o a C Q v}(hw:Region.wanted o (yielded ops a.tmps)=true)(hv:∀w,C w->(execOp a.eval o).run P w=.ok (.value v) w) (h:wpQuiet P ops C Q rest (a.put o.dst v)):wpQuiet P ops C Q (o::rest) a:=by unfold wpQuiet;rw[if_pos hw];refine⟨v,λw hC=>?_,h⟩;have:=hv w hC;unfold Oper.quietAt;simp only[this,Oper.quietUpon];first|trivial|exact⟨trivial,trivial⟩|exact⟨rfl,rfl⟩|exact⟨rfl,hC⟩
def Da{P ops rest o a C Q}(hw:Region.wanted o (yielded ops a.tmps)=true) src dst e x(ho:o.op=.convert src dst x) g off n cap l (hl:l.length=n) (hx:a.eval x=.slice (some ⟨g,off,none⟩) n cap) (hs:P.underlying src=some (.slice e)) (he:P.underlying e=some (.int .u8)) (hd:P.underlying dst=some .string) (hb:∀w,C w->Bytes w g off l) (h:wpQuiet P ops C Q rest (a.put o.dst (.string (str l)))):wpQuiet P ops C Q (o::rest) a:=by subst hl;refine vzq hw (λw hC=>?_) h;unfold execOp;simp only[ho,hx];rw[Sem.run_bind,jC w src dst e g off cap l hs he hd (hb w hC)];rfl
def aX:(prog.info? 48).map (·.size)=some 2:=by kernel_rfl
def an(k:Nat)(s:List UInt8):List Value:=[.int .i64 (k:Int),.string (str s)]
def Tb(k:Int)(s:ByteArray):prog.built 48 [(0,.int .i64 k),(1,.string s)]=some #[.int .i64 k,.string s]:=by kernel_rfl
def Tc(k:Int):prog.built 48 [(0,.int .i64 k)]=some #[.int .i64 k,.string ByteArray.empty]:=by kernel_rfl
def Td:prog.built 48 []=some #[.int .i64 0,.string ByteArray.empty]:=by kernel_rfl
def wB{ops:Array Oper}{rest:List Oper}{o:Oper}{a:Act}{w:World}{Q:Exit->Act->World->Prop}(jk:o.guard=none)(x y:Operand)(ho:o.op=.build 48 #[(0,x),(1,y)]) (k:Nat) (s:List UInt8) (hx:a.eval x=.int .i64 (k:Int)) (hy:a.eval y=.string (str s)) (h:wpList prog ops Q rest (a.put o.dst (.agg (an k s).toArray)) w):wpList prog ops Q (o::rest) a w:=by refine wpList_buildTo jk 48 _ ho _ rfl _ ?_ h;simp only[List.map_toArray,List.map_cons,List.map_nil,hx,hy];exact Tb k (str s)
def wC{ops:Array Oper}{rest:List Oper}{o:Oper}{a:Act}{w:World}{Q:Exit->Act->World->Prop}(jk:o.guard=none)(x:Operand)(ho:o.op=.build 48 #[(0,x)]) (k:Nat) (hx:a.eval x=.int .i64 (k:Int)) (h:wpList prog ops Q rest (a.put o.dst (.agg (an k []).toArray)) w):wpList prog ops Q (o::rest) a w:=by refine wpList_buildTo jk 48 _ ho _ rfl _ ?_ h;simp only[List.map_toArray,List.map_cons,List.map_nil,hx];exact Tc k
def nu{ops:Array Oper}{rest:List Oper}{o:Oper}{a:Act}{w:World}{Q:Exit->Act->World->Prop}(jk:o.guard=none)(ho:o.op=.build 48 #[]) (h:wpList prog ops Q rest (a.put o.dst (.agg (an 0 []).toArray)) w):wpList prog ops Q (o::rest) a w:=by refine wpList_buildTo jk 48 _ ho _ rfl _ ?_ h;simp only[List.map_toArray,List.map_nil];exact Td
def adP{w g t}(h:Row w g (ai t)):w.rangeAt g 1 (w8 (Mk.ak t)):=λj v hv=>by rw[h.cell];unfold ai;rw[Nat.add_comm,List.getElem?_cons_succ];exact hv
def ec(mb:Nat)(h:List UInt8)(tv mv:Value):List Value:=[.map (some mb),.string (str h),tv,mv]
def oB(mb:Nat):List Value:=ec mb [] (.slice none 0 0) (.slice none 0 0)
def dw(w:World)(b:Nat)(l:List Value):Prop:=w.heap[b]? =some (.cells l.toArray 41 (0,0))
namespace dw
variable{w w':World}{b:Nat}{l:List Value}
def row(h:dw w b l):Row w b l:=⟨_,h⟩
theorem cell(h:dw w b l) i:w.cell? ⟨b,i,none⟩=l[i]?:=h.row.cell i
theorem free(h:dw w b l) i:w.frozen? ⟨b,i,none⟩=false:=h.row.free i
theorem lt(h:dw w b l):b<w.heap.size:=h.row.lt
def same(h:dw w b l)(e:w'.heap[b]? =w.heap[b]?):dw w' b l:=e.trans h
def set(h:dw w b l) i v:dw (w.setCell ⟨b,i,none⟩ v) b (l.set i v):=by have h':w.heap[b]? =some (.cells l.toArray 41 (0,0)):=h;show(w.setCell ⟨b,i,none⟩ v).heap[b]? =_;simp[World.setCell,Array.getElem?_modify,h']
def other(h:dw w b l){a}(ha:a.block≠b) v:dw (w.setCell a v) b l:=h.same (Below.heap_setCell _ _ _ _ (Ne.symm ha))
def drew(h:dw w b l):dw w.drew b l:=h
def alloc(h:dw w b l) o:dw (w.alloc o) b l:=h.same (Below.heap_alloc _ _ _ h.lt)
def below{B}(h:dw w b l)(hb:Below B w w')(hB:b<B):dw w' b l:=h.same (hb.block b hB)
def aG{g}(h:dw w b l)(hb:b≠g) m:dw (w.setRow g m) b l:=h.same (setRow_other w g b m hb)
end dw
def uB(rb mb:Nat)(h:List UInt8)(tv mv:Value)(ts:List (List UInt8))(C:Nat)(w:World)(hT:cG w)(lQ:1<rb)(hR:dw w rb (ec mb h tv mv))(ho:w.ownsRow C 69 33 tv ts.length (aK ts)) (hs:∀t∈ts,t.length<=610) (h0:0<ts.length) (hn:ts.length<=16) (hl:h.length=80) (Pq:rb<C):Calls prog 28 #[.pointer (some ⟨rb,0,none⟩)] w λe w'=>e=.returned (.agg (an (Cp.finish h ts).1 (Cp.finish h ts).2).toArray)/\dw w' rb (oB mb)/\cA w.heap.size rb w w':=by
 obtain⟨i0,fy,nB,ku,gK⟩:=info_parts Gn;have HI:=η fy;have hb:=hR.lt;have gM:=hT.lt;have HS:=η hs;obtain⟨gb,cb,rfl,atV,yP,hTA⟩:=lY ho h0;have jO:gb≠rb:=by omega
 have rA:Row (w.alloc (.cells (an 0 []).toArray 48)) w.heap.size (an 0 []):=Row.new w _ _;have hB:cA w.heap.size rb w (w.alloc (.cells (an 0 []).toArray 48)):=(cA.refl _ _ _).alloc ν _;rw[show(an 0 []).toArray=#[Value.int .i64 0,.string (str [])]from rfl]at rA hB;have hA1:=η (hR.alloc (.cells #[Value.int .i64 0,.string (str [])] 48));have HT:=η hT;have HTA:=η hTA;clear hT hR hs fy hTA;have FE:=η (show Cp.finish h ts=if(Mk.root (ts.map Mk.ak) false).2=true∨(Mk.root (ts.map Mk.ak) false).1≠(h.drop 36).take 32 then(3,[])else(2,h++(Wr.dD ts.length++ts.flatten))from rfl);obtain⟨fin,iY⟩:∃p,Cp.finish h ts=p:=⟨_,rfl⟩;rw[iY]at FE|-;clear iY;go_enter func28,ntmps28;go_upto_region 2 with fail;generalize World.alloc _ _=w1 at rA hB hA1|-;have lO:=hA1.o.cell 2;rw[show(ec mb h (.slice (some ⟨gb,0,none⟩) ts.length cb) mv)[2]? =some (.slice (some ⟨gb,0,none⟩) ts.length cb)from rfl]at lO;have RA:=η rA;have HB:=η hB;obtain⟨A,hA⟩:∃A,w.heap.size=A:=⟨_,rfl⟩;have HA:=η hA;have anr:=rA.lt;rw[hA]at rA hB anr RA yP hb;clear rA hB;go_wp2_with fail;clear lO;go_loopw [3,5,14] (λsv pv iv wr=>∃i:Nat,i<=ts.length/\iv=.int .i64 i/\wr.ownsRow w1.heap.size 67 32 sv i (w8 ((ts.map Mk.ak).take i).flatten)/\Below w1.heap.size w1 wr) (λ_ _ iv _=>ts.length-(intOf iv).toNat);exact⟨0,by omega,rfl,World.ownsRow_nil _ _ _ _,Below.refl _ _⟩;obtain⟨i,hi,rfl,bL,PJ⟩:=hrel;have B2:=η bL;have B3:=η PJ;have j0:=PJ.size;clear bL PJ;by_cases aM:i<ts.length
 ·have p0:(i:Int)< (ts.length:Int):=by omega
  have yL:(ts.getD i []).length<=610:=HS.o _ (by rw[List.getD_eq_getElem?_getD,List.getElem?_eq_getElem aM];exact List.getElem_mem aM);have qJ:wr.rangeAt gb (33*i) (ai (ts.getD i [])):=rangeAt_of_block (HTA.o i aM) ((B3.o.block gb (by omega)).trans (HB.o.block gb (by rw[HA.o];omega) jO));have htk:=η (show(ts.map Mk.ak).take (i+1)=(ts.map Mk.ak).take i++[Mk.ak (ts.getD i [])]by rw[List.take_succ_eq_append_getElem (by simpa using aM),List.getElem_map,List.getD_eq_getElem?_getD,List.getElem?_eq_getElem aM];rfl);obtain⟨t,Pn⟩:∃t,ts.getD i []=t:=⟨_,rfl⟩;rw[Pn]at yL qJ htk;rw[Nat.mul_comm]at qJ;have r1:Row (wr.alloc (.cells dc.toArray 69)) wr.heap.size dc:=Row.new wr dc 69;have bw:=below_setRow ((Below.refl wr.heap.size wr).alloc ν (.cells dc.toArray 69)) ν (ai t).toArray;have RT:=η (r1.setRow (ai t));have O2:=η (aB B2.o bw ν);have B4:=η (B3.o.trans (bw.mono j0));rw[Tryz.gI]at r1 bw RT O2 B4;have MH:=bw.size;clear bw Pn B2 B3;go_upto_region 5 with(first|(refine vP (o:=⟨some 17,_,_,_,_,_⟩) rfl _ rfl gb (i*33) t rfl qJ ?_)|(with_reducible refine au (o:=⟨none,_,_,_,_,_⟩) rfl _ _ _ rfl wr.heap.size dc (ai t) rfl rfl r1 (cW.trans (by rw[aE])) (by rw[aE,bq]) (aY t) ?_));clear r1 qJ;generalize World.setRow _ _ _=w2 at RT O2 B4 MH|-;obtain⟨T,hTe⟩:∃T,wr.heap.size=T:=⟨_,rfl⟩;rw[hTe]at RT MH j0|-;have Ua:=adP RT.o;have lN:=RT.o.lt;have L1:=η (show∀(j:Nat)(u:Value),(w8 (Mk.ak t))[j]? =some u->(w2.alloc (.cells (w8 (Mk.ak t)).toArray 67)).cell? (Addr.add ⟨w2.heap.size,0,none⟩ j)=some u from λj u hu=>by rw[Addr.add_lit,Nat.zero_add,(Row.new w2 _ _).cell];exact hu);go_wp2_with (first|(refine OX (o:=⟨some 20,_,_,_,_,_⟩) rfl _ rfl T 1 (Mk.ak t) (eM t) rfl Ua ?_)|(refine qP (o:=⟨some 21,_,_,_,_,_⟩) rfl _ rfl (Mk.ak t) (eM t) rfl ?_)|(at_builtin;refine wpList_append_own _ rfl _ _ 124 rfl w1.heap.size 67 i0 (.agg (w8 (List.replicate 32 0)).toArray) 32 32 underlying124 HI.o nB ku gK rfl (by decide) _ _ _ rfl (O2.o.alloc _) ⟨w2.heap.size,0,none⟩ 1 1 (w8 (Mk.ak t)) rfl (by rw[aW,eM]) L1.o (nG _) (by unfold maxLen;omega) (by omega) (by rw[World.size_alloc];omega) ?_;intro TI w3 cB df _;have gG:Below w1.heap.size w2 w3:=((Below.refl w1.heap.size w2).alloc (by omega) _).grown df (by rw[World.size_alloc];omega) (λk hk=>(O2.o.lt k hk).1);have H1:=η cB;have H2:=η gG;clear cB df gG))
  go_roundw
  ·((repeat(apply Exists.intro));(first|refine And.intro ?_ rfl|refine And.intro ?_ ⟨rfl,rfl⟩|refine And.intro ?_ ⟨rfl,rfl,rfl⟩);exact⟨i+1,by omega,by go_num,by rw[htk.o,<-qM];exact H1.o,B4.o.trans H2.o⟩)
  simp[intOf];omega
 obtain rfl:i=ts.length:=by omega
 have hO:=η (show wr.ownsRow w1.heap.size 67 32 u3 ts.length (w8 (ts.map Mk.ak).flatten)by have:=B2.o;rwa[List.take_of_length_le (by simp)]at this);have rT:kz (ts.map Mk.ak):=λd hd=>by obtain⟨t,_,rfl⟩:=List.mem_map.1 hd;exact eM t
 have Xb:(ts.map Mk.ak).length=ts.length:=List.length_map _;obtain⟨g,k,rfl,hg,yO,Ua⟩:=AH hO.o h0 Xb.symm rT;have lD:=Mk.k6 (ts.map Mk.ak) rT (by omega);have hTw:cG wr:=(HB.o.sj HT.o gM lQ).below B3.o (by omega);have CR:=xx g k (ts.map Mk.ak) wr hTw yO Ua rT (by omega) (by omega);rw[Xb]at CR;have C2:=η CR;have RA2:=η (RA.o.below B3.o anr);have RR2:=η (hA1.o.below B3.o hA1.o.lt);have WL:=hA1.o.lt;have O0:=η ho;clear rT Ua hTw CR hO B2 RA hA1 ho Xb;generalize Mk.root (ts.map Mk.ak) false=R at C2 lD FE;obtain⟨r1,r2⟩:=R;dsimp only at FE lD;go_wp2_with fail;refine C2.o.mono ?_;clear C2;rintro e w4⟨rfl,mE⟩;have MH:=mE.size;have B4:=η (B3.o.trans (mE.mono j0));have RA4:=η (RA2.o.below mE (by omega));have RR4:=η (RR2.o.below mE (by omega));clear mE B3 RA2 RR2;have Sx:=Row.new w4 (w8 (List.replicate 32 0)) 67;have XA:=(Below.refl w4.heap.size w4).alloc ν (.cells (w8 (List.replicate 32 0)).toArray 67);have PJ:=below_setRow XA ν (w8 r1).toArray;have RD:=η (Sx.setRow (w8 r1));have B5:=η (B4.o.trans (PJ.mono (by omega)));have RA5:=η (RA4.o.below PJ (by omega));have RR5:=η (RR4.o.below PJ (by omega));rw[Tryz.mm]at Sx RD B5 RA5 RR5;clear XA PJ B4 RA4 RR4;go_upto_region 8 with(with_reducible refine eU (o:=⟨none,_,_,_,_,_⟩) rfl _ _ rfl w4.heap.size (List.replicate 32 0) r1 rfl lD rfl rfl Sx ?_);clear Sx;generalize World.setRow _ _ _=w5 at RD B5 RA5 RR5|-;obtain⟨D,hD⟩:∃D,w4.heap.size=D:=⟨_,rfl⟩;rw[hD]at RD MH|-;have hD5:=RD.o.lt;clear hD;have yl:∀u:ax.Of (λu=>Row u rb (ec mb h (.slice (some ⟨gb,0,none⟩) ts.length cb) mv)),u.w.cell? ⟨rb,1,none⟩=some (.string (str h)):=λu=>u.h.cell 1;have rn:∀u:ax.Of (λu=>Row u rb (ec mb h (.slice (some ⟨gb,0,none⟩) ts.length cb) mv)),u.w.cell? ⟨rb,2,none⟩=some (.slice (some ⟨gb,0,none⟩) ts.length cb):=λu=>u.h.cell 2;haveI cE:Nonempty (ax.Of (λu=>Row u rb (ec mb h (.slice (some ⟨gb,0,none⟩) ts.length cb) mv))):=⟨⟨w5,RR5.o.row⟩⟩;refine ax.bM [0,1,2,3,4,5,6,7,8] 2 mixed (by kernel_rfl) rfl rfl (λc a d v w h=>by cases d<;>exact h) (by as_aux_lemma=>kernel_rfl) rfl (λu=>Row u rb (ec mb h (.slice (some ⟨gb,0,none⟩) ts.length cb) mv)) RR5.o.row.drew ?_;show wpQuiet _ _ _ _ [_,_,_,_,_,_,_,_,_] _;repeat(go_big_quiet_step (fail))
 refine wpQuiet_nil ?_;clear yl rn;have RD6:=η RD.o.drew;have B6:=η B5.o.drew;have RA6:=η RA5.o.drew;have RR6:=η RR5.o.drew;have hD6:D<w5.drew.heap.size:=hD5;clear RD B5 RA5 RR5 hD5;generalize w5.drew=w6 at RD6 B6 RA6 RR6 hD6|-;have Pe:=B6.o.size;have hRb:=Row.new w6 cD 101;have hBb:=(Below.refl w6.heap.size w6).alloc ν (.cells cD.toArray 101);have hBc:=below_setRow hBb ν (pr h (.slice (some ⟨gb,0,none⟩) ts.length cb)).toArray;have RB7:=η (hRb.setRow (pr h (.slice (some ⟨gb,0,none⟩) ts.length cb)));have RD7:=η (RD6.o.below hBc hD6);have B7:=η (B6.o.trans (hBc.mono (by omega)));have RA7:=η (RA6.o.below hBc (by omega));have YO:=η (RR6.o.below hBc (by omega));rw[show cD.toArray=#[Value.string (str []),.slice none 0 0]from rfl]at hRb RB7 RD7 B7 RA7 YO;have hS6:=RR6.o.row.alloc (.cells #[Value.string (str []),.slice none 0 0] 101);clear hBb hBc RD6 B6 RA6 RR6;refine ax.one 9 _ (by kernel_rfl) rfl rfl ?_;try go_frame
 go_wp2_with fail;refine⟨ax.aq hS6,?_⟩;refine ax.one 10 _ (by kernel_rfl) rfl rfl ?_
 refine au rfl _ _ _ rfl w6.heap.size cD (pr h (.slice (some ⟨gb,0,none⟩) ts.length cb)) rfl rfl hRb (bP.trans rfl) rfl (fq h rfl) ?_;clear hRb hS6;generalize World.setRow _ _ _=w7 at RB7 RD7 B7 RA7 YO|-;obtain⟨K,hK⟩:∃K,w6.heap.size=K:=⟨_,rfl⟩;rw[hK]at RB7 hD6 Pe|-;clear hK;have hK7:=RB7.o.lt;refine⟨ax.aq YO.o.row,?_⟩;refine wpAnyH_done (by kernel_rfl) ?_ 0;try go_frame
 have f1:=YO.o.free 1;have f2:=YO.o.free 2;have f3:=YO.o.free 3;have c1:=YO.o.cell 1;have c2:=YO.o.cell 2;have c3:=YO.o.cell 3;have RR8:=η (show dw (((w7.setCell ⟨rb,1,none⟩ (.string (str []))).setCell ⟨rb,2,none⟩ (.slice none 0 0)).setCell ⟨rb,3,none⟩ (.slice none 0 0)) rb (oB mb)from((YO.o.set 1 (.string (str []))).set 2 (.slice none 0 0)).set 3 (.slice none 0 0));go_upto_region 10 with fail;have NB:=η (show cA w.heap.size rb w (((w7.setCell ⟨rb,1,none⟩ (.string (str []))).setCell ⟨rb,2,none⟩ (.slice none 0 0)).setCell ⟨rb,3,none⟩ (.slice none 0 0))from(((HB.o.trans (cA.aH (B7.o.mono HB.o.size))).et 1 _).et 2 _).et 3 _);have YQ:=η (((RD7.o.other (show rb≠D by omega) _).other (show rb≠D by omega) _).other (show rb≠D by omega) _:Row (((w7.setCell ⟨rb,1,none⟩ (.string (str []))).setCell ⟨rb,2,none⟩ (.slice none 0 0)).setCell ⟨rb,3,none⟩ (.slice none 0 0)) D _);have Ui:=η (((RB7.o.other (show rb≠K by omega) _).other (show rb≠K by omega) _).other (show rb≠K by omega) _:Row (((w7.setCell ⟨rb,1,none⟩ (.string (str []))).setCell ⟨rb,2,none⟩ (.slice none 0 0)).setCell ⟨rb,3,none⟩ (.slice none 0 0)) K _);have RA8:=η (((RA7.o.other (show rb≠A by omega) _).other (show rb≠A by omega) _).other (show rb≠A by omega) _:Row (((w7.setCell ⟨rb,1,none⟩ (.string (str []))).setCell ⟨rb,2,none⟩ (.slice none 0 0)).setCell ⟨rb,3,none⟩ (.slice none 0 0)) A _);clear f1 f2 f3 c1 c2 c3 RD7 RB7 RA7 YO B7;have as9:K< (((w7.setCell ⟨rb,1,none⟩ (.string (str []))).setCell ⟨rb,2,none⟩ (.slice none 0 0)).setCell ⟨rb,3,none⟩ (.slice none 0 0)).heap.size:=Ui.o.lt;generalize World.setCell _ _ _=w8' at NB YQ Ui RA8 RR8 as9|-;have O8:=η (gh O0.o NB.o Pq);by_cases hm:r2=true
 ·subst hm;have FE2:=η (show fin=(3,[])by rw[FE.o,if_pos (.inl rfl)]);haveI cE:Nonempty (ax.Of (λu=>Row u D (w8 r1)/\Row u K (pr h (.slice (some ⟨gb,0,none⟩) ts.length cb)))):=⟨⟨w8',YQ.o,Ui.o⟩⟩;refine ax.bM [0,1,2,3,4,5,6,7] 1 mixed (by kernel_rfl) rfl rfl (λc a d v w h=>by cases d<;>exact h) (by as_aux_lemma=>kernel_rfl) rfl (λu=>Row u D (w8 r1)/\Row u K (pr h (.slice (some ⟨gb,0,none⟩) ts.length cb))) ⟨YQ.o.drew,Ui.o.drew⟩ ?_;show wpQuiet _ _ _ _ [_,_,_,_,_,_,_,_] _;repeat(go_big_quiet_step (fail))
  refine wpQuiet_nil ?_;have RD9:=η YQ.o.drew;have NB9:=η NB.o.drew;have RA9:=η RA8.o.drew;have RR9:=η RR8.o.drew;have RB9:=η Ui.o.drew;have O9:=η (show w8'.drew.ownsRow C 69 33 (.slice (some ⟨gb,0,none⟩) ts.length cb) ts.length (aK ts)from O8.o);clear YQ NB RA8 RR8 Ui O8;generalize w8'.drew=w9 at RD9 NB9 RA9 RR9 RB9 O9|-;have S9:ax.cls (λu=>Row u D (w8 r1)/\Row u K (pr h (.slice (some ⟨gb,0,none⟩) ts.length cb))) w9:=ax.aq ⟨RD9.o,RB9.o⟩;refine ax.one 8 _ (by kernel_rfl) rfl rfl ?_;try go_frame
  go_wp2_with fail;refine⟨S9,?_⟩;refine wpAnyH_done (by kernel_rfl) ?_ 0
  try go_frame
  have hAr:A≠rb:=by omega
  have ZQ:=RA9.o;go_wp2_with (first|(refine wC (o:=⟨some 56,_,_,_,_,_⟩) rfl _ rfl 3 rfl ?_)|(with_reducible refine au (o:=⟨none,_,_,_,_,_⟩) rfl _ _ _ rfl A (an 0 []) (an 3 []) rfl rfl ZQ (aX.trans rfl) rfl rfl ?_));obtain⟨T2,BO⟩:=ZQ.setRow (an 3 []);refine bodyPost_ret (v:=.agg (an 3 []).toArray) (results_cell_row (fn:=Tryz.f28) rfl _ _ A T2 _ (0,0) _ rfl BO underlying48 rfl (aX.trans rfl)) rfl ?_;exact⟨by rw[FE2.o],RR9.o.aG (by omega) _,NB9.o.trans (cA.aH (below_setRow (Below.refl _ _) (by rw[HA.o];omega) _))⟩
 obtain rfl:r2=false:=by simpa using hm
 clear hm;have Gp:∀u:ax.Of (λu=>Row u D (w8 r1)/\Row u K (pr h (.slice (some ⟨gb,0,none⟩) ts.length cb))),u.w.cell? ⟨K,0,none⟩=some (.string (str h)):=λu=>u.h.2.cell 0;haveI cE:Nonempty (ax.Of (λu=>Row u D (w8 r1)/\Row u K (pr h (.slice (some ⟨gb,0,none⟩) ts.length cb)))):=⟨⟨w8',YQ.o,Ui.o⟩⟩;refine ax.bM [0,1,2,3,4,5,6,7] 1 mixed (by kernel_rfl) rfl rfl (λc a d v w h=>by cases d<;>exact h) (by as_aux_lemma=>kernel_rfl) rfl (λu=>Row u D (w8 r1)/\Row u K (pr h (.slice (some ⟨gb,0,none⟩) ts.length cb))) ⟨YQ.o.drew,Ui.o.drew⟩ ?_;show wpQuiet _ _ _ _ [_,_,_,_,_,_,_,_] _;go_big_quiet_step (fail);go_big_quiet_step (fail);go_big_quiet_step (fail);refine Da (o:=⟨some 50,_,_,_,_,_⟩) rfl 64 9 5 _ rfl D 0 32 32 r1 lD rfl underlying64 underlying5 underlying9 (λw hw=>by obtain⟨u,rfl⟩:=hw;exact u.h.1.bytes) ?_;go_frame;repeat(go_big_quiet_step (fail))
 refine wpQuiet_nil ?_;by_cases hq:r1=(h.drop 36).take 32
 ·have FE2:=η (show fin=(2,h++Mk.iX ts)by rw[FE.o,if_neg (by simp[hq])];rfl);rw[show(!(r1==List.take 32 (List.drop 36 h)))=false by simp[hq]];have RD9:=η YQ.o.drew;have NB9:=η NB.o.drew;have RA9:=η RA8.o.drew;have RR9:=η RR8.o.drew;have RB9:=η Ui.o.drew;have O9:=η (show w8'.drew.ownsRow C 69 33 (.slice (some ⟨gb,0,none⟩) ts.length cb) ts.length (aK ts)from O8.o);clear YQ NB RA8 RR8 Ui O8;generalize w8'.drew=w9 at RD9 NB9 RA9 RR9 RB9 O9|-;have S9:ax.cls (λu=>Row u D (w8 r1)/\Row u K (pr h (.slice (some ⟨gb,0,none⟩) ts.length cb))) w9:=ax.aq ⟨RD9.o,RB9.o⟩;refine ax.one 8 _ (by kernel_rfl) rfl rfl ?_;try go_frame
  go_wp2_with fail;refine⟨S9,?_⟩;refine wpAnyH_done (by kernel_rfl) ?_ 0
  try go_frame
  have hAr:A≠rb:=by omega
  have ZQ:=RA9.o;have BB:=η (wE h (.slice (some ⟨gb,0,none⟩) ts.length cb) ts C w9 O9.o HS.o (by omega) (by omega));have rK:=RB9.o;clear O9 FE HS;generalize h++Mk.iX ts=bs at FE2 BB;go_wp2_with (refine dW (o:=⟨some 57,_,_,_,_,_⟩) rfl _ _ rfl K (pr h (.slice (some ⟨gb,0,none⟩) ts.length cb)) rfl rK _ underlying101 (bP.trans rfl) _ rfl ?_);refine BB.o.mono ?_;rintro e Y0⟨rfl,pR⟩;have ak3:=ZQ.below pR ZQ.lt;have avL:=RR9.o.below pR RR9.o.lt;have avU:=NB9.o.trans (cA.aH (pR.mono NB9.o.size));clear ZQ;go_wp2_with (first|(refine wB (o:=⟨some 59,_,_,_,_,_⟩) rfl _ _ rfl 2 bs rfl rfl ?_)|(with_reducible refine au (o:=⟨none,_,_,_,_,_⟩) rfl _ _ _ rfl A (an 0 []) (an 2 bs) rfl rfl ak3 (aX.trans rfl) rfl rfl ?_));obtain⟨T2,BO⟩:=ak3.setRow (an 2 bs);refine bodyPost_ret (v:=.agg (an 2 bs).toArray) (results_cell_row (fn:=Tryz.f28) rfl _ _ A T2 _ (0,0) _ rfl BO underlying48 rfl (aX.trans rfl)) rfl ?_;exact⟨by rw[FE2.o],avL.aG (by omega) _,avU.trans (cA.aH (below_setRow (Below.refl _ _) (by rw[HA.o];omega) _))⟩
 have FE2:=η (show fin=(3,[])by rw[FE.o,if_pos (.inr hq)]);rw[show(!(r1==List.take 32 (List.drop 36 h)))=true by simp[hq]];have RD9:=η YQ.o.drew;have NB9:=η NB.o.drew;have RA9:=η RA8.o.drew;have RR9:=η RR8.o.drew;have RB9:=η Ui.o.drew;have O9:=η (show w8'.drew.ownsRow C 69 33 (.slice (some ⟨gb,0,none⟩) ts.length cb) ts.length (aK ts)from O8.o);clear YQ NB RA8 RR8 Ui O8;generalize w8'.drew=w9 at RD9 NB9 RA9 RR9 RB9 O9|-;have S9:ax.cls (λu=>Row u D (w8 r1)/\Row u K (pr h (.slice (some ⟨gb,0,none⟩) ts.length cb))) w9:=ax.aq ⟨RD9.o,RB9.o⟩;refine ax.one 8 _ (by kernel_rfl) rfl rfl ?_;try go_frame
 go_wp2_with fail;refine⟨S9,?_⟩;refine wpAnyH_done (by kernel_rfl) ?_ 0
 try go_frame
 have hAr:A≠rb:=by omega
 have ZQ:=RA9.o;go_wp2_with (first|(refine wC (o:=⟨some 56,_,_,_,_,_⟩) rfl _ rfl 3 rfl ?_)|(with_reducible refine au (o:=⟨none,_,_,_,_,_⟩) rfl _ _ _ rfl A (an 0 []) (an 3 []) rfl rfl ZQ (aX.trans rfl) rfl rfl ?_));obtain⟨T2,BO⟩:=ZQ.setRow (an 3 []);refine bodyPost_ret (v:=.agg (an 3 []).toArray) (results_cell_row (fn:=Tryz.f28) rfl _ _ A T2 _ (0,0) _ rfl BO underlying48 rfl (aX.trans rfl)) rfl ?_;exact⟨by rw[FE2.o],RR9.o.aG (by omega) _,NB9.o.trans (cA.aH (below_setRow (Below.refl _ _) (by rw[HA.o];omega) _))⟩
end
section
namespace Pl
abbrev B:=List UInt8
def sI(a:B):¬a<a:=List.lt_irrefl a
def V6{a b c:B}(h:a<b)(k:b<c):a<c:=List.lt_trans h k
def V5(a b:B):a<b∨a=b∨b<a:=by by_cases h:a<b;exact .inl h;by_cases k:b<a;exact .inr (.inr k);exact .inr (.inl (List.le_antisymm (List.not_lt.1 k) (List.not_lt.1 h)))
variable(key:B->B)
def at'(id:B):List B->Nat×Bool
 |[]=>(0,false)|x::l=>if key x<id then((at' id l).1+1,(at' id l).2)else(0,key x==id)
def Up(l:List B):Prop:=l.Pairwise λx y=>key x<key y
def ins(t:B)(l:List B):List B:=l.take (at' key (key t) l).1++[t]++l.drop (at' key (key t) l).1
theorem at_mem id:∀l,Up key l->((at' key id l).2=true↔ ∃t∈l,key t=id)
 |[],_=>by simp[at']|x::l,h=>by obtain⟨h1,h2⟩:=List.pairwise_cons.1 h;rw[at'];by_cases hx:key x<id;rw[if_pos hx];dsimp only;rw[at_mem id l h2];constructor;rintro⟨t,ht,e⟩;exact⟨t,List.mem_cons_of_mem _ ht,e⟩;rintro⟨t,ht,e⟩;rcases List.mem_cons.1 ht with rfl|ht;rw[e]at hx;exact absurd hx (sI _);exact⟨t,ht,e⟩;rw[if_neg hx];dsimp only;rw[beq_iff_eq];constructor;intro e;exact⟨x,List.mem_cons_self,e⟩;rintro⟨t,ht,e⟩;rcases List.mem_cons.1 ht with rfl|ht;exact e;exact absurd (e▸h1 t ht) hx
def Pb t:ins key t []=[t]:=rfl
def ud t x l:ins key t (x::l)=if key x<key t then x::ins key t l else t::x::l:=by unfold ins;rw[at'];split;simp;simp
theorem n5 t:∀l x,x∈ins key t l↔x=t∨x∈l
 |[],x=>by simp[Pb]|y::l,x=>by rw[ud];split;rw[List.mem_cons,n5 t l,List.mem_cons];constructor;rintro(h|h|h);exact .inr (.inl h);exact .inl h;exact .inr (.inr h);rintro(h|h|h);exact .inr (.inl h);exact .inl h;exact .inr (.inr h);rw[List.mem_cons]
theorem Gl t:∀l,(ins key t l).length=l.length+1
 |[]=>rfl|x::l=>by rw[ud];split;simp[Gl t l];simp
theorem Wj t:∀l,Up key l->(at' key (key t) l).2=false->Up key (ins key t l)
 |[],_,_=>by rw[Pb];exact List.pairwise_singleton _ _|x::l,h,hn=>by
  obtain⟨h1,h2⟩:=List.pairwise_cons.1 h;rw[ud];rw[at']at hn;by_cases hx:key x<key t;rw[if_pos hx]at hn|-;refine List.pairwise_cons.2 ⟨λy hy=>?_,Wj t l h2 hn⟩;rcases(n5 key t l y).1 hy with rfl|hy;exact hx;exact h1 y hy;rw[if_neg hx]at hn|-;have cE:key x≠key t:=by simpa using hn
  have aM:key t<key x:=by rcases V5 (key x) (key t)with h|h|h;exact absurd h hx;exact absurd h cE;exact h
  refine List.pairwise_cons.2 ⟨λy hy=>?_,h⟩;rcases List.mem_cons.1 hy with rfl|hy;exact aM;exact V6 aM (h1 y hy)
def aas l(h:Up key l):(l.map key).Pairwise (· < ·):=List.pairwise_map.2 h
end Pl
end
section
open ba
open Go.RowKit
namespace Mp
abbrev B:=List UInt8
def XS:List Value->List UInt8->Bool
 |[],[]=>true|.int .u8 x::l,y::m=>decide (x=Y y)&&XS l m|_,_=>false
theorem Kl:∀m,XS (w8 m) m=true
 |[]=>rfl|y::m=>by show(decide (Y y=Y y)&&XS (w8 m) m)=true;rw[Kl m];simp
theorem Nq:∀l m,XS l m=true->l=w8 m
 |[],[],_=>rfl|[],_::_,h=>by simp[XS]at h|v::l,[],h=>by cases v<;>simp[XS]at h
 |v::l,y::m,h=>by
  cases v<;>try(simp[XS]at h;done)
  rename_i k x;cases k<;>try(simp[XS]at h;done)
  simp only[XS,Bool.and_eq_true,decide_eq_true_eq]at h;obtain⟨rfl,h2⟩:=h;rw[Nq l m h2];rfl
def wK(v:Value):Option (DataW Unit×List MemPlace):=match v with
 |.agg a=>match a.toList with
  |.string s::l=>if XS l (Mk.ak s.data.toList)then some (.lit (.string s.data.toList),[])else if s.data.toList.isEmpty&&XS l (List.replicate 32 0)then some (.nil,[])else none
  |_=>none
 |_=>none
def UM t:(str t).data.toList=t:=by unfold str;simp
def adS t:wK (Fp t)=some (.lit (.string t),[]):=by unfold wK Fp ai;simp only[UM,Kl,if_true]
def wL s:str s.data.toList=s:=by unfold str;simp
def Fq{v z}(h:wK v=some z):(∃t,v=Fp t/\z=(.lit (.string t),[]))∨(v=.agg dc.toArray/\z=(.nil,[])):=by
 unfold wK at h;cases v with
 |agg a=>
 dsimp only at h;split at h;rename_i s l hl;split at h;rename_i he;left;refine⟨s.data.toList,?_,(Option.some.inj h).symm⟩;unfold Fp ai;rw[wL,<-Nq _ _ he,<-hl];split at h;rename_i he;simp only[Bool.and_eq_true,List.isEmpty_iff]at he;right;refine⟨?_,(Option.some.inj h).symm⟩;have h1:s=str []:=by rw[<-wL s,he.1]
 have h2:a.toList=dc:=by rw[hl,Nq _ _ he.2,h1];rfl
 rw[<-h2];cases h;cases h
 |_=>cases h
def Dr d:keyBytes (lits d)=d:=by
 unfold keyBytes lits;induction d with
 |nil=>rfl|cons x l ih=>
 rw[List.map_cons,List.flatMap_cons,ih];have:Lit.keyBytes (.int .u8 (Y x))=[x]:=by
  have e:(Y x % 2^IntKind.u8.bits).toNat=x.toNat:=by have:x.toNat<256:=x.toNat_lt;unfold Y;simp[IntKind.bits];omega
  show bytesBE (IntKind.u8.bits/8) (Y x % 2^IntKind.u8.bits).toNat=[x];rw[e];simp[bytesBE,bytesLE,IntKind.bits]
 rw[this];rfl
def Bf(d:B)(h:d.length=32):keyOf prog 67 (.agg (w8 d).toArray)=some (.string d):=by obtain⟨n,hn⟩:∃n,prog.types.size+1=n+2:=⟨prog.types.size-1,by kernel_rfl⟩;unfold keyOf;simp only[underlying67,vY d h,show prog.keyType 67=true by kernel_rfl,Bool.and_self,if_true];rw[hn,show(Value.agg (w8 d).toArray).cells.toList=w8 d by simp[Value.cells],sK n d h];simp only[Option.map_some,Dr]
def uE(P:List B):List (Lit×DataW Unit):=P.map λt=>(Lit.string (Mk.ak t),DataW.lit (.string t))
def D(P:List B):DataW Unit:=.map (uE P)
theorem Cx:∀a b,bytesBefore a b=decide (a<b)
 |[],[]=>by simp[bytesBefore]|[],_::_=>by simp[bytesBefore]|_::_,[]=>by simp[bytesBefore]|a::r,b::s=>by rw[bytesBefore,Cx r s,Bool.eq_iff_iff];simp[List.cons_lt_cons_iff]
def mT a b:(Lit.string a).sameKey (.string b)=(a==b):=by simp[Lit.sameKey]
def JZ P id(h:Pl.Up Mk.ak P):Maps.has (D P) (.string id)=(Pl.at' Mk.ak id P).2:=by rw[Bool.eq_iff_iff,Pl.at_mem Mk.ak id P h];show(uE P).any _=true↔_;simp[uE,mT]
def u7 P:Maps.size (D P)=P.length:=by show(uE P).length=_;simp[uE]
theorem JH t:∀P,(∀y∈P,Mk.ak y≠Mk.ak t)->DataW.insert (Lit.string (Mk.ak t),DataW.lit (.string t)) (uE P)=uE (Pl.ins Mk.ak t P)
 |[],_=>rfl|y::l,h=>by have ih:=JH t l λz hz=>h z (List.mem_cons_of_mem _ hz);have hy:=h y List.mem_cons_self;rw[Pl.ud];show(if(Lit.string (Mk.ak t)).before (.string (Mk.ak y))then _ else _::DataW.insert _ (uE l))=_;rw[ih];have hb:(Lit.string (Mk.ak t)).before (.string (Mk.ak y))=decide (Mk.ak t<Mk.ak y):=Cx _ _;rw[hb];rcases Pl.V5 (Mk.ak y) (Mk.ak t)with h1|h1|h1;have h2:¬Mk.ak t<Mk.ak y:=λh3=>Pl.sI _ (Pl.V6 h1 h3);rw[if_pos h1,if_neg (by simpa using h2)];rfl;exact absurd h1 hy;have h2:¬Mk.ak y<Mk.ak t:=λh3=>Pl.sI _ (Pl.V6 h1 h3);rw[if_neg h2,if_pos (by simpa using h1)];rfl
def Vt t P(h:Pl.Up Mk.ak P)(hn:(Pl.at' Mk.ak (Mk.ak t) P).2=false):(D P).put (.string (Mk.ak t)) (.lit (.string t))=D (Pl.ins Mk.ak t P):=by
 have cE:∀y∈P,Mk.ak y≠Mk.ak t:=λy hy e=>by rw[(Pl.at_mem Mk.ak (Mk.ak t) P h).2 ⟨y,hy,e⟩]at hn;cases hn
 show DataW.map (DataW.insert _ ((uE P).filter _))=_;rw[List.filter_eq_self.2 λp hp=>?_,JH t P cE];· rfl
 obtain⟨y,hy,rfl⟩:=List.mem_map.1 hp;simp[mT,cE y hy]
def alc:laidOutB prog=true:=by kernel_rfl
def law:Maps.Keyed prog 67:=.of_law (deep_law_laid alc (m:=2) (by omega) (of_decide_eq_true (by kernel_rfl)) (by kernel_rfl) (by kernel_rfl))
structure Map(w:World)(m:Nat)(P:List B):Prop where
 own:w.ownsMap prog 67 wK m 20 (D P)
 up:Pl.Up Mk.ak P
 le:P.length<=20
 short:∀t∈P,t.length<=610
end Mp
namespace ax
def akR{P ops Q S fuel L a w} i o v(hi:ops[i]? =some o)(hg:o.guard=none)(mD:Region.noSelect ops=true) (hB:tf ops [i] L=true) (hQ:∀c (a:Act) d v w,Q (.panic c) (a.put d v) w->Q (.panic c) a w) (hy:∀w,S w->(execOp a.eval o).run P w=.ok (.value v) w) (hS:S w) (h:wpAnyH P .any ops Q S fuel (L.setIfInBounds i true) (a.put o.dst v) w):wpAnyH P .any ops Q S (fuel+1) L a w:=by simp only[tf,Bool.and_eq_true,Bool.and_true]at hB;exact wpAnyH_take hi mD hB.2 hB.1 (λc a w hq=>hQ c _ _ _ w hq) (.inl ⟨by simp[Region.wanted,hg],hy⟩) hS h
def sJ{P ev o w v t x k c}(cI:o.op=.lookup t x k c)(h:(Instr.lookup t (ev x) (ev k) c).run P w=.ok v w):(execOp ev o).run P w=.ok (.value v) w:=by unfold execOp;simp only[cI,Sem.run_bind,h,Result.andThen_ok,Sem.run_pure]
end ax
namespace Mp
def gI(w:World):(zeroValue 69).run prog w=.ok (.agg dc.toArray) w:=by kernel_rfl
def V8{w0:World}{m:Nat}{P:List B}(h:w0.ownsMap prog 67 wK m 20 (D P))(mg:Pl.Up Mk.ak P)(d:B)(hd:d.length=32):∃(es:Array MapEntry)(clock:Nat)(cs:List Value),w0.heap[m]? =some (.map es clock)/\cs.length=33/\cs.all (·.oneCell')=true/\∀w:World,w.heap[m]? =some (.map es clock)->(Instr.lookup 35 (.map (some m)) (.agg (w8 d).toArray) true).run prog w=.ok (.tuple #[.agg cs.toArray,.bool (Pl.at' Mk.ak d P).2]) w:=by
 have amg:=JZ P d mg;obtain⟨es,clock,hb,F,hs,hD⟩:=h;have vT:=Bf d hd;have hpw:=((Go.MapKept.stamped_iff es clock).1 F.stamped).2.2;have look:=λ(w:World) (hw:w.heap[m]? =some (.map es clock))=>Maps.fit_look true law underlying35 (gI w) hw F vT;rcases look w0 hb with⟨_,um,nj⟩|⟨e0,y,hm0,hk0,_,hR,nj,_⟩;refine⟨es,clock,dc,hb,bq,by decide +kernel,λw hw=>?_⟩;rw[<-amg,hD,Maps.has_false_of_atKey nj];rcases look w hw with⟨cF,_,_⟩|⟨e1,_,Xd,TV,_⟩;exact cF;exact absurd TV (um e1 Xd);have dL:∃cs:List Value,e0.val=.agg cs.toArray/\cs.length=33/\cs.all (·.oneCell')=true:=by rcases Fq hR with⟨t,ht,_⟩|⟨ht,_⟩;exact⟨ai t,ht,aE t,aY t⟩;exact⟨dc,ht,bq,by decide +kernel⟩
 obtain⟨cs,hv,hl,h1⟩:=dL;refine⟨es,clock,cs,hb,hl,h1,λw hw=>?_⟩;rw[<-amg,hD,Maps.has_true_of_atKey nj,<-hv];rcases look w hw with⟨_,um,_⟩|⟨e1,_,Xd,TV,cF,_⟩;exact absurd hk0 (um e0 hm0);have:e1=e0:=by obtain⟨i,hi,rfl⟩:=List.mem_iff_getElem.1 Xd;obtain⟨j,hj,rfl⟩:=List.mem_iff_getElem.1 hm0;rcases Nat.lt_trichotomy i j with h|h|h;exact absurd (TV.trans hk0.symm) (List.pairwise_iff_getElem.1 hpw i j hi hj h);subst h;rfl;exact absurd (hk0.trans TV.symm) (List.pairwise_iff_getElem.1 hpw j i hj hi h)
 rw[this]at cF;exact cF
def Map.new(w:World):Map (w.alloc (.map #[] 0)) w.heap.size [] where
 own:=(World.ownsMap_made w _ _ _).mono (by omega);up:=List.Pairwise.nil;le:=by simp
 short:=λt ht=>by cases ht
theorem Map.alloc{w m P}(h:Map w m P) o:Map (w.alloc o) m P:=⟨h.own.alloc o,h.up,h.le,h.short⟩
theorem Map.lt{w m P}(h:Map w m P):m<w.heap.size:=h.own.lt
def Rm{w w':World}{m n:Nat}{D:DataW Unit}(h:w.ownsMap prog 67 wK m n D)(hb:w'.heap[m]? =w.heap[m]?):w'.ownsMap prog 67 wK m n D:=by obtain⟨es,clock,h1,r⟩:=h;exact⟨es,clock,hb.trans h1,r⟩
def Map.block{w w' m P}(h:Map w m P)(hb:w'.heap[m]? =w.heap[m]?):Map w' m P:=⟨Rm h.own hb,h.up,h.le,h.short⟩
def Map.below{B w w' m P}(h:Map w m P)(hb:Below B w w')(hm:m<B):Map w' m P:=h.block (hb.block m hm)
def Rk{w:World}{m n n':Nat}{D:DataW Unit}(h:w.ownsMap prog 67 wK m n D)(hs:Maps.size D<=n'):w.ownsMap prog 67 wK m n' D:=by obtain⟨es,clock,hb,F,_,hD⟩:=h;refine⟨es,clock,hb,F,?_,hD⟩;rw[hD]at hs;simpa[Maps.size,length_sorted]using hs
def DG{w w' m B}(h:w.mapTurned w' m):cA B m w w':=by obtain⟨es,clock,iy,lJ,hb,rfl⟩:=h;exact⟨rfl,rfl,rfl,by simp[Go.ChangeMaps.setBlock],λk _ hk=>Go.ChangeMaps.heap_setBlock_other hb _ hk⟩
def Ae{ops:Array Oper}{rest:List Oper}{o:Oper}{a:Act}{C:World->Prop}{Q:Act->Prop}(jk:o.guard=none)(x:Operand)(ho:o.op=.load 69 x) (g off:Nat) (t:List UInt8) (hx:a.eval x=.pointer (some ⟨g,off,none⟩)) (hr:∀w,C w->w.rangeAt g off (ai t)) (h:wpQuiet prog ops C Q rest (a.put o.dst (Fp t))):wpQuiet prog ops C Q (o::rest) a:=by unfold wpQuiet;rw[if_pos (by simp[Region.wanted,jk])];refine⟨_,λw hw=>?_,h⟩;have:=run_loadAt_mid (P:=prog) w g off 69 (ai t) _ (hr w hw) underlying69 rfl (by rw[cW,aE]);unfold Oper.quietAt execOp;simp only[ho,hx,Sem.run_bind,this,Result.andThen_ok,Sem.run_pure,Oper.quietUpon];first|trivial|exact⟨trivial,trivial⟩|exact⟨rfl,rfl⟩|exact⟨rfl,hw⟩
end Mp
namespace Mp
def FQ{l t r}(h:Wr.cN l=.ok t r):t=l/\l.length<=610:=by
 have h':(Wr.tx l).bind (λa r=>if r=[]then .ok a r else .bad 5)=.ok t r:=h;unfold Wr.tx at h';cases hb:Wr.body l with
 |bad e=>rw[hb]at h';cases h'
 |ok u s=>rw[hb]at h';have h2:(if s=[]then(.ok (l.take (l.length-s.length)) s:Wr.R (List UInt8))else .bad 5)=.ok t r:=h';by_cases hs:s=[];rw[if_pos hs]at h2;subst hs;have hl:=Wr.wD l u _ hb;cases h2;simp at hl|-;exact hl;rw[if_neg hs]at h2;cases h2
def nM{l t r}(h:Wr.cN l=.ok t r):t.length<=610:=by obtain⟨rfl,h2⟩:=FQ h;exact h2
def GU(P:List B)(x:Wr.R (List UInt8)):Nat:=match x with
 |.bad n=>n
 |.ok t _=>if(Pl.at' Mk.ak (Mk.ak t) P).2 then 10 else if P.length=20 then 9 else 0
def CA(P:List B)(x:Wr.R (List UInt8)):List B:=match x with
 |.bad _=>P
 |.ok t _=>if(Pl.at' Mk.ak (Mk.ak t) P).2 then P else if P.length=20 then P else Pl.ins Mk.ak t P
end Mp
def CK(r A m:Nat)(cs:List Value)(o:Obj)(u:World):Prop:=u.cell? ⟨r,0,none⟩=some (.map (some m))/\Row u A cs/\u.heap[m]? =some o
def CK.load{r A m t o u}(h:CK r A m (ai t) o u):u.rangeAt A 1 (w8 (Mk.ak t)):=λj v hv=>by rw[h.2.1.cell,Nat.add_comm];unfold ai;rw[List.getElem?_cons_succ];exact hv
def CK.mono{r A m cs o u u'}(h:CK r A m cs o u)(hb:∀k,k<u.heap.size->u'.heap[k]? =u.heap[k]?):CK r A m cs o u':=⟨(World.cell?_of_block (w:=u) (hb r (World.block_lt_of_cell? _ _ h.1))).trans h.1,h.2.1.imp λ_ h'=>(hb A h.2.1.lt).trans h',(hb m (Array.getElem?_eq_some_iff.1 h.2.2).1).trans h.2.2⟩
def NP(r A m:Nat)(cs:List Value)(u:World):Prop:=u.cell? ⟨r,0,none⟩=some (.map (some m))/\Row u A cs
def NP.load{r A m t u}(h:NP r A m (ai t) u):u.rangeAt A 1 (w8 (Mk.ak t)):=λj v hv=>by rw[h.2.cell,Nat.add_comm];unfold ai;rw[List.getElem?_cons_succ];exact hv
def Ts(l:List UInt8)(r m:Nat)(P:List Mp.B)(w:World)(hT:cG w)(hl:l.length<=9223372036854775807)(hr:w.cell? ⟨r,0,none⟩=some (.map (some m)))(hM:Mp.Map w m P)(hrw:r<w.heap.size)(hrm:r≠m):Calls prog 10 #[.pointer (some ⟨r,0,none⟩),.string (str l)] w λe w'=>e=.returned (.int .i64 (Mp.GU P (Wr.cN l):Int))/\Mp.Map w' m (Mp.CA P (Wr.cN l))/\cA w.heap.size m w w':=by
 have gM:=hT.lt;have T1:=η (rE l w hT hl);have HM:=η hM;have hmw:=hM.lt;have HR:=η hr;clear hT hM hr;go_enter func10,ntmps10;go_wp2_with fail;refine T1.o.mono ?_;clear T1;cases hx:Wr.cN l with
 |bad n=>
 rintro e w1⟨rfl,hb⟩;have hn:=zY hx;have p1:¬(n:Int)=0:=by omega
 have EQ:=η hx;obtain⟨cs,hE,pO,Ib⟩:∃cs:List Value,LW (.bad n)=.tuple #[.agg cs.toArray,.int .i64 n]/\cs.length=33/\cs.all (·.oneCell')=true:=⟨dc,rfl,bq,by decide +kernel⟩;rw[hE];have r1:Row (w1.alloc (.cells dc.toArray 69)) w1.heap.size dc:=Row.new w1 dc 69;have hB:Below w1.heap.size w1 (w1.alloc (.cells dc.toArray 69)):=(Below.refl _ _).alloc ν _;have B1:=η (hb.trans ((below_setRow hB ν cs.toArray).mono hb.size));rw[Tryz.gI]at r1 hB B1;have H1:=r1;clear hx hb r1 hB hn hE;go_wp2_with (with_reducible refine au (o:=⟨none,_,_,_,_,_⟩) rfl _ _ _ rfl w1.heap.size dc cs rfl rfl H1 (cW.trans (by rw[pO])) (by rw[pO,bq]) Ib ?_);go_ret;exact⟨by rw[EQ.o];rfl,by rw[EQ.o];exact HM.o.below B1.o hmw,cA.aH B1.o⟩
 |ok t rest=>
 rintro e w1⟨rfl,hb⟩;have EQ:=η hx;have yL:t.length<=610:=Mp.nM hx;dsimp only[LW];have r1:Row (w1.alloc (.cells dc.toArray 69)) w1.heap.size dc:=Row.new w1 dc 69;have hB:Below w1.heap.size w1 (w1.alloc (.cells dc.toArray 69)):=(Below.refl _ _).alloc ν _;have B1:=η (hb.trans ((below_setRow hB ν (ai t).toArray).mono hb.size));have H2:=r1.setRow (ai t);rw[Tryz.gI]at r1 hB B1 H2;have H1:=r1;clear r1 hx hB;go_upto_region 4 with(with_reducible refine au (o:=⟨none,_,_,_,_,_⟩) rfl _ _ _ rfl w1.heap.size dc (ai t) rfl rfl H1 (cW.trans (by rw[aE])) (by rw[aE,bq]) (aY t) ?_);clear H1;obtain⟨A,hA⟩:∃A,w1.heap.size=A:=⟨_,rfl⟩;have hAw:w.heap.size<=A:=hA▸hb.size;rw[hA]at B1 H2|-;clear hA hb;generalize World.setRow _ A (ai t).toArray=w2 at B1 H2|-;have mJ:=(World.cell?_of_block (w:=w) (a:=⟨r,0,none⟩) (B1.o.block r hrw)).trans HR.o;have M2:=HM.o.below B1.o hmw;have rT:=eM t;obtain⟨es,clock,cs,Ia,pO,Ib,acS⟩:=Mp.V8 M2.own M2.up (Mk.ak t) rT;have MM:=η M2;have HL:=η acS;have hS2:CK r A m (ai t) (.map es clock) w2:=⟨mJ,H2,Ia⟩;have Gp:∀u:ax.Of (CK r A m (ai t) (.map es clock)),u.w.cell? ⟨r,0,none⟩=some (.map (some m)):=λu=>u.h.1;haveI cE:Nonempty (ax.Of (CK r A m (ai t) (.map es clock))):=⟨⟨w2,hS2⟩⟩;clear mJ M2 acS;refine ax.bM [0,1,2,3,4,5] 7 mixed (by kernel_rfl) rfl rfl (λc a d v w h=>by cases d<;>exact h) (by as_aux_lemma=>kernel_rfl) rfl (CK r A m (ai t) (.map es clock)) hS2 ?_;show wpQuiet _ _ _ _ [_,_,_,_,_,_] _;iterate 5 (go_big_quiet_step (fail))
 refine eE (o:=⟨some 23,_,_,_,_,_⟩) rfl _ rfl A 1 (Mk.ak t) rT rfl (λw hw=>by obtain⟨u,rfl⟩:=hw;exact u.h.load) ?_;try go_frame
 refine wpQuiet_nil ?_;refine ax.akR 6 ⟨some 24,.lookup 35 (.tmp 21) (.tmp 23) true,_,_,_,_⟩ (.tuple #[.agg cs.toArray,.bool (Pl.at' Mk.ak (Mk.ak t) P).2]) rfl rfl (by kernel_rfl) (by as_aux_lemma=>kernel_rfl) (λc a d v w h=>by cases d<;>exact h) (λu hu=>?_) (ax.aq hS2) ?_;obtain⟨u',rfl⟩:=hu;exact ax.sJ rfl (HL.o _ u'.h.2.2);obtain⟨ok,dR⟩:∃b,(Pl.at' Mk.ak (Mk.ak t) P).2=b:=⟨_,rfl⟩;rw[dR];try go_frame
 refine ax.iQ [7,8,9] 3 (by rfl) (by kernel_rfl) (by rfl) (λc a d v w h=>by cases d<;>exact h) (by as_aux_lemma=>kernel_rfl) (by rfl) (ax.aq hS2) ?_;show wpQuiet _ _ _ _ [_,_,_] _;repeat(go_big_quiet_step (fail))
 refine wpQuiet_nil ?_;refine ax.one 10 _ (by kernel_rfl) rfl rfl ?_;try go_frame
 go_wp2_with fail;have r3:Row (w2.alloc (.cells dc.toArray 69)) w2.heap.size dc:=Row.new w2 dc 69;have S3:CK r A m (ai t) (.map es clock) (w2.alloc (.cells dc.toArray 69)):=hS2.mono λk hk=>Below.heap_alloc _ _ _ hk
 have B3:Below w.heap.size w (w2.alloc (.cells dc.toArray 69)):=B1.o.alloc B1.o.size _;have M3:=MM.o.alloc (.cells dc.toArray 69);rw[Tryz.gI]at r3 S3 B3 M3;have hD:w.heap.size<=w2.heap.size:=B1.o.size;have hAD:A<w2.heap.size:=H2.lt;have hmD:=MM.o.lt;obtain⟨D,hDe⟩:∃D,w2.heap.size=D:=⟨_,rfl⟩;rw[hDe]at r3 hD hAD hmD|-;have HOK:=η dR;clear MM H2 Ia hS2 dR HL HM B1 hDe;generalize w2.alloc _=w3 at r3 S3 B3 M3|-;refine⟨ax.aq S3,?_⟩;refine ax.one 11 _ (by kernel_rfl) rfl rfl ?_;have S4:CK r A m (ai t) (.map es clock) (w3.drew.setRow D cs.toArray):=⟨(World.cell?_of_block (w:=w3) (a:=⟨r,0,none⟩) (setRow_other w3 D r _ (by omega))).trans S3.1,S3.2.1.imp λ_ h'=>(setRow_other w3 D A _ (by omega)).trans h',(setRow_other w3 D m _ (by omega)).trans S3.2.2⟩;have B4:=η (below_setRow (w:=w3.drew) B3.drew hD cs.toArray);have M4:=η (Mp.Map.block M3 (setRow_other w3.drew D m cs.toArray (by omega)));refine au (o:=⟨none,.store 69 (.tmp 7) (.tmp 25),_,_,_,_⟩) rfl _ _ _ rfl D dc cs rfl rfl r3 (cW.trans (by rw[pO])) (by rw[pO,bq]) Ib ?_;generalize w3.drew.setRow D cs.toArray=w4 at S4 B4 M4|-;refine⟨ax.aq S4,?_⟩;refine ax.one 12 _ (by kernel_rfl) rfl rfl ?_;try go_frame
 clear cE Gp r3 S3 B3 M3;go_wp2_with fail;refine⟨ax.aq S4,?_⟩;refine wpAnyH_done (by kernel_rfl) ?_ 0;have Hv:=S4.1;have N4:=η (cA.aH (S:=m) B4.o);have S5:=η S4;clear S4;have atq:=Hv;cases ok
 ·have hlen:=M4.o.own.len underlying35 3;rw[Mp.u7]at hlen;by_cases xC:P.length=20
  ·rw[xC]at hlen;go_wp2_with fail;go_ret;refine⟨?_,?_,N4.o⟩;rw[EQ.o];show _=Ending.returned (.int .i64 ((if(Pl.at' Mk.ak (Mk.ak t) P).2 then 10 else if P.length=20 then 9 else 0:Nat):Int));rw[HOK.o,if_neg (by simp),if_pos xC];rfl;rw[EQ.o];show Mp.Map w4 m (if(Pl.at' Mk.ak (Mk.ak t) P).2 then P else if P.length=20 then P else _);rw[HOK.o,if_neg (by simp),if_pos xC];exact M4.o
  have hle:=M4.o.le;have hpl:¬(P.length:Int)=20:=by omega
  go_upto_region 9 with fail;have hS9:NP r A m (ai t) w4:=⟨S5.o.1,S5.o.2.1⟩;have Gp:∀u:ax.Of (NP r A m (ai t)),u.w.cell? ⟨r,0,none⟩=some (.map (some m)):=λu=>u.h.1;haveI cE:Nonempty (ax.Of (NP r A m (ai t))):=⟨⟨w4,hS9⟩⟩;clear Hv atq hlen;refine ax.bM [0,1,2,3,4,5,6] 1 mixed (by kernel_rfl) rfl rfl (λc a d v w h=>by cases d<;>exact h) (by as_aux_lemma=>kernel_rfl) rfl (NP r A m (ai t)) hS9 ?_;show wpQuiet _ _ _ _ [_,_,_,_,_,_,_] _;iterate 5 (go_big_quiet_step (fail))
  refine eE (o:=⟨some 39,_,_,_,_,_⟩) rfl _ rfl A 1 (Mk.ak t) rT rfl (λw hw=>by obtain⟨u,rfl⟩:=hw;exact u.h.load) ?_;try go_frame
  refine Mp.Ae (o:=⟨some 40,_,_,_,_,_⟩) rfl _ rfl A 0 t rfl (λw hw=>by obtain⟨u,rfl⟩:=hw;exact λj v hv=>by rw[u.h.2.cell,Nat.zero_add];exact hv) ?_;try go_frame
  refine wpQuiet_nil ?_;refine ax.one 7 _ (by kernel_rfl) rfl rfl ?_;refine wpList_mapUpdate_in _ (o:=⟨none,.mapUpdate 35 (.tmp 37) (.tmp 39) (.tmp 40),_,_,_,_⟩) rfl _ _ _ _ rfl 67 69 Mp.law underlying35 Mp.wK m 20 (Mp.D P) rfl (show w4.drew.ownsMap _ _ _ _ _ _ from M4.o.own) (by unfold maxLen;omega) (.agg (w8 (Mk.ak t)).toArray) (Fp t) (Lit.string (Mk.ak t)) rfl rfl (Mp.Bf _ rT) (.lit (.string t)) [] (Mp.adS t) ?_;intro w5 jr MK;have as1:cA w.heap.size m w4 w5:=((cA.refl w.heap.size m w4).drew).trans (Mp.DG (w:=w4.drew) MK);have N5:=η (N4.o.trans as1);have hpos:=S5.o.2.1.lt;have hS5:NP r A m (ai t) w5:=by obtain⟨oQ,c0,yX,c1,_,rfl⟩:=MK;exact⟨(World.cell?_of_block (w:=w4.drew) (a:=⟨r,0,none⟩) (Go.ChangeMaps.heap_setBlock_other (w:=w4.drew) S5.o.2.2 _ hrm)).trans hS9.1,hS9.2.imp λ_ h'=>(Go.ChangeMaps.heap_setBlock_other (w:=w4.drew) S5.o.2.2 _ (by omega)).trans h'⟩
  have M5:Mp.Map w5 m (Pl.ins Mk.ak t P):=by rw[Mp.Vt t P M4.o.up HOK.o]at jr;have Pw:=Pl.Gl Mk.ak t P;refine⟨Mp.Rk jr (by rw[Mp.u7];omega),Pl.Wj Mk.ak t P M4.o.up HOK.o,by omega,λy hy=>?_⟩;rcases(Pl.n5 Mk.ak t P y).1 hy with rfl|hy;exact yL;exact M4.o.short y hy
  have MM5:=η M5;clear jr MK M5 cE Gp hS9 M4 N4 S5;refine⟨ax.aq hS5,?_⟩;refine wpAnyH_done (by kernel_rfl) ?_ 0;clear hS5;go_wp2_with fail;go_ret;refine⟨?_,?_,N5.o⟩;rw[EQ.o];show _=Ending.returned (.int .i64 ((if(Pl.at' Mk.ak (Mk.ak t) P).2 then 10 else if P.length=20 then 9 else 0:Nat):Int));rw[HOK.o,if_neg (by simp),if_neg xC];rfl;rw[EQ.o];show Mp.Map w5 m (if(Pl.at' Mk.ak (Mk.ak t) P).2 then P else if P.length=20 then P else _);rw[HOK.o,if_neg (by simp),if_neg xC];exact MM5.o
 go_wp2_with fail;go_ret;refine⟨?_,?_,N4.o⟩
 rw[EQ.o];show _=Ending.returned (.int .i64 ((if(Pl.at' Mk.ak (Mk.ak t) P).2 then 10 else if P.length=20 then 9 else 0:Nat):Int));rw[HOK.o,if_pos rfl];rfl;rw[EQ.o];show Mp.Map w4 m (if(Pl.at' Mk.ak (Mk.ak t) P).2 then P else if P.length=20 then P else _);rw[HOK.o,if_pos rfl];exact M4.o
end
section
open Go.Proofs Go.Shelf
def dr:Ren where
 f:=λx=>match x with
  |190=>25
  |125=>49
  |258=>48
  |128=>91
  |129=>92
  |302=>82
  |303=>83
  |304=>84
  |305=>85
  |306=>86
  |307=>87
  |308=>88
  |309=>89
  |310=>90
  |333=>104
  |329=>105
  |330=>106
  |334=>107
  |335=>108
  |336=>109
  |344=>111
  |n=>n
 t:=λx=>match x with
  |31=>42
  |9=>9
  |3=>3
  |46=>109
  |0=>0
  |51=>157
  |53=>56
  |4=>4
  |183=>149
  |182=>148
  |131=>154
  |5=>5
  |218=>172
  |222=>175
  |228=>178
  |229=>179
  |n=>n
 g:=λn=>n
def UR:Lays.n190 prog dr where
 mixed:=Eq.refl true;f125:=Eq.trans func49 (congrArg some (Eq.refl (Body.n125 dr)));f128:=Eq.trans func91 (congrArg some (Eq.refl (Body.n128 dr)));f129:=Eq.trans func92 (congrArg some (Eq.refl (Body.n129 dr)));f190:=Eq.trans func25 (congrArg some (Eq.refl (Body.n190 dr)));f258:=Eq.trans func48 (congrArg some (Eq.refl (Body.n258 dr)));f302:=Eq.trans func82 (congrArg some (Eq.refl (Body.n302 dr)));f303:=Eq.trans func83 (congrArg some (Eq.refl (Body.n303 dr)));f304:=Eq.trans func84 (congrArg some (Eq.refl (Body.n304 dr)));f305:=Eq.trans func85 (congrArg some (Eq.refl (Body.n305 dr)));f306:=Eq.trans func86 (congrArg some (Eq.refl (Body.n306 dr)));f307:=Eq.trans func87 (congrArg some (Eq.refl (Body.n307 dr)));f308:=Eq.trans func88 (congrArg some (Eq.refl (Body.n308 dr)));f309:=Eq.trans func89 (congrArg some (Eq.refl (Body.n309 dr)));f310:=Eq.trans func90 (congrArg some (Eq.refl (Body.n310 dr)));f329:=Eq.trans func105 (congrArg some (Eq.refl (Body.n329 dr)));f330:=Eq.trans func106 (congrArg some (Eq.refl (Body.n330 dr)));f333:=Eq.trans func104 (congrArg some (Eq.refl (Body.n333 dr)));f334:=Eq.trans func107 (congrArg some (Eq.refl (Body.n334 dr)));f335:=Eq.trans func108 (congrArg some (Eq.refl (Body.n335 dr)));f336:=Eq.trans func109 (congrArg some (Eq.refl (Body.n336 dr)));f344:=Eq.trans func111 (congrArg some (Eq.refl (Body.n344 dr)));t0:=underlying0;a0:=isAgg0;z0:=sizeOf0;v0:=zeroValue0;t3:=underlying3;a3:=isAgg3;z3:=sizeOf3;v3:=zeroValue3;t4:=underlying4;a4:=isAgg4;z4:=sizeOf4;v4:=zeroValue4;t5:=underlying5;a5:=isAgg5;z5:=sizeOf5;v5:=zeroValue5;t9:=underlying9;a9:=isAgg9;z9:=sizeOf9;v9:=zeroValue9;t31:=underlying42;a31:=isAgg42;z31:=sizeOf42;v31:=zeroValue42;t46:=underlying109;a46:=isAgg109;z46:=sizeOf109;v46:=zeroValue109;t51:=underlying157;a51:=isAgg157;z51:=sizeOf157;v51:=zeroValue157;t53:=underlying56;a53:=isAgg56;z53:=sizeOf56;v53:=zeroValue56;t131:=underlying154;a131:=isAgg154;z131:=sizeOf154;v131:=zeroValue154;t182:=underlying148;a182:=isAgg148;z182:=sizeOf148;v182:=zeroValue148;t183:=underlying149;a183:=isAgg149;z183:=sizeOf149;v183:=zeroValue149;t218:=underlying172;a218:=isAgg172;z218:=sizeOf172;v218:=zeroValue172;t222:=underlying175;a222:=isAgg175;z222:=sizeOf175;v222:=zeroValue175;t228:=underlying178;a228:=isAgg178;z228:=sizeOf178;v228:=zeroValue178;t229:=underlying179;a229:=isAgg179;z229:=sizeOf179;v229:=zeroValue179
def zu(blk off cap:Nat)(ss:List (List UInt8))(w:World)(hH:Sort.Holds encStr w blk off ss.toArray)(Xr:blk<w.heap.size)(lC:ss.length<4611686018427387904):Calls prog 25 #[.slice (some ⟨blk,off,none⟩) ss.length cap] w λe w'=>e=.returned (.tuple #[])/\∃n os,w'=Sort.grow (Sort.putRow encStr (Sort.ahead w n) blk off (ss.mergeSort λx y=>decide (x<=y)).toArray) os:=Any.slices_Sort_string UR blk off cap ss w hH Xr lC
end
section
open ba
open Go.RowKit
def MB(w:World):Calls prog 92 #[.int .u64 0] w λe w'=>e=.returned (.int .i64 0)/\w'=w:=by go_enter func92,ntmps92;go_wp2_with fail;go_ret;exact⟨congrArg (λz=>Ending.returned (.int .i64 z)) (show wrap64 (wrap64 (Lib.len8 0))=0 by decide +kernel),rfl⟩
def Wb(w:World):Calls prog 49 #[.int .u64 0] w λe w'=>e=.returned (.int .i64 0)/\w'=w:=by go_enter func49,ntmps49;go_wp2_with fail;refine(MB w).mono ?_;rintro e w1⟨rfl,rfl⟩;go_wp2_with fail;go_ret;exact⟨rfl,rfl⟩
def ahH(w:World):Calls prog 82 #[.slice none 0 0,.int .i64 0,.int .i64 0] w λe w'=>e=.returned (.tuple #[])/\w'=w:=by
 go_enter func82,ntmps82;go_wp2_with fail;refine wp_loop_rounds 1 ?_;rw[rounds_succ];go_wp2_with fail
 go_end0;exact⟨rfl,rfl⟩
def ZT(w:World):Calls prog 48 #[.slice none 0 0,.int .i64 0,.int .i64 0,.int .i64 0] w λe w'=>e=.returned (.tuple #[])/\w'=w:=by go_enter func48,ntmps48;go_wp2_with fail;refine wp_loop_rounds 1 ?_;rw[rounds_succ];go_wp2_with fail;refine(ahH _).mono ?_;rintro e w1⟨rfl,rfl⟩;go_wp2_with fail;refine bodyPost_ret (results_none rfl _ _ _) rfl ?_;exact⟨rfl,rfl⟩
def rG(w:World):Calls prog 25 #[.slice none 0 0] w λe w'=>e=.returned (.tuple #[])/\w'=w:=by
 go_enter func25,ntmps25;go_wp2_with fail;rw[show U (iM 0)=0 by decide +kernel]
 refine(Wb w).mono ?_;rintro e w1⟨rfl,rfl⟩;go_wp2_with fail;refine(ZT _).mono ?_;rintro e w1⟨rfl,rfl⟩;go_wp2_with fail;go_end0;exact⟨rfl,rfl⟩
theorem Jz{α β:Type}{f:α->Option β}:∀ {l:List α}{r:List β},l.mapM f=some r->∀x∈l,∃y,f x=some y
 |[],_,_,x,hx=>by cases hx
 |a::l,r,h,x,hx=>by
  rw[List.mapM_cons]at h;cases ha:f a with
  |none=>rw[ha]at h;cases h
  |some y=>
  rw[ha]at h;cases hl:l.mapM f with
  |none=>rw[hl]at h;cases h
  |some r'=>rcases List.mem_cons.1 hx with rfl|hx;exact⟨y,ha⟩;exact Jz hl x hx
def byteOf:Value->UInt8
 |.int _ n=>UInt8.ofNat n.toNat|_=>0
def adJ{d c ls}(h:prog.keyLits (d+1) 5 [c]=some ls):c=.int .u8 (Y (byteOf c)):=by
 unfold Program.keyLits at h;simp only[underlying5]at h;cases c<;>try(simp at h;done)
 rename_i k n;dsimp only at h;split at h;rename_i hk;obtain⟨rfl,hw⟩:=hk;have hn:0<=n/\n<=255:=by simp[Lit.wf,IntKind.min,IntKind.max,IntKind.signed,IntKind.bits]at hw;omega
 have:Y (byteOf (.int .u8 n))=n:=by unfold byteOf Y;simp only[UInt8.toNat_ofNat'];omega
 rw[this];cases h
def Gk{v:Value}{kl:Lit}(h:keyOf prog 67 v=some kl):∃d:List UInt8,d.length=32/\v=.agg (w8 d).toArray/\kl=.string d:=by
 have h0:=h;obtain⟨n,hn⟩:∃n,prog.types.size+1=n+2:=⟨prog.types.size-1,by kernel_rfl⟩;unfold keyOf at h;simp only[underlying67,show prog.keyType 67=true by kernel_rfl,Bool.true_and]at h;split at h
 ·rename_i hf;cases v<;>try(simp[Value.formed,underlying67]at hf;done)
  rename_i cs;have lC:cs.toList.length=32:=by simp only[Value.formed,underlying67,y3,beq_iff_eq]at hf;simpa using hf
  rw[hn,show(Value.agg cs).cells.toList=cs.toList by simp[Value.cells]]at h;cases hl:prog.keyLits (n+2) 67 cs.toList with
  |none=>rw[hl]at h;cases h
  |some ls=>
  unfold Program.keyLits at hl;simp only[underlying67,y3,lC,if_true,PZ]at hl;cases hm:(List.range 32).mapM (λi=>prog.keyLits (n+1) 5 ((cs.toList.drop (i*1)).take 1))with
  |none=>rw[hm]at hl;cases hl
  |some r=>
  have gQ:=Jz hm;have JX:∀i (hi:i<cs.toList.length),cs.toList[i]=.int .u8 (Y (byteOf cs.toList[i])):=λi hi=>by obtain⟨y,hy⟩:=gQ i (List.mem_range.2 (by omega));rw[Nat.mul_one,List.drop_eq_getElem_cons hi]at hy;exact adJ hy
  have dL:cs.toList=w8 (cs.toList.map byteOf):=by apply List.ext_getElem;simp[w8];intro i h1 h2;have:=JX i h1;simp only[w8,List.getElem_map];exact this
  have hd:(cs.toList.map byteOf).length=32:=by simpa using lC
  have hv:Value.agg cs=.agg (w8 (cs.toList.map byteOf)).toArray:=by rw[<-dL]
  refine⟨_,hd,hv,?_⟩;rw[hv,Mp.Bf _ hd]at h0;exact(Option.some.inj h0).symm
 cases h
def J8{w w'}(h:Below w.heap.size w w'):w.grownBy w' none:=⟨h.os,h.tape,h.output,h.size,λi hi _=>h.block i hi⟩
def ahG P:strKeys (Mp.D P)=P.map Mk.ak:=by show(Mp.uE P).map (λp=>strOf p.1)=_;unfold Mp.uE;rw[List.map_map];rfl
def Qt{l:List (List UInt8)}(h:l.Pairwise (· < ·)):l.mergeSort leB=l:=by refine List.mergeSort_of_pairwise (h.imp λ{a b} yQ=>?_);exact decide_eq_true (List.le_of_lt yQ)
def wy{P:List Mp.B}(mg:Pl.Up Mk.ak P){left:Lit->Bool}{ss:List (List UInt8)}(hC:Collected (Mp.D P) left ss)(hl:∀kl,left kl=false):ss.mergeSort leB=P.map Mk.ak/\ss.length=P.length:=by
 have hp:ss.Perm (P.map Mk.ak):=by
  rw[<-ahG];refine perm_strKeys (es:=Mp.uE P) ?_ (λp hp=>?_) hC.1 (λx=>by rw[hC.2 x,hl];exact⟨λh=>h.1,λh=>⟨h,rfl⟩⟩);refine List.pairwise_map.2 (mg.imp λ{a b} yQ e=>?_);have:Mk.ak a=Mk.ak b:=by simpa using e
  rw[this]at yQ;exact Pl.sI _ yQ;obtain⟨t,_,rfl⟩:=List.mem_map.1 hp;exact⟨_,rfl⟩
 refine⟨?_,by simpa using hp.length_eq⟩;rw[mergeSort_of_perm hp,Qt (Pl.aas Mk.ak P mg)]
def Sb(r m:Nat)(P:List Mp.B)(w:World)(hr:w.cell? ⟨r,0,none⟩=some (.map (some m)))(hM:Mp.Map w m P):Calls prog 11 #[.pointer (some ⟨r,0,none⟩)] w λe w'=>∃v,e=.returned v/\w'.ownsRow w.heap.size 9 1 v P.length (wt (P.map Mk.ak))/\Below w.heap.size w w':=by
 obtain⟨i0,fy,nB,ku,gK⟩:=info_parts me;have HI:=η fy;have HM:=η hM;have hmw:=hM.lt;have mg:=hM.up;have hle:=hM.le;clear fy hM;go_enter func11,ntmps11;go_wp2_with (at_range;refine wpList_range_own _ (o:=⟨some 9,_,_,_,_,_⟩) rfl _ 35 rfl 67 69 Mp.law underlying35 Mp.wK m 20 (Mp.D P) rfl HM.o.own ?_;intro w0 WO hg0 rQ)
 go_frame;obtain⟨R,hR⟩:∃R,w.heap.size=R:=⟨_,rfl⟩;have B0:=η ((Below.refl w.heap.size w).grown hg0 ν (λj hj=>by cases hj));have HRG:=η WO;rw[hR]at HRG;rw[hR];have HRE:=η hR;have lC:=Mp.u7 P;clear WO hg0 rQ hR;go_loopw [3,4] (λov _ wr=>∃(left:Lit->Bool)(cnt:Nat)(ss:List (List UInt8)),wr.ranges prog 67 Mp.wK m R 20 (Mp.D P) left cnt/\ss.length+cnt<=20/\wr.ownsRow w.heap.size 9 1 ov ss.length (wt ss)/\Collected (Mp.D P) left ss/\Below w.heap.size w wr) (λ_ _ wr=>wr.rangeLeft m R);exact⟨_,_,[],HRG.o,by rw[lC];simpa using hle,World.ownsRow_nil _ _ _ _,Collected.start _,B0.o⟩;obtain⟨left,cnt,ss,TT,dL,b8,hC,hB⟩:=hrel;have ajy:=η b8;have HC:=η hC;have HB:=η hB;have j0:=hB.size;clear b8 hC hB;go_wp2_with (at_next;refine wpList_next_ranges _ (o:=⟨some 10,_,_,_,_,_⟩) rfl _ rfl 67 Mp.law Mp.wK (λd:{d:List UInt8 // d.length=32}=>Value.agg (w8 d.1).toArray) (λc:Value=>c) (λkey kl hk=>by obtain⟨d,hd,hv,_⟩:=Gk hk;exact⟨⟨d,hd⟩,hv⟩) (λv y hv=>⟨v,rfl⟩) m R 20 _ _ _ rfl TT ?_ ?_)
 ·intro vV hl0;have EM:=wy mg HC.o hl0;have H1:=η EM.1;have HSN:=η EM.2;clear EM;have b8:=ajy.o;rcases b8.2 with⟨Sl,TR⟩|⟨g,cap,cur,hv,eX,hb,h1,h2,h3,h4⟩
  ·subst Sl;have rQ:ss=[]:=by exact List.length_eq_zero_iff.1 TR
   have hP0:P=[]:=List.length_eq_zero_iff.1 (by rw[<-HSN.o,rQ];rfl);have H2:=η hP0;clear b8 hP0 rQ;have T1:=η (rG wr);go_wp2_with fail;refine T1.o.mono ?_;rintro e w3⟨rfl,rfl⟩;go_wp2_with fail;go_ret;exact⟨_,rfl,by rw[H2.o];exact World.ownsRow_nil _ _ _ _,HB.o⟩
  subst hv;have hH:Sort.Holds encStr wr g 0 ss.toArray:=holds_of_block hb (by rw[Nat.mul_one]at h4;exact h4);have Lc:g<wr.heap.size:=(Array.getElem?_eq_some_iff.1 hb).1;have T1:=η (zu g 0 cap ss wr hH Lc (by omega));have O2:∀(n:Nat)(os:Array Obj),(Sort.grow (Sort.putRow encStr (Sort.ahead wr n) g 0 (P.map Mk.ak).toArray) os).ownsRow w.heap.size 9 1 (.slice (some ⟨g,0,none⟩) ss.length cap) ss.length ((P.map Mk.ak).map encStr):=λn os=>ownsRow_sorted (by rw[List.length_map,HSN.o]) eX hb h1 h2 h3;have HO2:=η O2;clear b8 hH hb O2 h1 h2 h3 h4;go_wp2_with fail;refine T1.o.mono ?_;rintro e w3⟨rfl,nn,os,rfl⟩;rw[H1.o];have B3:=η (HB.o.grown (grownBy_sorted (P.map Mk.ak).toArray (w:=wr) (g:=g) (n:=nn) (os:=os)) j0 (λj hj=>by cases hj;exact eX));have O3:=η (HO2.o nn os);generalize Sort.grow (Sort.putRow encStr (Sort.ahead wr nn) g 0 (P.map Mk.ak).toArray) os=w3 at B3 O3|-;go_wp2_with fail;go_ret;refine⟨_,rfl,?_,B3.o⟩;have:=O3.o;rw[<-HSN.o];exact this
 intro x hx c kl yd yp w2 anG vT hlk hv nj WN aM T8 oO hen;obtain rfl:kl=.string x:=by rw[Mp.Bf x hx]at vT;exact(Option.some.inj vT).symm
 have oz:=ajy.o.kept T8 (Or.inr (row_ne_iter ajy.o TT).symm);have hRB:w.heap.size<=R:=HRE.o▸ν;have yS:=HB.o.grown T8 j0 (λj hj=>by cases hj;exact hRB);have C2:=η (HC.o.step hlk nj);have LE:=η TT.left_eq;obtain⟨yR,lL,CY,BP⟩:=Ke w2 x 67;rw[Tryz.mm]at yR lL CY BP;clear vT hlk hv nj oO T8 TT;go_upto_region 5 with(with_reducible refine eU (o:=⟨none,_,_,_,_,_⟩) rfl _ _ rfl w2.heap.size (List.replicate 32 0) x rfl hx rfl rfl BP ?_);obtain⟨A,hA⟩:∃A,w2.heap.size=A:=⟨_,rfl⟩;have hzw:w.heap.size<=w2.heap.size:=yS.size;have G3:=J8 yR;have B3:=η (yS.trans (yR.mono hzw));have abZ:=η (WN.kept G3 (by simp) (by simp));have O3:=η (aB oz yR ν);clear G3 yR lL BP oz yS WN;rw[hA]at CY B3 abZ O3|-;clear hA hen;generalize World.setRow _ A (w8 x).toArray=w3 at CY B3 abZ O3|-;have lL:=B3.o.size;go_frame;go_wp2_with (first
  |(with_reducible refine ja (o:=⟨some 16,_,_,_,_,_⟩) rfl _ _ _ _ rfl A 0 32 32 x hx rfl underlying64 underlying5 underlying9 CY.bytes ?_)
  |(at_builtin;(refine wpList_append_own _ rfl _ _ 42 rfl w.heap.size 9 i0 (.string ByteArray.empty) 1 16 underlying42 HI.o nB ku gK rfl (by decide) _ _ _ rfl (O3.o.alloc _) ⟨w3.heap.size,0,none⟩ 1 1 [.string (str x)] rfl rfl (cell_one_new _ _ _) (ig [x]) (by unfold maxLen;omega) (by omega) (by rw[World.size_alloc];omega) ?_);intro v4 w4 acJ amk _;have H1:=η acJ;have H2:=η amk;clear acJ amk))
 have an5:=η ((abZ.o.alloc _).kept H2.o (row_ne_low O3.o hmw) (row_ne_iter O3.o abZ.o));have B4:=η ((B3.o.alloc lL _).grown H2.o (by rw[World.size_alloc];omega) (λk hk=>(O3.o.lt k hk).1));clear H2;go_roundw;exact⟨_,anG,ss++[x],an5.o,by simp;omega,by rw[List.length_append,<-iK];exact H1.o,C2.o,B4.o⟩;rw[an5.o.left_eq,LE.o];exact aM
end
section
open Go.RowKit Go.Shelf ba
attribute [local go_sem] Oper.semAt_some
namespace Sq
abbrev B:=List UInt8
abbrev V1:Nat:=64
abbrev enc(x:B):Array Value:=#[Value.string (str x)]
def uX(zs:List B) k(h:k<zs.length):zs.take (k+1)=zs.take k++[zs.getD k []]:=by rw[List.take_succ_eq_append_getElem h,List.getD_eq_getElem?_getD,List.getElem?_eq_getElem h];rfl
def Lh F n(h7:F.fn V1)(kK:F.round=none)(hn:1<=n) l Bs Jt b off cap zs(WQ:zs.length<=1000)(hb:b<Jt)(J Jx:List B->World->Prop) (hY:∀pre x W,J pre W->pre.length<zs.length->YieldAt F (n-1) prog l (enc x) W λe W'=>(e=.returned (.bool true)/\J (pre++[x]) W'/\Below Jt W W')∨(e=.returned (.bool false)/\Jx (pre++[x]) W')) W (Ig:W.cell? ⟨Bs,0,none⟩=some (.slice (some ⟨b,off,none⟩) zs.length cap)) (hc:∀j,j<zs.length->W.cell? ⟨b,off+j,none⟩=some (.string (str (zs.getD j [])))) (h0:J [] W):CallsIn F n prog V1 #[.func (.yield l) #[] #[],.pointer (some ⟨Bs,0,none⟩)] W λe W'=>(∃v,e=.returned v)/\((∃ys,ys=zs/\J ys W')∨(∃pre,pre <+: zs/\Jx pre W')):=by
 refine callsIn_of_wp func64 rfl h7 ?_ kK;simp only[ntmps64,List.size_toArray,List.length_cons,List.length_nil,Nat.reduceAdd,Nat.reduceSub,Array.replicate_succ,Array.replicate_zero,List.push_toArray,List.append_toArray,List.nil_append,List.cons_append];gi_wp2;gi_loopw [7] (λi wr=>∃k:Nat,k<=zs.length/\i=.int .i64 k/\J (zs.take k) wr/\Below Jt W wr) (λi _=>zs.length-(intOf i).toNat);exact⟨0,Nat.zero_le _,rfl,h0,Below.refl _ _⟩;obtain⟨k,hk,rfl,hJs,Pu⟩:=hrel;by_cases aM:k<zs.length
 ·have Uc:wr.cell? ⟨b,off+k,none⟩=some (.string (str (zs.getD k []))):=(Pu.cell (p:=⟨b,off+k,none⟩) hb).trans (hc k aM);have La:=uX zs k aM;have hY':=hY (zs.take k) (zs.getD k []) wr hJs (by rw[List.length_take];omega);rw[<-La]at hY';generalize zs.getD k []=x at Uc hY';clear La hc hY;obtain⟨fn,tmps,assign,body,hy,hR⟩:=hY';dsimp only[enc]at hy;gi_wp2;refine hR.mono ?_;rintro e W3 (⟨rfl,hJ3,Dw⟩|⟨rfl,au1⟩)
  ·gi_wp2;go_roundw;exact⟨k+1,by omega,by simp,hJ3,Pu.trans Dw⟩;simp[intOf];omega
  gi_wp2;refine bodyPost_ret (results_none rfl _ _ _) rfl ?_;exact⟨⟨_,rfl⟩,.inr ⟨_,List.take_prefix _ _,au1⟩⟩
 obtain rfl:k=zs.length:=by omega
 rw[List.take_length]at hJs;gi_wp2;go_end0;exact⟨⟨_,rfl⟩,.inl ⟨_,rfl,hJs⟩⟩
def oU F n(h7:F.fn V1)(kK:F.round=none) l Bs a cap(J:List B->World->Prop) W(Ig:W.cell? ⟨Bs,0,none⟩=some (.slice a 0 cap))(h0:J [] W):CallsIn F n prog V1 #[.func (.yield l) #[] #[],.pointer (some ⟨Bs,0,none⟩)] W λe W'=>(∃v,e=.returned v)/\J [] W':=by refine callsIn_of_wp func64 rfl h7 ?_ kK;simp only[ntmps64,List.size_toArray,List.length_cons,List.length_nil,Nat.reduceAdd,Nat.reduceSub,Array.replicate_succ,Array.replicate_zero,List.push_toArray,List.append_toArray,List.nil_append,List.cons_append];gi_wp2;gi_loopw [7] (λi wr=>i=.int .i64 0/\J [] wr) (λ_ _=>0);exact⟨rfl,h0⟩;obtain⟨rfl,hJs⟩:=hrel;gi_wp2;go_end0;exact⟨⟨_,rfl⟩,hJs⟩
def Fh(F:Fence)(n:Nat)(h7:F.fn V1)(kK:F.round=none)(hn:1<=n)(Bs Jt:Nat)(sv:Value)(zs:List B)(WQ:zs.length<=1000)(w w0:World)(Ig:Bs<w.heap.size)(aw3:Jt<=w.heap.size) (hc:w.cell? ⟨Bs,0,none⟩=some sv) (hw:w0.heap.size<=Jt) (hI:fH w0 sv zs) (Ze:Below w0.heap.size w0 w):SeqStopsK F n prog V1 #[.pointer (some ⟨Bs,0,none⟩)] enc (Below Jt) (λys=>ys=zs) (λpre=>pre <+: zs) zs.length w:=λl J Jx W hW _ _ hY h0=>by have Sv:=(hW.cell (p:=⟨Bs,0,none⟩) Ig).trans hc;have hI':fH W sv zs:=(hI.below Ze ν).below hW ν;rcases hI with⟨a,c,rfl,rfl⟩|⟨b,o,c,rfl,hb,_⟩;exact(oU F n h7 kK l Bs a c J W Sv h0).mono λe W' ⟨he,hj⟩=>⟨he,.inl ⟨_,rfl,hj⟩⟩;rcases hI' with⟨a',c',e,rfl⟩|⟨b',o',c',e,_,hp⟩;cases e;exact(oU F n h7 kK l Bs _ _ J W Sv h0).mono λe W' ⟨he,hj⟩=>⟨he,.inl ⟨_,rfl,hj⟩⟩;cases e;exact Lh F n h7 kK hn l Bs Jt b o c zs WQ (by omega) J Jx hY W Sv (λj hj=>(hp j hj)) h0
def Wl:(prog.info? 9).map (λi=>(i.zero,i.size,i.bytes))=some (some (.string ByteArray.empty),1,16):=by kernel_rfl
def GN(F:Fence)(n:Nat)(h3:F.fn 96)(h5:F.fn V1)(kK:F.round=none)(hn:3<=n)(Bs:Nat)(sv:Value)(zs:List B)(hlen:zs.length<=1000)(w w0:World)(Ig:Bs<w.heap.size)(hc:w.cell? ⟨Bs,0,none⟩=some sv)(hT:fH w0 sv zs)(Ze:Below w0.heap.size w0 w):CallsIn F n prog 96 #[.slice none 0 0,.func (.func V1) #[] #[.pointer (some ⟨Bs,0,none⟩)]] w λe W'=>∃v,e=.returned v/\W'.ownsRow w.heap.size 9 1 v zs.length (wt zs)/\Below w.heap.size w W':=by
 have h1:1<=n:=by omega
 obtain⟨i0,hi,nB,ku,gK⟩:=info_parts Wl;refine callsIn_of_wp_marks func96 rfl h3 ?_ kK;simp only[ntmps96,List.size_toArray,List.length_cons,List.length_nil,Nat.reduceAdd,Nat.reduceSub,Array.replicate_succ,Array.replicate_zero,List.push_toArray,List.append_toArray,List.nil_append,List.cons_append];have HC:=η hc;clear hc;gi_wp2;have bO:=Boxed.new w 42 (.slice none 0 0);have hB0:Below w.heap.size w (w.alloc (.cells #[.slice none 0 0] 42)):=(Below.refl _ w).alloc ν _;have hz:=Ze.size;refine wpIn_rangeFunc_ownG kK h1 (gf:=V1) (lb:=#[.pointer (some ⟨Bs,0,none⟩)]) rfl h5 (enters_of func64 (by kernel_rfl) rfl)
  (Fh F (n-1) h5 kK (by omega) Bs w.heap.size sv zs hlen _ w0 (by simp;omega) (by simp) ((Below.cell (p:=⟨Bs,0,none⟩) hB0 Ig).trans HC.o) hz hT (Ze.trans (hB0.mono hz))) belowK_t (belowK_b (by simp)) (Below.refl _ _) (λ_=>rfl)
  (λpre W=>(∃v,Boxed W w.heap.size 42 v/\W.ownsRow w.heap.size 9 1 v pre.length (wt pre)/\True)/\Below w.heap.size w W)
  (λ_ _ _=>False)
  (OwnFrom.and (Own.from (holdsRow_own w.heap.size w.heap.size 42 9 1 (λpre=>pre.length) (λpre=>wt pre) (λpre v=>True)) _) (ownFrom_below ν (by simp)))
  (λ_ _ _ _ _ hs _ _=>hs)
  ⟨⟨_,bO,World.ownsRow_nil _ _ _ _,trivial⟩,hB0⟩
  (λx=>{tmps:=#[.slice none 0 0,.func (.func V1) #[] #[.pointer (some ⟨Bs,0,none⟩)],.pointer (some ⟨w.heap.size,0,none⟩),undef,.slice none 0 0,.string (str x),.func (.func V1) #[] #[.pointer (some ⟨Bs,0,none⟩)],.string (str x),undef,undef,undef,undef,undef],defers:=[]}) ?assign ?body ?done ?stop
 case assign=>intro l x W K hK;gi_wp2;exact hK
 case body=>rintro l pre x W⟨⟨v,hv,b8,Sl⟩,hB⟩aM;have hc:=hv.cell;gi_wp2_with (gi_at_builtin;refine wpListIn_append_own _ rfl _ _ 42 rfl w.heap.size 9 i0 (.string ByteArray.empty) 1 16 underlying42 hi nB ku gK rfl (by decide) _ _ _ rfl (b8.alloc _) ⟨W.heap.size,0,none⟩ 1 1 [.string (str x)] rfl rfl (cell_one_new _ _ _) (ig [x]) (by unfold maxLen;omega) (by omega) (by have:=hB.size;simp;omega) ?_;intro v' w1 acK amj _;obtain⟨g',Ct,rfl⟩:=ownsRow_succ acK;obtain⟨kh,hv2,mJ,yn,fT⟩:=hv.appended (by decide) b8 hB.size ν acK amj;have Ib:=kh.cell;have hf1:=kh.frozen);exact⟨yn.from _,fT,⟨_,hv2,by rw[List.length_append,<-iK];exact mJ,trivial⟩,hB.trans fT⟩
 case done=>rintro D ys W hD rfl⟨⟨v,hv,b8,Sl⟩,hB⟩hK;have hc:=hv.cell;gi_wp2;refine⟨by simp,.inl ⟨_,_,rfl,run_takeDeferred hK,?_⟩⟩;exact⟨_,results_tmp rfl _ _ _,v,rfl,ownsRow_putObj b8 _ hK rfl,hB.trans (belowK_b (w:=w) ν W D _ _ (by simp at hD;omega) hK rfl rfl)⟩
 case stop=>rintro D c pre W _ _ h _;exact h.elim
end Sq
open Sq
def rF(a:Option Addr)(len cap:Nat)(w:World):Calls prog 31 #[.slice a len cap] w λe w'=>e=.returned (.func (.func 64) #[] #[.pointer (some ⟨w.heap.size,0,none⟩)])/\w'=w.alloc (.cells #[.slice a len cap] 42):=by go_enter func31,ntmps31;go_wp2_with fail;go_ret;exact⟨rfl,rfl⟩
def yw(Bs:Nat)(sv:Value)(zs:List B)(hlen:zs.length<=1000)(w w0:World)(Ig:Bs<w.heap.size)(hc:w.cell? ⟨Bs,0,none⟩=some sv)(hT:fH w0 sv zs)(Ze:Below w0.heap.size w0 w):Calls prog 96 #[.slice none 0 0,.func (.func 64) #[] #[.pointer (some ⟨Bs,0,none⟩)]] w λe W'=>∃v,e=.returned v/\W'.ownsRow w.heap.size 9 1 v zs.length (wt zs)/\Below w.heap.size w W':=(callsIn_wide (n:=6)).1 (GN Fence.wide 6 trivial trivial rfl (by omega) Bs sv zs hlen w w0 Ig hc hT Ze)
def DE(Bs:Nat)(sv:Value)(zs:List B)(hlen:zs.length<=1000)(w w0:World)(Ig:Bs<w.heap.size)(hc:w.cell? ⟨Bs,0,none⟩=some sv)(hT:fH w0 sv zs)(Ze:Below w0.heap.size w0 w):Calls prog 63 #[.func (.func 64) #[] #[.pointer (some ⟨Bs,0,none⟩)]] w λe W'=>∃v,e=.returned v/\W'.ownsRow w.heap.size 9 1 v zs.length (wt zs)/\Below w.heap.size w W':=by have T:=η (yw Bs sv zs hlen w w0 Ig hc hT Ze);clear hc;go_enter func63,ntmps63;go_wp2_with fail;refine T.o.mono ?_;rintro e w'⟨v,rfl,h1,h2⟩;go_wp2_with fail;go_ret;exact⟨v,rfl,h1,h2⟩
def sorted(zs:List B):List B:=zs.mergeSort λx y=>decide (x<=y)
def tj(Bs:Nat)(sv:Value)(zs:List B)(hlen:zs.length<=1000)(w w0:World)(Ig:Bs<w.heap.size)(hc:w.cell? ⟨Bs,0,none⟩=some sv)(hT:fH w0 sv zs)(Ze:Below w0.heap.size w0 w):Calls prog 30 #[.func (.func 64) #[] #[.pointer (some ⟨Bs,0,none⟩)]] w λe W'=>∃v,e=.returned v/\W'.ownsRow w.heap.size 9 1 v zs.length (wt (sorted zs))/\Below w.heap.size w W':=by
 have T:=η (DE Bs sv zs hlen w w0 Ig hc hT Ze);clear hc;go_enter func30,ntmps30;go_wp2_with fail;refine T.o.mono ?_;rintro e w1⟨v,rfl,b8,hb⟩;clear T;have alK:=η b8;rcases b8.2 with⟨rfl,hz⟩|⟨gb,cap,cur,rfl,eX,yP,r1,r2,r3,r4⟩
 ·have TR:zs=[]:=List.eq_nil_of_length_eq_zero hz;subst TR;have HB:=η hb;clear hb hz b8;go_wp2_with fail;refine(rG w1).mono ?_;rintro e w2⟨rfl,rfl⟩;go_wp2_with fail;go_ret;refine⟨_,rfl,?_,HB.o⟩;have:=alK.o;simpa[sorted]using this
 have hH:Sort.Holds encStr w1 gb 0 zs.toArray:=holds_of_block yP (by rw[Nat.mul_one]at r4;exact r4);have Lc:gb<w1.heap.size:=(Array.getElem?_eq_some_iff.1 yP).1;have cS:=η (zu gb 0 cap zs w1 hH Lc (by omega));have HB:=η hb;have HG:=η yP;have R:=η (And.intro r1 (And.intro r2 r3));clear hb b8 hH yP r1 r2 r3 r4;go_wp2_with fail;refine cS.o.mono ?_;rintro e w2⟨rfl,nn,os,rfl⟩;go_wp2_with fail;go_ret;refine⟨_,rfl,?_,HB.o.grown (grownBy_sorted _) HB.o.size (λj hj=>by cases hj;exact eX)⟩;exact ownsRow_sorted (by simp) eX HG.o R.o.1 R.o.2.1 R.o.2.2
end
section
open Go.Proofs Go.Shelf Go.RowKit ba
def PX:Ren where
 f:=λx=>match x with
  |194=>32
  |n=>n
 t:=λx=>match x with
  |31=>42
  |9=>9
  |3=>3
  |0=>0
  |4=>4
  |n=>n
 g:=λn=>n
def Kq:Lays.n194 prog PX where
 mixed:=Eq.refl true;f194:=Eq.trans func32 (congrArg some (Eq.refl (Body.n194 PX)));t0:=underlying0;a0:=isAgg0;z0:=sizeOf0;v0:=zeroValue0;t3:=underlying3;a3:=isAgg3;z3:=sizeOf3;v3:=zeroValue3;t4:=underlying4;a4:=isAgg4;z4:=sizeOf4;v4:=zeroValue4;t9:=underlying9;a9:=isAgg9;z9:=sizeOf9;v9:=zeroValue9;t31:=underlying42;a31:=isAgg42;z31:=sizeOf42;v31:=zeroValue42
def rU(C:Nat)(v:Value)(zs:List Sq.B)(w:World)(h:w.ownsRow C 9 1 v zs.length (wt zs))(hn:zs.length<=1000):Calls prog 32 #[v] w λe w'=>∃a c,e=.returned (.slice a (Lib.compact zs).length c)/\Below C w w':=by
 rcases h.2 with⟨rfl,hz⟩|⟨gb,cap,cur,rfl,eX,yP,r1,r2,r3,r4⟩;have TR:zs=[]:=List.eq_nil_of_length_eq_zero hz;subst TR;refine(Any.slices_Compact_string_empty Kq none 0 w).mono ?_;rintro e w'⟨rfl,rfl⟩;exact⟨none,0,rfl,Below.refl _ _⟩;have hH:Sort.Holds encStr w gb 0 zs.toArray:=holds_of_block yP (by rw[Nat.mul_one]at r4;exact r4);refine(Any.slices_Compact_string Kq gb 0 cap zs w hH (by omega) (by omega)).mono ?_;rintro e w'⟨rfl,q,rfl⟩;refine⟨_,_,rfl,?_⟩;have aM:gb<w.heap.size:=(Array.getElem?_eq_some_iff.1 yP).1;have hg:∀d:Array (List UInt8),w.grownBy (Sort.putRow encStr (Sort.ahead w q) gb 0 d) (some gb):=λd=>by refine⟨rfl,rfl,rfl,by simp,λk hk cE=>?_⟩;have:gb≠k:=λe=>cE (by rw[e]);simp[Sort.putRow,Sort.mapBlock,Sort.ahead,Array.getElem?_modify,this]
 exact(Below.refl C w).grown (hg _) (by omega) (λj hj=>by cases hj;exact eX)
def ti zs:(Lib.compact (sorted zs)).length<zs.length↔ ¬zs.Nodup:=by
 have hp:(sorted zs).Perm zs:=List.mergeSort_perm _ _;have hs:(sorted zs).Pairwise λx y=>decide (x<=y)=true:=List.pairwise_mergeSort (λa b c h1 h2=>by simp only[decide_eq_true_eq]at h1 h2|-;exact List.le_trans h1 h2) (λa b=>by simpa using List.le_total a b) zs;rw[<-hp.nodup_iff,<-hp.length_eq];generalize sorted zs=ss at hs;have kM:∀j (h:j<ss.length),ss.toArray[j]! =ss[j]:=λj h=>by simp[getElem!_pos,h]
 constructor;intro aM hn;rw[Lib.compact_all ss (λj hj=>by simp only[Lib.keeps,decide_eq_true_eq];by_cases h0:j=0;exact .inl h0;refine .inr ?_;rw[kM j hj,kM (j-1) (by omega)];intro e;have:=(List.getElem_inj hn).1 e;omega)]at aM;omega;intro hn;have cE:∃j,j<ss.length/\Lib.keeps ss.toArray j=false:=by refine Classical.byContradiction λhc=>hn ?_;have Sv:∀j,j<ss.length->0<j->ss.toArray[j]! ≠ss.toArray[j-1]! :=λj hj h0 e=>hc ⟨j,hj,Lib.keeps_neg h0 e⟩;rw[List.nodup_iff_pairwise_ne];rw[List.pairwise_iff_getElem]at hs|-;intro i j hi hj kx e;have h1:=Sv j hj (by omega);rw[kM j hj,kM (j-1) (by omega)]at h1;refine h1 (List.le_antisymm ?_ ?_);rw[<-e];by_cases h2:i=j-1;subst h2;exact List.le_refl _;simpa using hs i (j-1) hi (by omega) (by omega);simpa using hs (j-1) j (by omega) hj (by omega)
 obtain⟨j,hj,hk⟩:=cE;unfold Lib.compact Lib.compactUpTo;rw[List.length_map];have h1:=List.length_filter_lt_length_iff_exists (p:=Lib.keeps ss.toArray) (l:=List.range ss.length);have h2:((List.range ss.length).filter (Lib.keeps ss.toArray)).length< (List.range ss.length).length:=h1.2 ⟨j,List.mem_range.2 hj,by rw[hk];simp⟩;simpa using h2
end
section
open Go.RowKit ba
namespace Tz
abbrev B:=List UInt8
def Fo(t:B):List Value:=if t=[]then dc else ai t
def wJ(L:List B):List Value:=(L.map Fo).flatten
def kE t:(Fo t).length=33:=by unfold Fo;split;exact bq;exact aE t
def Zx:Fo []=dc:=by unfold Fo;rw[if_pos rfl]
def Fl{t:B}(h:t≠ []):Fo t=ai t:=by unfold Fo;rw[if_neg h]
def UD t:(Fo t)[0]? =some (.string (str t)):=by unfold Fo;split;rename_i h;subst h;rfl;rfl
def jQ t L:wJ (t::L)=Fo t++wJ L:=rfl
theorem qm:∀L,(wJ L).length=33*L.length
 |[]=>rfl|t::L=>by rw[jQ,List.length_append,kE,qm L,List.length_cons];omega
theorem Lj:∀(L:List B),(∀t∈L,t≠ [])->wJ L=aK L
 |[],_=>rfl|t::L,h=>by rw[jQ,Lj L (λx hx=>h x (List.mem_cons_of_mem _ hx)),Fl (h t List.mem_cons_self)];rfl
theorem yG:∀L i j,i<L.length->j<33->(wJ L)[33*i+j]? =(Fo (L.getD i []))[j]?
 |[],i,j,hi,_=>by simp at hi|t::L,0,j,_,hj=>by have:=kE t;rw[jQ,List.getElem?_append_left (by omega)];simp|t::L,i+1,j,hi,hj=>by have:=kE t;rw[jQ,List.getElem?_append_right (by omega),show 33*(i+1)+j-(Fo t).length=33*i+j by omega,yG L i j (by simpa using hi) hj];rfl
theorem Oc:∀L i t,i<L.length->wJ (L.set i t)=(wJ L).take (33*i)++Fo t++(wJ L).drop (33*i+33)
 |[],i,t,h=>by simp at h|u::L,0,t,_=>by have hu:=kE u;rw[List.set_cons_zero,jQ,jQ,Nat.mul_zero,List.take_zero,List.nil_append,Nat.zero_add,List.drop_left' hu]|u::L,i+1,t,h=>by have hu:=kE u;rw[List.set_cons_succ,jQ,jQ,Oc L i t (by simpa using h),show 33*(i+1)=(Fo u).length+33*i by omega,List.take_length_add_append,show(Fo u).length+33*i+33=(Fo u).length+(33*i+33)by omega,List.drop_length_add_append];simp only[List.append_assoc]
def At(w:World)(T:Nat)(L:List B):Prop:=w.heap[T]? =some (.cells (wJ L).toArray 69 (0,0))
section
variable{w w':World}{T:Nat}{L:List B}
def At.lt(h:At w T L):T<w.heap.size:=(Array.getElem?_eq_some_iff.1 h).1
def At.of_block(h:At w T L)(e:w'.heap[T]? =w.heap[T]?):At w' T L:=e.trans h
def At.below{C}(h:At w T L)(hb:Below C w w')(hT:T<C):At w' T L:=h.of_block (hb.block T hT)
def At.range(h:At w T L) i(hi:i<L.length):w.rangeAt T (33*i) (Fo (L.getD i [])):=λj v hv=>by
 have hj:j<33:=by have:=(List.getElem?_eq_some_iff.1 hv).1;rwa[kE]at this
 rw[Go.cell_of_row w T (33*i+j) _ _ _ h,List.getElem?_toArray,yG L i j hi hj];exact hv
def At.bytes(h:At w T L) i(hi:i<L.length):w.cell? ⟨T,33*i,none⟩=some (.string (str (L.getD i []))):=h.range i hi 0 _ (UD _)
def At.there(h:At w T L) i(hi:i<L.length):w.there T (33*i) 33:=λj hj=>by refine⟨?_,?_⟩;rw[Go.cell_of_row w T (33*i+j) _ _ _ h,List.getElem?_toArray,yG L i j hi hj,List.getElem?_eq_getElem (by rw[kE];exact hj)];rfl;have h':w.heap[T]? =some (.cells (wJ L).toArray 69 (0,0)):=h;unfold World.frozen?;simp[h']
def heap_set{l:List Value}{t fr}(h:w.heap[T]? =some (.cells l.toArray t fr)) o v:(w.setCell ⟨T,o,none⟩ v).heap[T]? =some (.cells (l.set o v).toArray t fr):=by obtain⟨aM,hk⟩:=Array.getElem?_eq_some_iff.1 h;show(w.heap.modify T _)[T]? =_;rw[Array.getElem?_eq_getElem (by rw[Array.size_modify];exact aM),Array.getElem_modify_self,hk];simp
theorem ET{t fr}:∀vs o (w:World)(l:List Value),w.heap[T]? =some (.cells l.toArray t fr)->o+vs.length<=l.length->(w.setCells T o vs).heap[T]? =some (.cells (l.take o++vs++l.drop (o+vs.length)).toArray t fr)
 |[],o,w,l,h,_=>by rw[World.setCells,h];simp|v::vs,o,w,l,h,hl=>by
  rw[List.length_cons]at hl;rw[World.setCells,ET vs (o+1) _ (l.set o v) (heap_set h o v) (by rw[List.length_set];omega)];have ho:o<l.length:=by omega
  congr 3;apply List.ext_getElem?;intro i;have e1:(List.take (o+1) (l.set o v))=l.take o++[v]:=by rw[List.take_succ_eq_append_getElem (by rw[List.length_set];exact ho),List.getElem_set_self,List.take_set_of_le ν]
  have e2:List.drop (o+1+vs.length) (l.set o v)=l.drop (o+1+vs.length):=by rw[List.drop_set_of_lt (by omega)]
  rw[e1,e2,List.length_cons,show o+1+vs.length=o+(vs.length+1)by omega];simp
def At.put(h:At w T L) i t(hi:i<L.length):At (w.setCells T (33*i) (Fo t)) T (L.set i t):=by unfold At;rw[ET (Fo t) (33*i) w (wJ L) h (by rw[kE,qm];omega),kE,Oc L i t hi]
def At.own(h:At w T L){C:Nat}(hC:C<=T)(hn:L.length<=1000):w.ownsRow C 69 33 (.slice (some ⟨T,0,none⟩) L.length L.length) L.length (wJ L):=by refine⟨by rw[qm];omega,.inr ⟨T,L.length,_,rfl,hC,h,ν,by unfold maxLen;omega,by simp[qm];omega,?_⟩⟩;simp only;rw[List.take_of_length_le (by rw[qm];omega)]
def zy w T o vs C:cA C T w (w.setCells T o vs):=by
 have:=(aV.setCells (g:=T) vs o w (aV.refl _ w));exact⟨this.os,this.tape,this.output,this.size,λk hk cE=>by
 by_cases hl:k<w.heap.size;exact this.block k hl cE;have hs:(w.setCells T o vs).heap.size=w.heap.size:=by clear this hk cE hl;induction vs generalizing o w with|nil=>rfl|cons v vs ih=>rw[World.setCells,ih];simp[World.setCell]
 rw[Array.getElem?_eq_none (by omega),Array.getElem?_eq_none (by omega)]⟩
end
def V4 z n i(h:i<n):(madeCells z n)[i]? =some z[i % z.size]! :=by unfold madeCells;rw[Array.getElem?_map,Array.getElem?_range,if_pos h];rfl
def V3 n:madeCells (Value.agg dc.toArray).cells (n*33)=(wJ (List.replicate n [])).toArray:=by
 apply Array.ext_getElem?;intro i;by_cases h1:i<n*33;have e:i=33*(i/33)+i % 33:=(Nat.div_add_mod i 33).symm;have hm:i % 33<33:=Nat.mod_lt _ (by omega);have hd:i/33<n:=by omega
 have hg:=yG (List.replicate n []) (i/33) (i % 33) (by rw[List.length_replicate];exact hd) hm;rw[<-e,List.getD_eq_getElem?_getD,List.getElem?_replicate,if_pos hd,show(some ([]:B)).getD []=[]from rfl,Zx]at hg;have hz:(Value.agg dc.toArray).cells=dc.toArray:=rfl;have hq:dc[i % 33]? =some (dc[i % 33]'(by rw[bq];exact hm)):=List.getElem?_eq_getElem _;rw[V4 _ _ _ h1,List.getElem?_toArray,hg,hq,hz,show dc.toArray.size=33 by rw[List.size_toArray,bq],getElem!_pos dc.toArray (i % 33) (by rw[List.size_toArray,bq];exact hm)];rfl;rw[Array.getElem?_eq_none (by rw[size_madeCells];omega),Array.getElem?_eq_none (by rw[List.size_toArray,qm,List.length_replicate];omega)]
def V0(w:World)(n:Nat)(hn:n<=1000):(Instr.makeSlice 38 (.int .i64 (n:Int)) (.int .i64 (n:Int))).run prog w=.ok (.slice (some ⟨w.heap.size,0,none⟩) n n) (w.alloc (.cells (wJ (List.replicate n [])).toArray 69)):=by obtain⟨i0,fy,nB,ku,gK⟩:=info_parts qI;have:=run_make w 38 69 i0 _ underlying38 fy nB .i64 .i64 (n:Int) (n:Int) (by omega) (by omega) (by rw[gK];omega) (by omega);rw[ku,Int.toNat_natCast,V3]at this;exact this
end Tz
namespace Wr
def Pos{α:Type}(x:R α):Prop:=∀e,x=.bad e->e≠0
def Pos.ok{α}(a:α) r:Pos (.ok a r):=λe h=>by cases h
def Pos.bind{α β x}{f:α->List UInt8->R β}(h:Pos x)(k:∀a r,Pos (f a r)):Pos (x.bind f):=λe he=>by
 cases x with
 |bad n=>have Py:R.bad (α:=β) n=.bad e:=he;cases Py;exact h _ rfl
 |ok a r=>exact k a r e he
def Pos.map{α β x}(f:α->β)(h:Pos x):Pos (x.map f):=λe he=>by
 cases x with
 |bad n=>cases he;exact h _ rfl
 |ok a r=>cases he
def Pos.void{α}{x:R α}(h:Pos x):Pos x.void:=λe he=>by
 cases x with
 |bad n=>cases he;exact h _ rfl
 |ok a r=>cases he
def Pos.ite{α p}[Decidable p]{x y:R α}(h:Pos x)(k:Pos y):Pos (if p then x else y):=by split<;>assumption
theorem Pos.bad{α n}(h:n≠0):Pos (α:=α) (.bad n):=λe he=>by cases he;exact h
def fB n l:Pos (take n l):=by unfold take;exact .ite (.bad (by decide)) (.ok _ _)
def size_pos l:Pos (size l):=(fB 1 l).bind λt r=>.ite (.ok _ _) ((fB _ _).bind λ_ _=>.ite (.bad (by decide)) (.ok _ _))
def mQ lo hi l:Pos (cM lo hi l):=(size_pos l).bind λx r=>.ite (.bad (by decide)) (.ok _ _)
def zE l:Pos (script l):=(mQ _ _ l).bind λn r=>(fB n r).void
def aaw l:Pos (nA l):=(fB _ l).bind λ_ r=>(zE r).bind λ_ r=>(fB 4 r).void
def VD l:Pos (fN l):=(fB _ l).bind λ_ r=>zE r
theorem FO{p}(hp:∀l,Pos (p l)):∀n l,Pos (rep p n l)
 |0,_=>.ok _ _|n+1,l=>(hp l).bind λ_ r=>FO hp n r
def UB l:Pos (tx l):=((fB _ l).bind λ_ r=>(mQ _ _ r).bind λn r=>(FO aaw n r).bind λ_ r=>(mQ _ _ r).bind λn r=>(FO VD n r).bind λ_ r=>(fB 4 r).void).bind λ_ _=>.ok _ _
theorem Od:∀n l,Pos (bE n l)
 |0,_=>.ok _ _|n+1,l=>(UB l).bind λ_ r=>(Od n r).map _
theorem Ex bound:∀n next l,Pos (fE bound n next l)
 |0,_,_=>.ok _ _|n+1,_,l=>((size_pos l).bind λd r=>.ite (.bad (by decide)) (.ok _ _)).bind λi r=>(UB r).bind λ_ r=>(Ex bound n (i+1) r).map _
theorem DZ k:∀n l,Pos (iN k n l)
 |0,_=>.ok _ _|n+1,l=>(fB _ l).bind λ_ r=>(DZ k n r).map _
def PT{α}{x:R α}(h:Pos x):Pos (fin x):=h.bind λa r=>.ite (.ok _ _) (.bad (by decide))
def abr l:Pos (cg l):=PT ((fB _ l).bind λ_ r=>(fB _ r).bind λ_ r=>(mQ _ _ r).bind λ_ r=>(DZ _ _ r).bind λss r=>(mQ _ _ r).bind λm r=>.ite (.bad (by decide)) ((Ex _ _ _ _).map _))
def Ov l:Pos (dO l):=PT ((fB _ l).bind λ_ r=>(mQ _ _ r).bind λn r=>(Od n r).map _)
end Wr
def OE{w B n e v l}(h:w.ownsRow B e 1 v n (wt l))(hn:n=l.length):fH w v l:=by by_cases h0:n=0;obtain⟨a,c,rfl⟩:=aO h;exact .inl ⟨a,c,by rw[h0],List.length_eq_zero_iff.1 (by omega)⟩;obtain⟨g,cap,rfl,_,hg,nj⟩:=fK h (by omega);refine .inr ⟨g,0,cap,by rw[hn],hg,λj hj=>?_⟩;rw[Nat.zero_add,nj j (by omega)];exact wtq l j hj
def F6(mb:Nat)(a b c:Value):List Value:=[.map (some mb),a,b,c]
def vl{w rb mb a b c}(h:dw w rb (F6 mb a b c)):dw (((w.setCell ⟨rb,1,none⟩ (.string (str []))).setCell ⟨rb,2,none⟩ (.slice none 0 0)).setCell ⟨rb,3,none⟩ (.slice none 0 0)) rb (oB mb):=((h.set 1 (.string (str []))).set 2 (.slice none 0 0)).set 3 (.slice none 0 0)
def Kp(l:List UInt8)(n rb mb:Nat)(va vb vc:Value)(w:World)(hT:cG w)(hl:l.length<=9223372036854775807)(lQ:1<rb)(hR:dw w rb (F6 mb va vb vc))(hx:Wr.cg l=.bad n):Calls prog 15 #[.pointer (some ⟨rb,0,none⟩),.string (str l)] w λe w'=>e=.returned (.tuple #[.agg (an 0 []).toArray,.int .i64 (n:Int)])/\dw w' rb (oB mb)/\cA w.heap.size rb w w':=by
 have hb:=hR.lt;have gM:=hT.lt;have hn:=Wr.abr l n hx;have p1:¬(n:Int)=0:=by omega
 have rA:Row (w.alloc (.cells (an 0 []).toArray 48)) w.heap.size (an 0 []):=Row.new w _ _;have hB:cA w.heap.size rb w (w.alloc (.cells (an 0 []).toArray 48)):=(cA.refl _ _ _).alloc ν _;rw[show(an 0 []).toArray=#[Value.int .i64 0,.string (str [])]from rfl]at rA hB;have R1:=η (hR.alloc (.cells #[Value.int .i64 0,.string (str [])] 48));have HT:=η hT;have HX:=η hx;clear hT hR hx;go_enter func15,ntmps15;go_upto_region 1 with fail;generalize World.alloc _ _=w1 at rA hB R1|-;have f1:=R1.o.free 1;have f2:=R1.o.free 2;have f3:=R1.o.free 3;have c1:=R1.o.cell 1;have c2:=R1.o.cell 2;have c3:=R1.o.cell 3;have R2:=η (vl R1.o);have A2:=η (((rA.other (show rb≠w.heap.size by omega) _).other (show rb≠w.heap.size by omega) _).other (show rb≠w.heap.size by omega) _:Row (((w1.setCell ⟨rb,1,none⟩ (.string (str []))).setCell ⟨rb,2,none⟩ (.slice none 0 0)).setCell ⟨rb,3,none⟩ (.slice none 0 0)) w.heap.size _);have B2:=η (((hB.et 1 _).et 2 _).et 3 _:cA w.heap.size rb w (((w1.setCell ⟨rb,1,none⟩ (.string (str []))).setCell ⟨rb,2,none⟩ (.slice none 0 0)).setCell ⟨rb,3,none⟩ (.slice none 0 0)));clear rA hB R1;go_upto_region 2 with fail;clear f1 f2 f3 c1 c2 c3;generalize World.setCell _ _ _=w2 at R2 A2 B2|-;have T1:=η (ij l w2 (B2.o.sj HT.o gM lQ) hl);rw[HX.o]at T1;have Gv:=A2.o.lt;have J0:=R2.o.lt;go_wp2_with fail;refine T1.o.mono ?_;clear T1;rintro e w3⟨rfl,gG⟩;have hd:=Row.new w3 fc 82;have JW:=(Below.refl w3.heap.size w3).alloc ν (.cells fc.toArray 82);have qK:=below_setRow JW ν fc.toArray;have lL:=gG.size;have R4:=η ((R2.o.below gG J0).below qK (by omega));have A4:=η ((A2.o.below gG Gv).below qK (by omega));have B4:=η ((B2.o.trans (cA.aH (gG.mono B2.o.size))).trans (cA.aH (qK.mono (by omega))));rw[show fc.toArray=#[Value.string (str []),.string (str []),.slice none 0 0,.slice none 0 0,.slice none 0 0]from rfl]at hd R4 A4 B4;clear gG JW qK R2 A2 B2;go_upto_region 3 with(with_reducible refine au (o:=⟨none,_,_,_,_,_⟩) rfl _ _ _ rfl w3.heap.size fc fc rfl rfl hd (cK.trans rfl) rfl (by decide +kernel) ?_);clear hd;rw[show fc.toArray=#[Value.string (str []),.string (str []),.slice none 0 0,.slice none 0 0,.slice none 0 0]from rfl];generalize World.setRow _ _ _=w4 at R4 A4 B4|-;have wZ:=A4.o;go_wp2_with (first|(refine nu (o:=⟨some 31,_,_,_,_,_⟩) rfl rfl ?_)|(with_reducible refine au (o:=⟨none,_,_,_,_,_⟩) rfl _ _ _ rfl w.heap.size (an 0 []) (an 0 []) rfl rfl wZ (aX.trans rfl) rfl rfl ?_));have S5:=wZ.setRow (an 0 []);refine bodyPost_ret (v:=.tuple #[.agg (an 0 []).toArray,.int .i64 (n:Int)]) (cn rfl _ _ w.heap.size (an 0 []) (.int .i64 (n:Int)) rfl rfl S5 _ underlying48 (aX.trans rfl)) rfl ?_;exact⟨rfl,R4.o.aG (by omega) _,B4.o.trans (cA.aH (below_setRow (Below.refl _ _) ν _))⟩
def Ko(l:List UInt8)(c:Wr.Cb)(rr:List UInt8)(rb mb:Nat)(va vb vc:Value)(w:World)(hT:cG w)(hl:l.length<=9223372036854775807)(lQ:1<rb)(hR:dw w rb (F6 mb va vb vc))(hx:Wr.cg l=.ok c rr)(hd:¬c.ae.Nodup):Calls prog 15 #[.pointer (some ⟨rb,0,none⟩),.string (str l)] w λe w'=>e=.returned (.tuple #[.agg (an 3 []).toArray,.int .i64 0])/\dw w' rb (oB mb)/\cA w.heap.size rb w w':=by
 have hb:=hR.lt;have gM:=hT.lt;have dR:=Wr.GB hx;have aa0:=(ti c.ae).2 hd;clear hd;have rA:Row (w.alloc (.cells (an 0 []).toArray 48)) w.heap.size (an 0 []):=Row.new w _ _;have hB:cA w.heap.size rb w (w.alloc (.cells (an 0 []).toArray 48)):=(cA.refl _ _ _).alloc ν _;rw[show(an 0 []).toArray=#[Value.int .i64 0,.string (str [])]from rfl]at rA hB;have R1:=η (hR.alloc (.cells #[Value.int .i64 0,.string (str [])] 48));have HT:=η hT;have HX:=η hx;clear hT hR hx;go_enter func15,ntmps15;go_upto_region 1 with fail;generalize World.alloc _ _=w1 at rA hB R1|-;have f1:=R1.o.free 1;have f2:=R1.o.free 2;have f3:=R1.o.free 3;have c1:=R1.o.cell 1;have c2:=R1.o.cell 2;have c3:=R1.o.cell 3;have R2:=η (vl R1.o);have A2:=η (((rA.other (show rb≠w.heap.size by omega) _).other (show rb≠w.heap.size by omega) _).other (show rb≠w.heap.size by omega) _:Row (((w1.setCell ⟨rb,1,none⟩ (.string (str []))).setCell ⟨rb,2,none⟩ (.slice none 0 0)).setCell ⟨rb,3,none⟩ (.slice none 0 0)) w.heap.size _);have B2:=η (((hB.et 1 _).et 2 _).et 3 _:cA w.heap.size rb w (((w1.setCell ⟨rb,1,none⟩ (.string (str []))).setCell ⟨rb,2,none⟩ (.slice none 0 0)).setCell ⟨rb,3,none⟩ (.slice none 0 0)));clear rA hB R1;go_upto_region 2 with fail;clear f1 f2 f3 c1 c2 c3;generalize World.setCell _ _ _=w2 at R2 A2 B2|-;have T1:=η (ij l w2 (B2.o.sj HT.o gM lQ) hl);rw[HX.o]at T1;have Gv:=A2.o.lt;have J0:=R2.o.lt;go_wp2_with fail;refine T1.o.mono ?_;clear T1;rintro e w3⟨sv,av,tv,rfl,xz,gG⟩;have xz:Own3 w2.heap.size c sv av tv w3:=xz;have WZ:=tV xz;have hd:=Row.new w3 fc 82;have JW:=(Below.refl w3.heap.size w3).alloc ν (.cells fc.toArray 82);have qK:=below_setRow JW ν (cc c.header c.aI sv av tv).toArray;have lL:=gG.size;have R4:=η ((R2.o.below gG J0).below qK (by omega));have A4:=η ((A2.o.below gG Gv).below qK (by omega));have B4:=η ((B2.o.trans (cA.aH (gG.mono B2.o.size))).trans (cA.aH (qK.mono (by omega))));have D4:=η (hd.setRow (cc c.header c.aI sv av tv));have O4:=η (show Own3 w2.heap.size c sv av tv _ from⟨aB xz.1 qK ν,aB xz.2.1 qK ν,aB xz.2.2 qK ν⟩);rw[show fc.toArray=#[Value.string (str []),.string (str []),.slice none 0 0,.slice none 0 0,.slice none 0 0]from rfl]at hd R4 A4 B4 D4 O4;clear gG JW qK R2 A2 B2 xz;go_upto_region 3 with(with_reducible refine au (o:=⟨none,_,_,_,_,_⟩) rfl _ _ _ rfl w3.heap.size fc (cc c.header c.aI sv av tv) rfl rfl hd (cK.trans rfl) rfl WZ ?_);clear hd WZ;generalize World.setRow _ _ _=w4 at R4 A4 B4 D4 O4|-;obtain⟨D,hD⟩:∃D,w3.heap.size=D:=⟨_,rfl⟩;rw[hD]at D4 lL|-;clear hD;have hD4:=D4.o.lt;obtain⟨sa,sc,rfl⟩:=aO O4.o.1;have ur:=D4.o.cell 2;rw[show(cc c.header c.aI (.slice sa c.ae.length sc) av tv)[2]? =some (.slice sa c.ae.length sc)from rfl]at ur;have hnn:=dR.le;go_wp2_with fail;refine(rF sa c.ae.length sc w4).mono ?_;rintro e w5⟨rfl,rfl⟩;have ky:Below w4.heap.size w4 (w4.alloc (.cells #[.slice sa c.ae.length sc] 42)):=(Below.refl _ _).alloc ν _;have R5:=η (R4.o.below ky R4.o.lt);have A5:=η (A4.o.below ky A4.o.lt);have D5:=η (D4.o.below ky hD4);have B5:=η (B4.o.trans (cA.aH (ky.mono B4.o.size)));have O5:=η (show Own3 w2.heap.size c (.slice sa c.ae.length sc) av tv _ from⟨aB O4.o.1 ky ν,aB O4.o.2.1 ky ν,aB O4.o.2.2 ky ν⟩);have T5:=η (tj w4.heap.size (.slice sa c.ae.length sc) c.ae (by omega) (w4.alloc (.cells #[.slice sa c.ae.length sc] 42)) w4 (by simp) (by have:=(Row.new w4 [.slice sa c.ae.length sc] 42).cell 0;exact this) (OE O4.o.1 rfl) ky);clear ky R4 A4 D4 B4 O4 ur;generalize hw5:w4.alloc _=w5 at R5 A5 D5 B5 O5 T5|-;have alA:w5.heap.size=w4.heap.size+1:=by rw[<-hw5];simp
 clear hw5;go_wp2_with fail;refine T5.o.mono ?_;clear T5;rintro e w6⟨zv,rfl,hz,pQ⟩;obtain⟨za,zc,rfl⟩:=aO hz;have hzl:(sorted c.ae).length=c.ae.length:=(List.mergeSort_perm _ _).length_eq;have Z6:=η (show w6.ownsRow w5.heap.size 9 1 (.slice za c.ae.length zc) (sorted c.ae).length (wt (sorted c.ae))by rw[hzl];exact hz);have R6:=η (R5.o.below pQ R5.o.lt);have A6:=η (A5.o.below pQ A5.o.lt);have D6:=η (D5.o.below pQ D5.o.lt);have B6:=η (B5.o.trans (cA.aH (pQ.mono B5.o.size)));have Q6:=η pQ;have aaH:=pQ.size;clear hz pQ R5 A5 D5 B5;go_upto_region 6 with fail;have rn:∀u:ax.Of (λu=>Row u D (cc c.header c.aI (.slice sa c.ae.length sc) av tv)),u.w.cell? ⟨D,2,none⟩=some (.slice sa c.ae.length sc):=λu=>u.h.cell 2;haveI cE:Nonempty (ax.Of (λu=>Row u D (cc c.header c.aI (.slice sa c.ae.length sc) av tv))):=⟨⟨w6,D6.o⟩⟩;refine ax.bM [0,3,4,5] 3 mixed (by kernel_rfl) rfl rfl (λc a d v w h=>by cases d<;>exact h) (by as_aux_lemma=>kernel_rfl) rfl (λu=>Row u D (cc c.header c.aI (.slice sa c.ae.length sc) av tv)) D6.o.drew ?_;show wpQuiet _ _ _ _ [_,_,_,_] _;repeat(go_big_quiet_step (fail))
 refine wpQuiet_nil ?_;clear rn;have R7:=η R6.o.drew;have A7:=η A6.o.drew;have D7:=η D6.o.drew;have B7:=η B6.o.drew;have Q7:=η Q6.o.drew;have ahW:w5.heap.size<=w6.drew.heap.size:=aaH;have T7:=η (rU w5.heap.size _ (sorted c.ae) w6.drew Z6.o (by rw[hzl];omega));clear R6 A6 D6 B6 Q6 Z6;generalize w6.drew=w7 at R7 A7 D7 B7 Q7 T7 ahW|-;generalize hq:(Lib.compact (sorted c.ae)).length=q at T7 aa0;clear hq;refine ax.one 1 _ (by kernel_rfl) rfl rfl ?_;try go_frame
 go_wp2_with fail;refine T7.o.mono ?_;clear T7;rintro e w8⟨ka,kc,rfl,Sw⟩;have hD8:D<w5.heap.size:=by omega
 have R8:=η (R7.o.below Sw (by omega));have A8:=η (A7.o.below Sw (by omega));have D8:=η (D7.o.below Sw hD8);have B8:=η (B7.o.trans (cA.aH (Sw.mono (by have:=B7.o.size;have:=A7.o.lt;omega))));have Q8:=Q7.o.trans Sw;have O8:=η (show Own3 w2.heap.size c (.slice sa c.ae.length sc) av tv w8 from⟨aB O5.o.1 Q8 ν,aB O5.o.2.1 Q8 ν,aB O5.o.2.2 Q8 ν⟩);have S8:ax.cls (λu=>Row u D (cc c.header c.aI (.slice sa c.ae.length sc) av tv)) w8:=ax.aq D8.o;clear Sw R7 A7 D7 B7 Q7 Q8 O5;go_wp2_with fail;refine⟨S8,?_⟩;refine ax.one 2 _ (by kernel_rfl) rfl rfl ?_;try go_frame
 go_wp2_with fail;refine⟨S8,?_⟩;refine ax.one 6 _ (by kernel_rfl) rfl rfl ?_
 try go_frame
 go_wp2_with fail;refine⟨S8,?_⟩;refine wpAnyH_done (by kernel_rfl) ?_ 0
 try go_frame
 have p1:(q:Int)< (c.ae.length:Int):=by omega
 have rA8:=A8.o;go_wp2_with (first|(refine wC (o:=⟨some 44,_,_,_,_,_⟩) rfl _ rfl 3 rfl ?_)|(with_reducible refine au (o:=⟨none,_,_,_,_,_⟩) rfl _ _ _ rfl w.heap.size (an 0 []) (an 3 []) rfl rfl rA8 (aX.trans rfl) rfl rfl ?_));have S9:=rA8.setRow (an 3 []);refine bodyPost_ret (v:=.tuple #[.agg (an 3 []).toArray,.int .i64 0]) (cn rfl _ _ w.heap.size (an 3 []) (.int .i64 0) rfl rfl S9 _ underlying48 (aX.trans rfl)) rfl ?_;exact⟨rfl,R8.o.aG (by omega) _,B8.o.trans (cA.aH (below_setRow (Below.refl _ _) ν _))⟩
end
