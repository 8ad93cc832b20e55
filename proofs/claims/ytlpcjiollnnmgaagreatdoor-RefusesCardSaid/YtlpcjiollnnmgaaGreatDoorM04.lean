import Derived.Test.YtlpcjiollnnmgaaGreatDoorM03
import Derived.Maps.Ext
import Derived.Shelf.Sort.Plain
import Derived.Sort.KeysCollected
import Derived.Sort.OwnSorted
import Derived.RangeFuncNested
import Derived.RangeFuncBound
import Derived.Shelf.Slices.CompactS
set_option maxRecDepth 100000
set_option maxHeartbeats 8000000
set_option linter.all false
namespace Go.Proofs.YtlpcjiollnnmgaaGreatDoor
open Go.Proofs.Tryz
section
open Go.RowKit Nums
def wpQuiet_val{P ops rest o a C Q v}(hw:Region.wanted o (yielded ops a.tmps)=true)(hv:∀w,C w->(execOp a.eval o).run P w=.ok (.value v) w) (h:wpQuiet P ops C Q rest (a.put o.dst v)):wpQuiet P ops C Q (o::rest) a:=by unfold wpQuiet;rw[if_pos hw];refine⟨v,λw hC=>?_,h⟩;have:=hv w hC;unfold Oper.quietAt;simp only[this,Oper.quietUpon];first|trivial|exact⟨trivial,trivial⟩|exact⟨rfl,rfl⟩|exact⟨rfl,hC⟩
def wpQuiet_convw{P ops rest o a C Q}(hw:Region.wanted o (yielded ops a.tmps)=true) src dst e x(ho:o.op=.convert src dst x) g off n cap l (hl:l.length=n) (hx:a.eval x=.slice (some ⟨g,off,none⟩) n cap) (hs:P.underlying src=some (.slice e)) (he:P.underlying e=some (.int .u8)) (hd:P.underlying dst=some .string) (hb:∀w,C w->Bytes w g off l) (h:wpQuiet P ops C Q rest (a.put o.dst (.string (str l)))):wpQuiet P ops C Q (o::rest) a:=by subst hl;refine wpQuiet_val hw (λw hC=>?_) h;unfold execOp;simp only[ho,hx];rw[Sem.run_bind,conv_bytes w src dst e g off cap l hs he hd (hb w hC)];rfl
def info_Answer:(prog.info? 48).map (·.size)=some 2:=by kernel_rfl
def an(k:Nat)(s:List UInt8):List Value:=[.int .i64 (k:Int),.string (str s)]
def built_An2(k:Int)(s:ByteArray):prog.built 48 [(0,.int .i64 k),(1,.string s)]=some #[.int .i64 k,.string s]:=by kernel_rfl
def built_An1(k:Int):prog.built 48 [(0,.int .i64 k)]=some #[.int .i64 k,.string ByteArray.empty]:=by kernel_rfl
def built_An0:prog.built 48 []=some #[.int .i64 0,.string ByteArray.empty]:=by kernel_rfl
def build_An2{ops:Array Oper}{rest:List Oper}{o:Oper}{a:Act}{w:World}{Q:Exit->Act->World->Prop}(hgd:o.guard=none)(x y:Operand)(ho:o.op=.build 48 #[(0,x),(1,y)]) (k:Nat) (s:List UInt8) (hx:a.eval x=.int .i64 (k:Int)) (hy:a.eval y=.string (str s)) (h:wpList prog ops Q rest (a.put o.dst (.agg (an k s).toArray)) w):wpList prog ops Q (o::rest) a w:=by refine wpList_buildTo hgd 48 _ ho _ rfl _ ?_ h;simp only[List.map_toArray,List.map_cons,List.map_nil,hx,hy];exact built_An2 k (str s)
def build_An1{ops:Array Oper}{rest:List Oper}{o:Oper}{a:Act}{w:World}{Q:Exit->Act->World->Prop}(hgd:o.guard=none)(x:Operand)(ho:o.op=.build 48 #[(0,x)]) (k:Nat) (hx:a.eval x=.int .i64 (k:Int)) (h:wpList prog ops Q rest (a.put o.dst (.agg (an k []).toArray)) w):wpList prog ops Q (o::rest) a w:=by refine wpList_buildTo hgd 48 _ ho _ rfl _ ?_ h;simp only[List.map_toArray,List.map_cons,List.map_nil,hx];exact built_An1 k
def build_An0{ops:Array Oper}{rest:List Oper}{o:Oper}{a:Act}{w:World}{Q:Exit->Act->World->Prop}(hgd:o.guard=none)(ho:o.op=.build 48 #[]) (h:wpList prog ops Q rest (a.put o.dst (.agg (an 0 []).toArray)) w):wpList prog ops Q (o::rest) a w:=by refine wpList_buildTo hgd 48 _ ho _ rfl _ ?_ h;simp only[List.map_toArray,List.map_nil];exact built_An0
def txc_dg{w g t}(h:Row w g (txCells t)):w.rangeAt g 1 (w8 (Mk.twice t)):=λj v hv=>by rw[h.cell];unfold txCells;rw[Nat.add_comm,List.getElem?_cons_succ];exact hv
def rcv4(mb:Nat)(h:List UInt8)(tv mv:Value):List Value:=[.map (some mb),.string (str h),tv,mv]
def rcv0(mb:Nat):List Value:=rcv4 mb [] (.slice none 0 0) (.slice none 0 0)
def RowR(w:World)(b:Nat)(l:List Value):Prop:=w.heap[b]? =some (.cells l.toArray 41 (0,0))
namespace RowR
variable{w w':World}{b:Nat}{l:List Value}
def row(h:RowR w b l):Row w b l:=⟨_,h⟩
theorem cell(h:RowR w b l) i:w.cell? ⟨b,i,none⟩=l[i]?:=h.row.cell i
theorem free(h:RowR w b l) i:w.frozen? ⟨b,i,none⟩=false:=h.row.free i
theorem lt(h:RowR w b l):b<w.heap.size:=h.row.lt
def same(h:RowR w b l)(e:w'.heap[b]? =w.heap[b]?):RowR w' b l:=e.trans h
def set(h:RowR w b l) i v:RowR (w.setCell ⟨b,i,none⟩ v) b (l.set i v):=by have h':w.heap[b]? =some (.cells l.toArray 41 (0,0)):=h;show(w.setCell ⟨b,i,none⟩ v).heap[b]? =_;simp[World.setCell,Array.getElem?_modify,h']
def other(h:RowR w b l){a}(ha:a.block≠b) v:RowR (w.setCell a v) b l:=h.same (Below.heap_setCell _ _ _ _ (Ne.symm ha))
def drew(h:RowR w b l):RowR w.drew b l:=h
def alloc(h:RowR w b l) o:RowR (w.alloc o) b l:=h.same (Below.heap_alloc _ _ _ h.lt)
def below{B}(h:RowR w b l)(hb:Below B w w')(hB:b<B):RowR w' b l:=h.same (hb.block b hB)
def setOther{g}(h:RowR w b l)(hb:b≠g) m:RowR (w.setRow g m) b l:=h.same (setRow_other w g b m hb)
end RowR
def finish_calls(rb mb:Nat)(h:List UInt8)(tv mv:Value)(ts:List (List UInt8))(C:Nat)(w:World)(hT:Tabs w)(h1b:1<rb)(hR:RowR w rb (rcv4 mb h tv mv))(ho:w.ownsRow C 69 33 tv ts.length (txsCells ts)) (hs:∀t∈ts,t.length<=610) (h0:0<ts.length) (hn:ts.length<=16) (hl:h.length=80) (hrC:rb<C):Calls prog 28 #[.pointer (some ⟨rb,0,none⟩)] w λe w'=>e=.returned (.agg (an (Cp.finish h ts).1 (Cp.finish h ts).2).toArray)/\RowR w' rb (rcv0 mb)/\But w.heap.size rb w w':=by
 obtain⟨i0,hi0,hz0,hz1,hz2⟩:=info_parts infoDg3;have HI:=Lib.hid hi0;have hb:=hR.lt;have h1w:=hT.lt;have HS:=Lib.hid hs;obtain⟨gb,cb,rfl,hgb0,hgb,hTA⟩:=own_txs ho h0;have hgr:gb≠rb:=by omega
 have rA:Row (w.alloc (.cells (an 0 []).toArray 48)) w.heap.size (an 0 []):=Row.new w _ _;have hB:But w.heap.size rb w (w.alloc (.cells (an 0 []).toArray 48)):=(But.refl _ _ _).alloc (Nat.le_refl _) _;rw[show(an 0 []).toArray=#[Value.int .i64 0,.string (str [])]from rfl]at rA hB;have hA1:=Lib.hid (hR.alloc (.cells #[Value.int .i64 0,.string (str [])] 48));have HT:=Lib.hid hT;have HTA:=Lib.hid hTA;clear hT hR hs hi0 hTA;have FE:=Lib.hid (show Cp.finish h ts=if(Mk.root (ts.map Mk.twice) false).2=true∨(Mk.root (ts.map Mk.twice) false).1≠(h.drop 36).take 32 then(3,[])else(2,h++(Wr.sizeB ts.length++ts.flatten))from rfl);obtain⟨fin,hfin⟩:∃p,Cp.finish h ts=p:=⟨_,rfl⟩;rw[hfin]at FE|-;clear hfin;go_enter func28,ntmps28;go_upto_region 2 with fail;generalize World.alloc _ _=w1 at rA hB hA1|-;have hcr:=hA1.out.cell 2;rw[show(rcv4 mb h (.slice (some ⟨gb,0,none⟩) ts.length cb) mv)[2]? =some (.slice (some ⟨gb,0,none⟩) ts.length cb)from rfl]at hcr;have RA:=Lib.hid rA;have HB:=Lib.hid hB;obtain⟨A,hA⟩:∃A,w.heap.size=A:=⟨_,rfl⟩;have HA:=Lib.hid hA;have hAlt:=rA.lt;rw[hA]at rA hB hAlt RA hgb hb;clear rA hB;go_wp2_with fail;clear hcr;go_loopw [3,5,14] (λsv pv iv wr=>∃i:Nat,i<=ts.length/\iv=.int .i64 i/\wr.ownsRow w1.heap.size 67 32 sv i (w8 ((ts.map Mk.twice).take i).flatten)/\Below w1.heap.size w1 wr) (λ_ _ iv _=>ts.length-(intOf iv).toNat);exact⟨0,by omega,rfl,World.ownsRow_nil _ _ _ _,Below.refl _ _⟩;obtain⟨i,hi,rfl,hown,hBr⟩:=hrel;have B2:=Lib.hid hown;have B3:=Lib.hid hBr;have hzr:=hBr.size;clear hown hBr;by_cases hlt:i<ts.length
 ·have p0:(i:Int)< (ts.length:Int):=by omega
  have htl:(ts.getD i []).length<=610:=HS.out _ (by rw[List.getD_eq_getElem?_getD,List.getElem?_eq_getElem hlt];exact List.getElem_mem hlt);have hra:wr.rangeAt gb (33*i) (txCells (ts.getD i [])):=rangeAt_of_block (HTA.out i hlt) ((B3.out.block gb (by omega)).trans (HB.out.block gb (by rw[HA.out];omega) hgr));have htk:=Lib.hid (show(ts.map Mk.twice).take (i+1)=(ts.map Mk.twice).take i++[Mk.twice (ts.getD i [])]by rw[List.take_succ_eq_append_getElem (by simpa using hlt),List.getElem_map,List.getD_eq_getElem?_getD,List.getElem?_eq_getElem hlt];rfl);obtain⟨t,hte⟩:∃t,ts.getD i []=t:=⟨_,rfl⟩;rw[hte]at htl hra htk;rw[Nat.mul_comm]at hra;have r1:Row (wr.alloc (.cells tx0.toArray 69)) wr.heap.size tx0:=Row.new wr tx0 69;have bw:=below_setRow ((Below.refl wr.heap.size wr).alloc (Nat.le_refl _) (.cells tx0.toArray 69)) (Nat.le_refl _) (txCells t).toArray;have RT:=Lib.hid (r1.setRow (txCells t));have O2:=Lib.hid (ownN_below B2.out bw (Nat.le_refl _));have B4:=Lib.hid (B3.out.trans (bw.mono hzr));rw[Tryz.zeroTx]at r1 bw RT O2 B4;have hz4:=bw.size;clear bw hte B2 B3;go_upto_region 5 with(first|(refine load_txat (o:=⟨some 17,_,_,_,_,_⟩) rfl _ rfl gb (i*33) t rfl hra ?_)|(with_reducible refine store_cells (o:=⟨none,_,_,_,_,_⟩) rfl _ _ _ rfl wr.heap.size tx0 (txCells t) rfl rfl r1 (infoTx.trans (by rw[txCells_len])) (by rw[txCells_len,tx0_len]) (txCells_one t) ?_));clear r1 hra;generalize World.setRow _ _ _=w2 at RT O2 B4 hz4|-;obtain⟨T,hTe⟩:∃T,wr.heap.size=T:=⟨_,rfl⟩;rw[hTe]at RT hz4 hzr|-;have hdg:=txc_dg RT.out;have hlt2:=RT.out.lt;have L1:=Lib.hid (show∀(j:Nat)(u:Value),(w8 (Mk.twice t))[j]? =some u->(w2.alloc (.cells (w8 (Mk.twice t)).toArray 67)).cell? (Addr.add ⟨w2.heap.size,0,none⟩ j)=some u from λj u hu=>by rw[Addr.add_lit,Nat.zero_add,(Row.new w2 _ _).cell];exact hu);go_wp2_with (first|(refine load_at (o:=⟨some 20,_,_,_,_,_⟩) rfl _ rfl T 1 (Mk.twice t) (twice32 t) rfl hdg ?_)|(refine build_arm (o:=⟨some 21,_,_,_,_,_⟩) rfl _ rfl (Mk.twice t) (twice32 t) rfl ?_)|(at_builtin;refine wpList_append_own _ rfl _ _ 124 rfl w1.heap.size 67 i0 (.agg (w8 (List.replicate 32 0)).toArray) 32 32 underlying124 HI.out hz0 hz1 hz2 rfl (by decide) _ _ _ rfl (O2.out.alloc _) ⟨w2.heap.size,0,none⟩ 1 1 (w8 (Mk.twice t)) rfl (by rw[w8_length,twice32]) L1.out (w8_one _) (by unfold maxLen;omega) (by omega) (by rw[World.size_alloc];omega) ?_;intro uv2 w3 hown3 hgr3 _;have hb3:Below w1.heap.size w2 w3:=((Below.refl w1.heap.size w2).alloc (by omega) _).grown hgr3 (by rw[World.size_alloc];omega) (λk hk=>(O2.out.lt k hk).1);have H1:=Lib.hid hown3;have H2:=Lib.hid hb3;clear hown3 hgr3 hb3))
  go_roundw
  ·((repeat(apply Exists.intro));(first|refine And.intro ?_ rfl|refine And.intro ?_ ⟨rfl,rfl⟩|refine And.intro ?_ ⟨rfl,rfl,rfl⟩);exact⟨i+1,by omega,by go_num,by rw[htk.out,<-flat_snoc];exact H1.out,B4.out.trans H2.out⟩)
  simp[intOf];omega
 obtain rfl:i=ts.length:=by omega
 have hO:=Lib.hid (show wr.ownsRow w1.heap.size 67 32 u3 ts.length (w8 (ts.map Mk.twice).flatten)by have:=B2.out;rwa[List.take_of_length_le (by simp)]at this);have h32:All32 (ts.map Mk.twice):=λd hd=>by obtain⟨t,_,rfl⟩:=List.mem_map.1 hd;exact twice32 t
 have hml:(ts.map Mk.twice).length=ts.length:=List.length_map _;obtain⟨g,k,rfl,hg,hgs,hdg⟩:=own_digs hO.out h0 hml.symm h32;have lD:=Mk.root_len (ts.map Mk.twice) h32 (by omega);have hTw:Tabs wr:=(HB.out.tabs HT.out h1w h1b).below B3.out (by omega);have CR:=hroot_calls g k (ts.map Mk.twice) wr hTw hgs hdg h32 (by omega) (by omega);rw[hml]at CR;have C2:=Lib.hid CR;have RA2:=Lib.hid (RA.out.below B3.out hAlt);have RR2:=Lib.hid (hA1.out.below B3.out hA1.out.lt);have hrl:=hA1.out.lt;have O0:=Lib.hid ho;clear h32 hdg hTw CR hO B2 RA hA1 ho hml;generalize Mk.root (ts.map Mk.twice) false=R at C2 lD FE;obtain⟨r1,r2⟩:=R;dsimp only at FE lD;go_wp2_with fail;refine C2.out.mono ?_;clear C2;rintro e w4⟨rfl,hb4⟩;have hz4:=hb4.size;have B4:=Lib.hid (B3.out.trans (hb4.mono hzr));have RA4:=Lib.hid (RA2.out.below hb4 (by omega));have RR4:=Lib.hid (RR2.out.below hb4 (by omega));clear hb4 B3 RA2 RR2;have hRn:=Row.new w4 (w8 (List.replicate 32 0)) 67;have hBn:=(Below.refl w4.heap.size w4).alloc (Nat.le_refl _) (.cells (w8 (List.replicate 32 0)).toArray 67);have hBr:=below_setRow hBn (Nat.le_refl _) (w8 r1).toArray;have RD:=Lib.hid (hRn.setRow (w8 r1));have B5:=Lib.hid (B4.out.trans (hBr.mono (by omega)));have RA5:=Lib.hid (RA4.out.below hBr (by omega));have RR5:=Lib.hid (RR4.out.below hBr (by omega));rw[Tryz.zeroDg]at hRn RD B5 RA5 RR5;clear hBn hBr B4 RA4 RR4;go_upto_region 8 with(with_reducible refine store_dg (o:=⟨none,_,_,_,_,_⟩) rfl _ _ rfl w4.heap.size (List.replicate 32 0) r1 rfl lD rfl rfl hRn ?_);clear hRn;generalize World.setRow _ _ _=w5 at RD B5 RA5 RR5|-;obtain⟨D,hD⟩:∃D,w4.heap.size=D:=⟨_,rfl⟩;rw[hD]at RD hz4|-;have hD5:=RD.out.lt;clear hD;have hu1:∀u:Reg.Of (λu=>Row u rb (rcv4 mb h (.slice (some ⟨gb,0,none⟩) ts.length cb) mv)),u.w.cell? ⟨rb,1,none⟩=some (.string (str h)):=λu=>u.h.cell 1;have hu2:∀u:Reg.Of (λu=>Row u rb (rcv4 mb h (.slice (some ⟨gb,0,none⟩) ts.length cb) mv)),u.w.cell? ⟨rb,2,none⟩=some (.slice (some ⟨gb,0,none⟩) ts.length cb):=λu=>u.h.cell 2;haveI hne:Nonempty (Reg.Of (λu=>Row u rb (rcv4 mb h (.slice (some ⟨gb,0,none⟩) ts.length cb) mv))):=⟨⟨w5,RR5.out.row⟩⟩;refine Reg.startL [0,1,2,3,4,5,6,7,8] 2 mixed (by kernel_rfl) rfl rfl (λc a d v w h=>by cases d<;>exact h) (by as_aux_lemma=>kernel_rfl) rfl (λu=>Row u rb (rcv4 mb h (.slice (some ⟨gb,0,none⟩) ts.length cb) mv)) RR5.out.row.drew ?_;show wpQuiet _ _ _ _ [_,_,_,_,_,_,_,_,_] _;repeat(go_big_quiet_step (fail))
 refine wpQuiet_nil ?_;clear hu1 hu2;have RD6:=Lib.hid RD.out.drew;have B6:=Lib.hid B5.out.drew;have RA6:=Lib.hid RA5.out.drew;have RR6:=Lib.hid RR5.out.drew;have hD6:D<w5.drew.heap.size:=hD5;clear RD B5 RA5 RR5 hD5;generalize w5.drew=w6 at RD6 B6 RA6 RR6 hD6|-;have hz6:=B6.out.size;have hRb:=Row.new w6 pr0 101;have hBb:=(Below.refl w6.heap.size w6).alloc (Nat.le_refl _) (.cells pr0.toArray 101);have hBc:=below_setRow hBb (Nat.le_refl _) (pr h (.slice (some ⟨gb,0,none⟩) ts.length cb)).toArray;have RB7:=Lib.hid (hRb.setRow (pr h (.slice (some ⟨gb,0,none⟩) ts.length cb)));have RD7:=Lib.hid (RD6.out.below hBc hD6);have B7:=Lib.hid (B6.out.trans (hBc.mono (by omega)));have RA7:=Lib.hid (RA6.out.below hBc (by omega));have RR7:=Lib.hid (RR6.out.below hBc (by omega));rw[show pr0.toArray=#[Value.string (str []),.slice none 0 0]from rfl]at hRb RB7 RD7 B7 RA7 RR7;have hS6:=RR6.out.row.alloc (.cells #[Value.string (str []),.slice none 0 0] 101);clear hBb hBc RD6 B6 RA6 RR6;refine Reg.one 9 _ (by kernel_rfl) rfl rfl ?_;try go_frame
 go_wp2_with fail;refine⟨Reg.cls_mk hS6,?_⟩;refine Reg.one 10 _ (by kernel_rfl) rfl rfl ?_
 refine store_cells rfl _ _ _ rfl w6.heap.size pr0 (pr h (.slice (some ⟨gb,0,none⟩) ts.length cb)) rfl rfl hRb (info_Block.trans rfl) rfl (pr_one h rfl) ?_;clear hRb hS6;generalize World.setRow _ _ _=w7 at RB7 RD7 B7 RA7 RR7|-;obtain⟨K,hK⟩:∃K,w6.heap.size=K:=⟨_,rfl⟩;rw[hK]at RB7 hD6 hz6|-;clear hK;have hK7:=RB7.out.lt;refine⟨Reg.cls_mk RR7.out.row,?_⟩;refine wpAnyH_done (by kernel_rfl) ?_ 0;try go_frame
 have f1:=RR7.out.free 1;have f2:=RR7.out.free 2;have f3:=RR7.out.free 3;have c1:=RR7.out.cell 1;have c2:=RR7.out.cell 2;have c3:=RR7.out.cell 3;have RR8:=Lib.hid (show RowR (((w7.setCell ⟨rb,1,none⟩ (.string (str []))).setCell ⟨rb,2,none⟩ (.slice none 0 0)).setCell ⟨rb,3,none⟩ (.slice none 0 0)) rb (rcv0 mb)from((RR7.out.set 1 (.string (str []))).set 2 (.slice none 0 0)).set 3 (.slice none 0 0));go_upto_region 10 with fail;have NB:=Lib.hid (show But w.heap.size rb w (((w7.setCell ⟨rb,1,none⟩ (.string (str []))).setCell ⟨rb,2,none⟩ (.slice none 0 0)).setCell ⟨rb,3,none⟩ (.slice none 0 0))from(((HB.out.trans (But.of_below (B7.out.mono HB.out.size))).setOwn 1 _).setOwn 2 _).setOwn 3 _);have RD8:=Lib.hid (((RD7.out.other (show rb≠D by omega) _).other (show rb≠D by omega) _).other (show rb≠D by omega) _:Row (((w7.setCell ⟨rb,1,none⟩ (.string (str []))).setCell ⟨rb,2,none⟩ (.slice none 0 0)).setCell ⟨rb,3,none⟩ (.slice none 0 0)) D _);have RB8:=Lib.hid (((RB7.out.other (show rb≠K by omega) _).other (show rb≠K by omega) _).other (show rb≠K by omega) _:Row (((w7.setCell ⟨rb,1,none⟩ (.string (str []))).setCell ⟨rb,2,none⟩ (.slice none 0 0)).setCell ⟨rb,3,none⟩ (.slice none 0 0)) K _);have RA8:=Lib.hid (((RA7.out.other (show rb≠A by omega) _).other (show rb≠A by omega) _).other (show rb≠A by omega) _:Row (((w7.setCell ⟨rb,1,none⟩ (.string (str []))).setCell ⟨rb,2,none⟩ (.slice none 0 0)).setCell ⟨rb,3,none⟩ (.slice none 0 0)) A _);clear f1 f2 f3 c1 c2 c3 RD7 RB7 RA7 RR7 B7;have hsz8:K< (((w7.setCell ⟨rb,1,none⟩ (.string (str []))).setCell ⟨rb,2,none⟩ (.slice none 0 0)).setCell ⟨rb,3,none⟩ (.slice none 0 0)).heap.size:=RB8.out.lt;generalize World.setCell _ _ _=w8' at NB RD8 RB8 RA8 RR8 hsz8|-;have O8:=Lib.hid (ownN_but O0.out NB.out hrC);by_cases hm:r2=true
 ·subst hm;have FE2:=Lib.hid (show fin=(3,[])by rw[FE.out,if_pos (.inl rfl)]);haveI hne:Nonempty (Reg.Of (λu=>Row u D (w8 r1)/\Row u K (pr h (.slice (some ⟨gb,0,none⟩) ts.length cb)))):=⟨⟨w8',RD8.out,RB8.out⟩⟩;refine Reg.startL [0,1,2,3,4,5,6,7] 1 mixed (by kernel_rfl) rfl rfl (λc a d v w h=>by cases d<;>exact h) (by as_aux_lemma=>kernel_rfl) rfl (λu=>Row u D (w8 r1)/\Row u K (pr h (.slice (some ⟨gb,0,none⟩) ts.length cb))) ⟨RD8.out.drew,RB8.out.drew⟩ ?_;show wpQuiet _ _ _ _ [_,_,_,_,_,_,_,_] _;repeat(go_big_quiet_step (fail))
  refine wpQuiet_nil ?_;have RD9:=Lib.hid RD8.out.drew;have NB9:=Lib.hid NB.out.drew;have RA9:=Lib.hid RA8.out.drew;have RR9:=Lib.hid RR8.out.drew;have RB9:=Lib.hid RB8.out.drew;have O9:=Lib.hid (show w8'.drew.ownsRow C 69 33 (.slice (some ⟨gb,0,none⟩) ts.length cb) ts.length (txsCells ts)from O8.out);clear RD8 NB RA8 RR8 RB8 O8;generalize w8'.drew=w9 at RD9 NB9 RA9 RR9 RB9 O9|-;have S9:Reg.cls (λu=>Row u D (w8 r1)/\Row u K (pr h (.slice (some ⟨gb,0,none⟩) ts.length cb))) w9:=Reg.cls_mk ⟨RD9.out,RB9.out⟩;refine Reg.one 8 _ (by kernel_rfl) rfl rfl ?_;try go_frame
  go_wp2_with fail;refine⟨S9,?_⟩;refine wpAnyH_done (by kernel_rfl) ?_ 0
  try go_frame
  have hAr:A≠rb:=by omega
  have rA9:=RA9.out;go_wp2_with (first|(refine build_An1 (o:=⟨some 56,_,_,_,_,_⟩) rfl _ rfl 3 rfl ?_)|(with_reducible refine store_cells (o:=⟨none,_,_,_,_,_⟩) rfl _ _ _ rfl A (an 0 []) (an 3 []) rfl rfl rA9 (info_Answer.trans rfl) rfl rfl ?_));obtain⟨T2,hT2⟩:=rA9.setRow (an 3 []);refine bodyPost_ret (v:=.agg (an 3 []).toArray) (results_cell_row (fn:=Tryz.f28) rfl _ _ A T2 _ (0,0) _ rfl hT2 underlying48 rfl (info_Answer.trans rfl)) rfl ?_;exact⟨by rw[FE2.out],RR9.out.setOther (by omega) _,NB9.out.trans (But.of_below (below_setRow (Below.refl _ _) (by rw[HA.out];omega) _))⟩
 obtain rfl:r2=false:=by simpa using hm
 clear hm;have hu0:∀u:Reg.Of (λu=>Row u D (w8 r1)/\Row u K (pr h (.slice (some ⟨gb,0,none⟩) ts.length cb))),u.w.cell? ⟨K,0,none⟩=some (.string (str h)):=λu=>u.h.2.cell 0;haveI hne:Nonempty (Reg.Of (λu=>Row u D (w8 r1)/\Row u K (pr h (.slice (some ⟨gb,0,none⟩) ts.length cb)))):=⟨⟨w8',RD8.out,RB8.out⟩⟩;refine Reg.startL [0,1,2,3,4,5,6,7] 1 mixed (by kernel_rfl) rfl rfl (λc a d v w h=>by cases d<;>exact h) (by as_aux_lemma=>kernel_rfl) rfl (λu=>Row u D (w8 r1)/\Row u K (pr h (.slice (some ⟨gb,0,none⟩) ts.length cb))) ⟨RD8.out.drew,RB8.out.drew⟩ ?_;show wpQuiet _ _ _ _ [_,_,_,_,_,_,_,_] _;go_big_quiet_step (fail);go_big_quiet_step (fail);go_big_quiet_step (fail);refine wpQuiet_convw (o:=⟨some 50,_,_,_,_,_⟩) rfl 64 9 5 _ rfl D 0 32 32 r1 lD rfl underlying64 underlying5 underlying9 (λw hw=>by obtain⟨u,rfl⟩:=hw;exact u.h.1.bytes) ?_;go_frame;repeat(go_big_quiet_step (fail))
 refine wpQuiet_nil ?_;by_cases hq:r1=(h.drop 36).take 32
 ·have FE2:=Lib.hid (show fin=(2,h++Mk.joined ts)by rw[FE.out,if_neg (by simp[hq])];rfl);rw[show(!(r1==List.take 32 (List.drop 36 h)))=false by simp[hq]];have RD9:=Lib.hid RD8.out.drew;have NB9:=Lib.hid NB.out.drew;have RA9:=Lib.hid RA8.out.drew;have RR9:=Lib.hid RR8.out.drew;have RB9:=Lib.hid RB8.out.drew;have O9:=Lib.hid (show w8'.drew.ownsRow C 69 33 (.slice (some ⟨gb,0,none⟩) ts.length cb) ts.length (txsCells ts)from O8.out);clear RD8 NB RA8 RR8 RB8 O8;generalize w8'.drew=w9 at RD9 NB9 RA9 RR9 RB9 O9|-;have S9:Reg.cls (λu=>Row u D (w8 r1)/\Row u K (pr h (.slice (some ⟨gb,0,none⟩) ts.length cb))) w9:=Reg.cls_mk ⟨RD9.out,RB9.out⟩;refine Reg.one 8 _ (by kernel_rfl) rfl rfl ?_;try go_frame
  go_wp2_with fail;refine⟨S9,?_⟩;refine wpAnyH_done (by kernel_rfl) ?_ 0
  try go_frame
  have hAr:A≠rb:=by omega
  have rA9:=RA9.out;have BB:=Lib.hid (blockBytes_calls h (.slice (some ⟨gb,0,none⟩) ts.length cb) ts C w9 O9.out HS.out (by omega) (by omega));have rK:=RB9.out;clear O9 FE HS;generalize h++Mk.joined ts=bs at FE2 BB;go_wp2_with (refine load_cells (o:=⟨some 57,_,_,_,_,_⟩) rfl _ _ rfl K (pr h (.slice (some ⟨gb,0,none⟩) ts.length cb)) rfl rK _ underlying101 (info_Block.trans rfl) _ rfl ?_);refine BB.out.mono ?_;rintro e w10⟨rfl,hb10⟩;have rA10:=rA9.below hb10 rA9.lt;have RR10:=RR9.out.below hb10 RR9.out.lt;have NB10:=NB9.out.trans (But.of_below (hb10.mono NB9.out.size));clear rA9;go_wp2_with (first|(refine build_An2 (o:=⟨some 59,_,_,_,_,_⟩) rfl _ _ rfl 2 bs rfl rfl ?_)|(with_reducible refine store_cells (o:=⟨none,_,_,_,_,_⟩) rfl _ _ _ rfl A (an 0 []) (an 2 bs) rfl rfl rA10 (info_Answer.trans rfl) rfl rfl ?_));obtain⟨T2,hT2⟩:=rA10.setRow (an 2 bs);refine bodyPost_ret (v:=.agg (an 2 bs).toArray) (results_cell_row (fn:=Tryz.f28) rfl _ _ A T2 _ (0,0) _ rfl hT2 underlying48 rfl (info_Answer.trans rfl)) rfl ?_;exact⟨by rw[FE2.out],RR10.setOther (by omega) _,NB10.trans (But.of_below (below_setRow (Below.refl _ _) (by rw[HA.out];omega) _))⟩
 have FE2:=Lib.hid (show fin=(3,[])by rw[FE.out,if_pos (.inr hq)]);rw[show(!(r1==List.take 32 (List.drop 36 h)))=true by simp[hq]];have RD9:=Lib.hid RD8.out.drew;have NB9:=Lib.hid NB.out.drew;have RA9:=Lib.hid RA8.out.drew;have RR9:=Lib.hid RR8.out.drew;have RB9:=Lib.hid RB8.out.drew;have O9:=Lib.hid (show w8'.drew.ownsRow C 69 33 (.slice (some ⟨gb,0,none⟩) ts.length cb) ts.length (txsCells ts)from O8.out);clear RD8 NB RA8 RR8 RB8 O8;generalize w8'.drew=w9 at RD9 NB9 RA9 RR9 RB9 O9|-;have S9:Reg.cls (λu=>Row u D (w8 r1)/\Row u K (pr h (.slice (some ⟨gb,0,none⟩) ts.length cb))) w9:=Reg.cls_mk ⟨RD9.out,RB9.out⟩;refine Reg.one 8 _ (by kernel_rfl) rfl rfl ?_;try go_frame
 go_wp2_with fail;refine⟨S9,?_⟩;refine wpAnyH_done (by kernel_rfl) ?_ 0
 try go_frame
 have hAr:A≠rb:=by omega
 have rA9:=RA9.out;go_wp2_with (first|(refine build_An1 (o:=⟨some 56,_,_,_,_,_⟩) rfl _ rfl 3 rfl ?_)|(with_reducible refine store_cells (o:=⟨none,_,_,_,_,_⟩) rfl _ _ _ rfl A (an 0 []) (an 3 []) rfl rfl rA9 (info_Answer.trans rfl) rfl rfl ?_));obtain⟨T2,hT2⟩:=rA9.setRow (an 3 []);refine bodyPost_ret (v:=.agg (an 3 []).toArray) (results_cell_row (fn:=Tryz.f28) rfl _ _ A T2 _ (0,0) _ rfl hT2 underlying48 rfl (info_Answer.trans rfl)) rfl ?_;exact⟨by rw[FE2.out],RR9.out.setOther (by omega) _,NB9.out.trans (But.of_below (below_setRow (Below.refl _ _) (by rw[HA.out];omega) _))⟩
end
section
namespace Pl
abbrev B:=List UInt8
def lt_irr(a:B):¬a<a:=List.lt_irrefl a
def lt_tr{a b c:B}(h:a<b)(k:b<c):a<c:=List.lt_trans h k
def lt_tri(a b:B):a<b∨a=b∨b<a:=by by_cases h:a<b;exact .inl h;by_cases k:b<a;exact .inr (.inr k);exact .inr (.inl (List.le_antisymm (List.not_lt.1 k) (List.not_lt.1 h)))
variable(key:B->B)
def at'(id:B):List B->Nat×Bool
 |[]=>(0,false)|x::l=>if key x<id then((at' id l).1+1,(at' id l).2)else(0,key x==id)
def Up(l:List B):Prop:=l.Pairwise λx y=>key x<key y
def ins(t:B)(l:List B):List B:=l.take (at' key (key t) l).1++[t]++l.drop (at' key (key t) l).1
theorem at_mem id:∀l,Up key l->((at' key id l).2=true↔ ∃t∈l,key t=id)
 |[],_=>by simp[at']|x::l,h=>by obtain⟨h1,h2⟩:=List.pairwise_cons.1 h;rw[at'];by_cases hx:key x<id;rw[if_pos hx];dsimp only;rw[at_mem id l h2];constructor;rintro⟨t,ht,e⟩;exact⟨t,List.mem_cons_of_mem _ ht,e⟩;rintro⟨t,ht,e⟩;rcases List.mem_cons.1 ht with rfl|ht;rw[e]at hx;exact absurd hx (lt_irr _);exact⟨t,ht,e⟩;rw[if_neg hx];dsimp only;rw[beq_iff_eq];constructor;intro e;exact⟨x,List.mem_cons_self,e⟩;rintro⟨t,ht,e⟩;rcases List.mem_cons.1 ht with rfl|ht;exact e;exact absurd (e▸h1 t ht) hx
def ins_nil t:ins key t []=[t]:=rfl
def ins_cons t x l:ins key t (x::l)=if key x<key t then x::ins key t l else t::x::l:=by unfold ins;rw[at'];split;simp;simp
theorem mem_ins t:∀l x,x∈ins key t l↔x=t∨x∈l
 |[],x=>by simp[ins_nil]|y::l,x=>by rw[ins_cons];split;rw[List.mem_cons,mem_ins t l,List.mem_cons];constructor;rintro(h|h|h);exact .inr (.inl h);exact .inl h;exact .inr (.inr h);rintro(h|h|h);exact .inr (.inl h);exact .inl h;exact .inr (.inr h);rw[List.mem_cons]
theorem ins_len t:∀l,(ins key t l).length=l.length+1
 |[]=>rfl|x::l=>by rw[ins_cons];split;simp[ins_len t l];simp
theorem ins_up t:∀l,Up key l->(at' key (key t) l).2=false->Up key (ins key t l)
 |[],_,_=>by rw[ins_nil];exact List.pairwise_singleton _ _|x::l,h,hn=>by
  obtain⟨h1,h2⟩:=List.pairwise_cons.1 h;rw[ins_cons];rw[at']at hn;by_cases hx:key x<key t;rw[if_pos hx]at hn|-;refine List.pairwise_cons.2 ⟨λy hy=>?_,ins_up t l h2 hn⟩;rcases(mem_ins key t l y).1 hy with rfl|hy;exact hx;exact h1 y hy;rw[if_neg hx]at hn|-;have hne:key x≠key t:=by simpa using hn
  have hlt:key t<key x:=by rcases lt_tri (key x) (key t)with h|h|h;exact absurd h hx;exact absurd h hne;exact h
  refine List.pairwise_cons.2 ⟨λy hy=>?_,h⟩;rcases List.mem_cons.1 hy with rfl|hy;exact hlt;exact lt_tr hlt (h1 y hy)
def keys_up l(h:Up key l):(l.map key).Pairwise (· < ·):=List.pairwise_map.2 h
end Pl
end
section
open Nums
open Go.RowKit
namespace Mp
abbrev B:=List UInt8
def eqB:List Value->List UInt8->Bool
 |[],[]=>true|.int .u8 x::l,y::m=>decide (x=Y y)&&eqB l m|_,_=>false
theorem eqB_self:∀m,eqB (w8 m) m=true
 |[]=>rfl|y::m=>by show(decide (Y y=Y y)&&eqB (w8 m) m)=true;rw[eqB_self m];simp
theorem eqB_eq:∀l m,eqB l m=true->l=w8 m
 |[],[],_=>rfl|[],_::_,h=>by simp[eqB]at h|v::l,[],h=>by cases v<;>simp[eqB]at h
 |v::l,y::m,h=>by
  cases v<;>try(simp[eqB]at h;done)
  rename_i k x;cases k<;>try(simp[eqB]at h;done)
  simp only[eqB,Bool.and_eq_true,decide_eq_true_eq]at h;obtain⟨rfl,h2⟩:=h;rw[eqB_eq l m h2];rfl
def txR(v:Value):Option (DataW Unit×List MemPlace):=match v with
 |.agg a=>match a.toList with
  |.string s::l=>if eqB l (Mk.twice s.data.toList)then some (.lit (.string s.data.toList),[])else if s.data.toList.isEmpty&&eqB l (List.replicate 32 0)then some (.nil,[])else none
  |_=>none
 |_=>none
def str_list t:(str t).data.toList=t:=by unfold str;simp
def txR_tx t:txR (txV t)=some (.lit (.string t),[]):=by unfold txR txV txCells;simp only[str_list,eqB_self,if_true]
def str_of_list s:str s.data.toList=s:=by unfold str;simp
def txR_inv{v z}(h:txR v=some z):(∃t,v=txV t/\z=(.lit (.string t),[]))∨(v=.agg tx0.toArray/\z=(.nil,[])):=by
 unfold txR at h;cases v with
 |agg a=>
 dsimp only at h;split at h;rename_i s l hl;split at h;rename_i he;left;refine⟨s.data.toList,?_,(Option.some.inj h).symm⟩;unfold txV txCells;rw[str_of_list,<-eqB_eq _ _ he,<-hl];split at h;rename_i he;simp only[Bool.and_eq_true,List.isEmpty_iff]at he;right;refine⟨?_,(Option.some.inj h).symm⟩;have h1:s=str []:=by rw[<-str_of_list s,he.1]
 have h2:a.toList=tx0:=by rw[hl,eqB_eq _ _ he.2,h1];rfl
 rw[<-h2];cases h;cases h
 |_=>cases h
def keyBytes_lits d:keyBytes (lits d)=d:=by
 unfold keyBytes lits;induction d with
 |nil=>rfl|cons x l ih=>
 rw[List.map_cons,List.flatMap_cons,ih];have:Lit.keyBytes (.int .u8 (Y x))=[x]:=by
  have e:(Y x % 2^IntKind.u8.bits).toNat=x.toNat:=by have:x.toNat<256:=x.toNat_lt;unfold Y;simp[IntKind.bits];omega
  show bytesBE (IntKind.u8.bits/8) (Y x % 2^IntKind.u8.bits).toNat=[x];rw[e];simp[bytesBE,bytesLE,IntKind.bits]
 rw[this];rfl
def key_dg(d:B)(h:d.length=32):keyOf prog 67 (.agg (w8 d).toArray)=some (.string d):=by obtain⟨n,hn⟩:∃n,prog.types.size+1=n+2:=⟨prog.types.size-1,by kernel_rfl⟩;unfold keyOf;simp only[underlying67,formed_dg d h,show prog.keyType 67=true by kernel_rfl,Bool.and_self,if_true];rw[hn,show(Value.agg (w8 d).toArray).cells.toList=w8 d by simp[Value.cells],keyLits_dg n d h];simp only[Option.map_some,keyBytes_lits]
def ents(P:List B):List (Lit×DataW Unit):=P.map λt=>(Lit.string (Mk.twice t),DataW.lit (.string t))
def D(P:List B):DataW Unit:=.map (ents P)
theorem before_iff:∀a b,bytesBefore a b=decide (a<b)
 |[],[]=>by simp[bytesBefore]|[],_::_=>by simp[bytesBefore]|_::_,[]=>by simp[bytesBefore]|a::r,b::s=>by rw[bytesBefore,before_iff r s,Bool.eq_iff_iff];simp[List.cons_lt_cons_iff]
def same_iff a b:(Lit.string a).sameKey (.string b)=(a==b):=by simp[Lit.sameKey]
def has_ents P id(h:Pl.Up Mk.twice P):Maps.has (D P) (.string id)=(Pl.at' Mk.twice id P).2:=by rw[Bool.eq_iff_iff,Pl.at_mem Mk.twice id P h];show(ents P).any _=true↔_;simp[ents,same_iff]
def size_ents P:Maps.size (D P)=P.length:=by show(ents P).length=_;simp[ents]
theorem ins_ents t:∀P,(∀y∈P,Mk.twice y≠Mk.twice t)->DataW.insert (Lit.string (Mk.twice t),DataW.lit (.string t)) (ents P)=ents (Pl.ins Mk.twice t P)
 |[],_=>rfl|y::l,h=>by have ih:=ins_ents t l λz hz=>h z (List.mem_cons_of_mem _ hz);have hy:=h y List.mem_cons_self;rw[Pl.ins_cons];show(if(Lit.string (Mk.twice t)).before (.string (Mk.twice y))then _ else _::DataW.insert _ (ents l))=_;rw[ih];have hb:(Lit.string (Mk.twice t)).before (.string (Mk.twice y))=decide (Mk.twice t<Mk.twice y):=before_iff _ _;rw[hb];rcases Pl.lt_tri (Mk.twice y) (Mk.twice t)with h1|h1|h1;have h2:¬Mk.twice t<Mk.twice y:=λh3=>Pl.lt_irr _ (Pl.lt_tr h1 h3);rw[if_pos h1,if_neg (by simpa using h2)];rfl;exact absurd h1 hy;have h2:¬Mk.twice y<Mk.twice t:=λh3=>Pl.lt_irr _ (Pl.lt_tr h1 h3);rw[if_neg h2,if_pos (by simpa using h1)];rfl
def put_ents t P(h:Pl.Up Mk.twice P)(hn:(Pl.at' Mk.twice (Mk.twice t) P).2=false):(D P).put (.string (Mk.twice t)) (.lit (.string t))=D (Pl.ins Mk.twice t P):=by
 have hne:∀y∈P,Mk.twice y≠Mk.twice t:=λy hy e=>by rw[(Pl.at_mem Mk.twice (Mk.twice t) P h).2 ⟨y,hy,e⟩]at hn;cases hn
 show DataW.map (DataW.insert _ ((ents P).filter _))=_;rw[List.filter_eq_self.2 λp hp=>?_,ins_ents t P hne];· rfl
 obtain⟨y,hy,rfl⟩:=List.mem_map.1 hp;simp[same_iff,hne y hy]
def laidP:laidOutB prog=true:=by kernel_rfl
def law:Maps.Keyed prog 67:=.of_law (deep_law_laid laidP (m:=2) (by omega) (of_decide_eq_true (by kernel_rfl)) (by kernel_rfl) (by kernel_rfl))
structure Map(w:World)(m:Nat)(P:List B):Prop where
 own:w.ownsMap prog 67 txR m 20 (D P)
 up:Pl.Up Mk.twice P
 le:P.length<=20
 short:∀t∈P,t.length<=610
end Mp
namespace Reg
def take1{P ops Q S fuel L a w} i o v(hi:ops[i]? =some o)(hg:o.guard=none)(hsel:Region.noSelect ops=true) (hB:takeB ops [i] L=true) (hQ:∀c (a:Act) d v w,Q (.panic c) (a.put d v) w->Q (.panic c) a w) (hy:∀w,S w->(execOp a.eval o).run P w=.ok (.value v) w) (hS:S w) (h:wpAnyH P .any ops Q S fuel (L.setIfInBounds i true) (a.put o.dst v) w):wpAnyH P .any ops Q S (fuel+1) L a w:=by simp only[takeB,Bool.and_eq_true,Bool.and_true]at hB;exact wpAnyH_take hi hsel hB.2 hB.1 (λc a w hq=>hQ c _ _ _ w hq) (.inl ⟨by simp[Region.wanted,hg],hy⟩) hS h
def lookup_run{P ev o w v t x k c}(hop:o.op=.lookup t x k c)(h:(Instr.lookup t (ev x) (ev k) c).run P w=.ok v w):(execOp ev o).run P w=.ok (.value v) w:=by unfold execOp;simp only[hop,Sem.run_bind,h,Result.andThen_ok,Sem.run_pure]
end Reg
namespace Mp
def zeroTx(w:World):(zeroValue 69).run prog w=.ok (.agg tx0.toArray) w:=by kernel_rfl
def look_det{w0:World}{m:Nat}{P:List B}(h:w0.ownsMap prog 67 txR m 20 (D P))(hup:Pl.Up Mk.twice P)(d:B)(hd:d.length=32):∃(es:Array MapEntry)(clock:Nat)(cs:List Value),w0.heap[m]? =some (.map es clock)/\cs.length=33/\cs.all (·.oneCell')=true/\∀w:World,w.heap[m]? =some (.map es clock)->(Instr.lookup 35 (.map (some m)) (.agg (w8 d).toArray) true).run prog w=.ok (.tuple #[.agg cs.toArray,.bool (Pl.at' Mk.twice d P).2]) w:=by
 have hhas:=has_ents P d hup;obtain⟨es,clock,hb,F,hs,hD⟩:=h;have hkey:=key_dg d hd;have hpw:=((Go.MapKept.stamped_iff es clock).1 F.stamped).2.2;have look:=λ(w:World) (hw:w.heap[m]? =some (.map es clock))=>Maps.fit_look true law underlying35 (zeroTx w) hw F hkey;rcases look w0 hb with⟨_,hno,hat⟩|⟨e0,y,hm0,hk0,_,hR,hat,_⟩;refine⟨es,clock,tx0,hb,tx0_len,by decide +kernel,λw hw=>?_⟩;rw[<-hhas,hD,Maps.has_false_of_atKey hat];rcases look w hw with⟨hrun,_,_⟩|⟨e1,_,hm1,hk1,_⟩;exact hrun;exact absurd hk1 (hno e1 hm1);have hcs:∃cs:List Value,e0.val=.agg cs.toArray/\cs.length=33/\cs.all (·.oneCell')=true:=by rcases txR_inv hR with⟨t,ht,_⟩|⟨ht,_⟩;exact⟨txCells t,ht,txCells_len t,txCells_one t⟩;exact⟨tx0,ht,tx0_len,by decide +kernel⟩
 obtain⟨cs,hv,hl,h1⟩:=hcs;refine⟨es,clock,cs,hb,hl,h1,λw hw=>?_⟩;rw[<-hhas,hD,Maps.has_true_of_atKey hat,<-hv];rcases look w hw with⟨_,hno,_⟩|⟨e1,_,hm1,hk1,hrun,_⟩;exact absurd hk0 (hno e0 hm0);have:e1=e0:=by obtain⟨i,hi,rfl⟩:=List.mem_iff_getElem.1 hm1;obtain⟨j,hj,rfl⟩:=List.mem_iff_getElem.1 hm0;rcases Nat.lt_trichotomy i j with h|h|h;exact absurd (hk1.trans hk0.symm) (List.pairwise_iff_getElem.1 hpw i j hi hj h);subst h;rfl;exact absurd (hk0.trans hk1.symm) (List.pairwise_iff_getElem.1 hpw j i hj hi h)
 rw[this]at hrun;exact hrun
def Map.new(w:World):Map (w.alloc (.map #[] 0)) w.heap.size [] where
 own:=(World.ownsMap_made w _ _ _).mono (by omega);up:=List.Pairwise.nil;le:=by simp
 short:=λt ht=>by cases ht
theorem Map.alloc{w m P}(h:Map w m P) o:Map (w.alloc o) m P:=⟨h.own.alloc o,h.up,h.le,h.short⟩
theorem Map.lt{w m P}(h:Map w m P):m<w.heap.size:=h.own.lt
def own_block{w w':World}{m n:Nat}{D:DataW Unit}(h:w.ownsMap prog 67 txR m n D)(hb:w'.heap[m]? =w.heap[m]?):w'.ownsMap prog 67 txR m n D:=by obtain⟨es,clock,h1,r⟩:=h;exact⟨es,clock,hb.trans h1,r⟩
def Map.block{w w' m P}(h:Map w m P)(hb:w'.heap[m]? =w.heap[m]?):Map w' m P:=⟨own_block h.own hb,h.up,h.le,h.short⟩
def Map.below{B w w' m P}(h:Map w m P)(hb:Below B w w')(hm:m<B):Map w' m P:=h.block (hb.block m hm)
def own_tight{w:World}{m n n':Nat}{D:DataW Unit}(h:w.ownsMap prog 67 txR m n D)(hs:Maps.size D<=n'):w.ownsMap prog 67 txR m n' D:=by obtain⟨es,clock,hb,F,_,hD⟩:=h;refine⟨es,clock,hb,F,?_,hD⟩;rw[hD]at hs;simpa[Maps.size,length_sorted]using hs
def but_of_turned{w w' m B}(h:w.mapTurned w' m):But B m w w':=by obtain⟨es,clock,es',clock',hb,rfl⟩:=h;exact⟨rfl,rfl,rfl,by simp[Go.ChangeMaps.setBlock],λk _ hk=>Go.ChangeMaps.heap_setBlock_other hb _ hk⟩
def quiet_tx{ops:Array Oper}{rest:List Oper}{o:Oper}{a:Act}{C:World->Prop}{Q:Act->Prop}(hgd:o.guard=none)(x:Operand)(ho:o.op=.load 69 x) (g off:Nat) (t:List UInt8) (hx:a.eval x=.pointer (some ⟨g,off,none⟩)) (hr:∀w,C w->w.rangeAt g off (txCells t)) (h:wpQuiet prog ops C Q rest (a.put o.dst (txV t))):wpQuiet prog ops C Q (o::rest) a:=by unfold wpQuiet;rw[if_pos (by simp[Region.wanted,hgd])];refine⟨_,λw hw=>?_,h⟩;have:=run_loadAt_mid (P:=prog) w g off 69 (txCells t) _ (hr w hw) underlying69 rfl (by rw[infoTx,txCells_len]);unfold Oper.quietAt execOp;simp only[ho,hx,Sem.run_bind,this,Result.andThen_ok,Sem.run_pure,Oper.quietUpon];first|trivial|exact⟨trivial,trivial⟩|exact⟨rfl,rfl⟩|exact⟨rfl,hw⟩
end Mp
namespace Mp
def readTx_whole{l t r}(h:Wr.readTx l=.ok t r):t=l/\l.length<=610:=by
 have h':(Wr.tx l).bind (λa r=>if r=[]then .ok a r else .bad 5)=.ok t r:=h;unfold Wr.tx at h';cases hb:Wr.body l with
 |bad e=>rw[hb]at h';cases h'
 |ok u s=>rw[hb]at h';have h2:(if s=[]then(.ok (l.take (l.length-s.length)) s:Wr.R (List UInt8))else .bad 5)=.ok t r:=h';by_cases hs:s=[];rw[if_pos hs]at h2;subst hs;have hl:=Wr.body_eats l u _ hb;cases h2;simp at hl|-;exact hl;rw[if_neg hs]at h2;cases h2
def readTx_short{l t r}(h:Wr.readTx l=.ok t r):t.length<=610:=by obtain⟨rfl,h2⟩:=readTx_whole h;exact h2
def addErr(P:List B)(x:Wr.R (List UInt8)):Nat:=match x with
 |.bad n=>n
 |.ok t _=>if(Pl.at' Mk.twice (Mk.twice t) P).2 then 10 else if P.length=20 then 9 else 0
def addP(P:List B)(x:Wr.R (List UInt8)):List B:=match x with
 |.bad _=>P
 |.ok t _=>if(Pl.at' Mk.twice (Mk.twice t) P).2 then P else if P.length=20 then P else Pl.ins Mk.twice t P
end Mp
def AddS(r A m:Nat)(cs:List Value)(o:Obj)(u:World):Prop:=u.cell? ⟨r,0,none⟩=some (.map (some m))/\Row u A cs/\u.heap[m]? =some o
def AddS.load{r A m t o u}(h:AddS r A m (txCells t) o u):u.rangeAt A 1 (w8 (Mk.twice t)):=λj v hv=>by rw[h.2.1.cell,Nat.add_comm];unfold txCells;rw[List.getElem?_cons_succ];exact hv
def AddS.mono{r A m cs o u u'}(h:AddS r A m cs o u)(hb:∀k,k<u.heap.size->u'.heap[k]? =u.heap[k]?):AddS r A m cs o u':=⟨(World.cell?_of_block (w:=u) (hb r (World.block_lt_of_cell? _ _ h.1))).trans h.1,h.2.1.imp λ_ h'=>(hb A h.2.1.lt).trans h',(hb m (Array.getElem?_eq_some_iff.1 h.2.2).1).trans h.2.2⟩
def RowS(r A m:Nat)(cs:List Value)(u:World):Prop:=u.cell? ⟨r,0,none⟩=some (.map (some m))/\Row u A cs
def RowS.load{r A m t u}(h:RowS r A m (txCells t) u):u.rangeAt A 1 (w8 (Mk.twice t)):=λj v hv=>by rw[h.2.cell,Nat.add_comm];unfold txCells;rw[List.getElem?_cons_succ];exact hv
def add_calls(l:List UInt8)(r m:Nat)(P:List Mp.B)(w:World)(hT:Tabs w)(hl:l.length<=9223372036854775807)(hr:w.cell? ⟨r,0,none⟩=some (.map (some m)))(hM:Mp.Map w m P)(hrw:r<w.heap.size)(hrm:r≠m):Calls prog 10 #[.pointer (some ⟨r,0,none⟩),.string (str l)] w λe w'=>e=.returned (.int .i64 (Mp.addErr P (Wr.readTx l):Int))/\Mp.Map w' m (Mp.addP P (Wr.readTx l))/\But w.heap.size m w w':=by
 have h1w:=hT.lt;have T1:=Lib.hid (wreadTx_calls l w hT hl);have HM:=Lib.hid hM;have hmw:=hM.lt;have HR:=Lib.hid hr;clear hT hM hr;go_enter func10,ntmps10;go_wp2_with fail;refine T1.out.mono ?_;clear T1;cases hx:Wr.readTx l with
 |bad n=>
 rintro e w1⟨rfl,hb⟩;have hn:=readTx_pos hx;have p1:¬(n:Int)=0:=by omega
 have EQ:=Lib.hid hx;obtain⟨cs,hE,hcl,hc1⟩:∃cs:List Value,rdTx (.bad n)=.tuple #[.agg cs.toArray,.int .i64 n]/\cs.length=33/\cs.all (·.oneCell')=true:=⟨tx0,rfl,tx0_len,by decide +kernel⟩;rw[hE];have r1:Row (w1.alloc (.cells tx0.toArray 69)) w1.heap.size tx0:=Row.new w1 tx0 69;have hB:Below w1.heap.size w1 (w1.alloc (.cells tx0.toArray 69)):=(Below.refl _ _).alloc (Nat.le_refl _) _;have B1:=Lib.hid (hb.trans ((below_setRow hB (Nat.le_refl _) cs.toArray).mono hb.size));rw[Tryz.zeroTx]at r1 hB B1;have H1:=r1;clear hx hb r1 hB hn hE;go_wp2_with (with_reducible refine store_cells (o:=⟨none,_,_,_,_,_⟩) rfl _ _ _ rfl w1.heap.size tx0 cs rfl rfl H1 (infoTx.trans (by rw[hcl])) (by rw[hcl,tx0_len]) hc1 ?_);go_ret;exact⟨by rw[EQ.out];rfl,by rw[EQ.out];exact HM.out.below B1.out hmw,But.of_below B1.out⟩
 |ok t rest=>
 rintro e w1⟨rfl,hb⟩;have EQ:=Lib.hid hx;have htl:t.length<=610:=Mp.readTx_short hx;dsimp only[rdTx];have r1:Row (w1.alloc (.cells tx0.toArray 69)) w1.heap.size tx0:=Row.new w1 tx0 69;have hB:Below w1.heap.size w1 (w1.alloc (.cells tx0.toArray 69)):=(Below.refl _ _).alloc (Nat.le_refl _) _;have B1:=Lib.hid (hb.trans ((below_setRow hB (Nat.le_refl _) (txCells t).toArray).mono hb.size));have H2:=r1.setRow (txCells t);rw[Tryz.zeroTx]at r1 hB B1 H2;have H1:=r1;clear r1 hx hB;go_upto_region 4 with(with_reducible refine store_cells (o:=⟨none,_,_,_,_,_⟩) rfl _ _ _ rfl w1.heap.size tx0 (txCells t) rfl rfl H1 (infoTx.trans (by rw[txCells_len])) (by rw[txCells_len,tx0_len]) (txCells_one t) ?_);clear H1;obtain⟨A,hA⟩:∃A,w1.heap.size=A:=⟨_,rfl⟩;have hAw:w.heap.size<=A:=hA▸hb.size;rw[hA]at B1 H2|-;clear hA hb;generalize World.setRow _ A (txCells t).toArray=w2 at B1 H2|-;have hr2:=(World.cell?_of_block (w:=w) (a:=⟨r,0,none⟩) (B1.out.block r hrw)).trans HR.out;have M2:=HM.out.below B1.out hmw;have h32:=twice32 t;obtain⟨es,clock,cs,hes,hcl,hc1,hlook⟩:=Mp.look_det M2.own M2.up (Mk.twice t) h32;have MM:=Lib.hid M2;have HL:=Lib.hid hlook;have hS2:AddS r A m (txCells t) (.map es clock) w2:=⟨hr2,H2,hes⟩;have hu0:∀u:Reg.Of (AddS r A m (txCells t) (.map es clock)),u.w.cell? ⟨r,0,none⟩=some (.map (some m)):=λu=>u.h.1;haveI hne:Nonempty (Reg.Of (AddS r A m (txCells t) (.map es clock))):=⟨⟨w2,hS2⟩⟩;clear hr2 M2 hlook;refine Reg.startL [0,1,2,3,4,5] 7 mixed (by kernel_rfl) rfl rfl (λc a d v w h=>by cases d<;>exact h) (by as_aux_lemma=>kernel_rfl) rfl (AddS r A m (txCells t) (.map es clock)) hS2 ?_;show wpQuiet _ _ _ _ [_,_,_,_,_,_] _;iterate 5 (go_big_quiet_step (fail))
 refine wpQuiet_load (o:=⟨some 23,_,_,_,_,_⟩) rfl _ rfl A 1 (Mk.twice t) h32 rfl (λw hw=>by obtain⟨u,rfl⟩:=hw;exact u.h.load) ?_;try go_frame
 refine wpQuiet_nil ?_;refine Reg.take1 6 ⟨some 24,.lookup 35 (.tmp 21) (.tmp 23) true,_,_,_,_⟩ (.tuple #[.agg cs.toArray,.bool (Pl.at' Mk.twice (Mk.twice t) P).2]) rfl rfl (by kernel_rfl) (by as_aux_lemma=>kernel_rfl) (λc a d v w h=>by cases d<;>exact h) (λu hu=>?_) (Reg.cls_mk hS2) ?_;obtain⟨u',rfl⟩:=hu;exact Reg.lookup_run rfl (HL.out _ u'.h.2.2);obtain⟨ok,hok⟩:∃b,(Pl.at' Mk.twice (Mk.twice t) P).2=b:=⟨_,rfl⟩;rw[hok];try go_frame
 refine Reg.restL [7,8,9] 3 (by rfl) (by kernel_rfl) (by rfl) (λc a d v w h=>by cases d<;>exact h) (by as_aux_lemma=>kernel_rfl) (by rfl) (Reg.cls_mk hS2) ?_;show wpQuiet _ _ _ _ [_,_,_] _;repeat(go_big_quiet_step (fail))
 refine wpQuiet_nil ?_;refine Reg.one 10 _ (by kernel_rfl) rfl rfl ?_;try go_frame
 go_wp2_with fail;have r3:Row (w2.alloc (.cells tx0.toArray 69)) w2.heap.size tx0:=Row.new w2 tx0 69;have S3:AddS r A m (txCells t) (.map es clock) (w2.alloc (.cells tx0.toArray 69)):=hS2.mono λk hk=>Below.heap_alloc _ _ _ hk
 have B3:Below w.heap.size w (w2.alloc (.cells tx0.toArray 69)):=B1.out.alloc B1.out.size _;have M3:=MM.out.alloc (.cells tx0.toArray 69);rw[Tryz.zeroTx]at r3 S3 B3 M3;have hD:w.heap.size<=w2.heap.size:=B1.out.size;have hAD:A<w2.heap.size:=H2.lt;have hmD:=MM.out.lt;obtain⟨D,hDe⟩:∃D,w2.heap.size=D:=⟨_,rfl⟩;rw[hDe]at r3 hD hAD hmD|-;have HOK:=Lib.hid hok;clear MM H2 hes hS2 hok HL HM B1 hDe;generalize w2.alloc _=w3 at r3 S3 B3 M3|-;refine⟨Reg.cls_mk S3,?_⟩;refine Reg.one 11 _ (by kernel_rfl) rfl rfl ?_;have S4:AddS r A m (txCells t) (.map es clock) (w3.drew.setRow D cs.toArray):=⟨(World.cell?_of_block (w:=w3) (a:=⟨r,0,none⟩) (setRow_other w3 D r _ (by omega))).trans S3.1,S3.2.1.imp λ_ h'=>(setRow_other w3 D A _ (by omega)).trans h',(setRow_other w3 D m _ (by omega)).trans S3.2.2⟩;have B4:=Lib.hid (below_setRow (w:=w3.drew) B3.drew hD cs.toArray);have M4:=Lib.hid (Mp.Map.block M3 (setRow_other w3.drew D m cs.toArray (by omega)));refine store_cells (o:=⟨none,.store 69 (.tmp 7) (.tmp 25),_,_,_,_⟩) rfl _ _ _ rfl D tx0 cs rfl rfl r3 (infoTx.trans (by rw[hcl])) (by rw[hcl,tx0_len]) hc1 ?_;generalize w3.drew.setRow D cs.toArray=w4 at S4 B4 M4|-;refine⟨Reg.cls_mk S4,?_⟩;refine Reg.one 12 _ (by kernel_rfl) rfl rfl ?_;try go_frame
 clear hne hu0 r3 S3 B3 M3;go_wp2_with fail;refine⟨Reg.cls_mk S4,?_⟩;refine wpAnyH_done (by kernel_rfl) ?_ 0;have hr4:=S4.1;have N4:=Lib.hid (But.of_below (S:=m) B4.out);have S5:=Lib.hid S4;clear S4;have hr4':=hr4;cases ok
 ·have hlen:=M4.out.own.len underlying35 3;rw[Mp.size_ents]at hlen;by_cases hfull:P.length=20
  ·rw[hfull]at hlen;go_wp2_with fail;go_ret;refine⟨?_,?_,N4.out⟩;rw[EQ.out];show _=Ending.returned (.int .i64 ((if(Pl.at' Mk.twice (Mk.twice t) P).2 then 10 else if P.length=20 then 9 else 0:Nat):Int));rw[HOK.out,if_neg (by simp),if_pos hfull];rfl;rw[EQ.out];show Mp.Map w4 m (if(Pl.at' Mk.twice (Mk.twice t) P).2 then P else if P.length=20 then P else _);rw[HOK.out,if_neg (by simp),if_pos hfull];exact M4.out
  have hle:=M4.out.le;have hpl:¬(P.length:Int)=20:=by omega
  go_upto_region 9 with fail;have hS9:RowS r A m (txCells t) w4:=⟨S5.out.1,S5.out.2.1⟩;have hu0:∀u:Reg.Of (RowS r A m (txCells t)),u.w.cell? ⟨r,0,none⟩=some (.map (some m)):=λu=>u.h.1;haveI hne:Nonempty (Reg.Of (RowS r A m (txCells t))):=⟨⟨w4,hS9⟩⟩;clear hr4 hr4' hlen;refine Reg.startL [0,1,2,3,4,5,6] 1 mixed (by kernel_rfl) rfl rfl (λc a d v w h=>by cases d<;>exact h) (by as_aux_lemma=>kernel_rfl) rfl (RowS r A m (txCells t)) hS9 ?_;show wpQuiet _ _ _ _ [_,_,_,_,_,_,_] _;iterate 5 (go_big_quiet_step (fail))
  refine wpQuiet_load (o:=⟨some 39,_,_,_,_,_⟩) rfl _ rfl A 1 (Mk.twice t) h32 rfl (λw hw=>by obtain⟨u,rfl⟩:=hw;exact u.h.load) ?_;try go_frame
  refine Mp.quiet_tx (o:=⟨some 40,_,_,_,_,_⟩) rfl _ rfl A 0 t rfl (λw hw=>by obtain⟨u,rfl⟩:=hw;exact λj v hv=>by rw[u.h.2.cell,Nat.zero_add];exact hv) ?_;try go_frame
  refine wpQuiet_nil ?_;refine Reg.one 7 _ (by kernel_rfl) rfl rfl ?_;refine wpList_mapUpdate_in _ (o:=⟨none,.mapUpdate 35 (.tmp 37) (.tmp 39) (.tmp 40),_,_,_,_⟩) rfl _ _ _ _ rfl 67 69 Mp.law underlying35 Mp.txR m 20 (Mp.D P) rfl (show w4.drew.ownsMap _ _ _ _ _ _ from M4.out.own) (by unfold maxLen;omega) (.agg (w8 (Mk.twice t)).toArray) (txV t) (Lit.string (Mk.twice t)) rfl rfl (Mp.key_dg _ h32) (.lit (.string t)) [] (Mp.txR_tx t) ?_;intro w5 hown5 hturn5;have hw45:But w.heap.size m w4 w5:=((But.refl w.heap.size m w4).drew).trans (Mp.but_of_turned (w:=w4.drew) hturn5);have N5:=Lib.hid (N4.out.trans hw45);have hpos:=S5.out.2.1.lt;have hS5:RowS r A m (txCells t) w5:=by obtain⟨es0,c0,es1,c1,_,rfl⟩:=hturn5;exact⟨(World.cell?_of_block (w:=w4.drew) (a:=⟨r,0,none⟩) (Go.ChangeMaps.heap_setBlock_other (w:=w4.drew) S5.out.2.2 _ hrm)).trans hS9.1,hS9.2.imp λ_ h'=>(Go.ChangeMaps.heap_setBlock_other (w:=w4.drew) S5.out.2.2 _ (by omega)).trans h'⟩
  have M5:Mp.Map w5 m (Pl.ins Mk.twice t P):=by rw[Mp.put_ents t P M4.out.up HOK.out]at hown5;have hil:=Pl.ins_len Mk.twice t P;refine⟨Mp.own_tight hown5 (by rw[Mp.size_ents];omega),Pl.ins_up Mk.twice t P M4.out.up HOK.out,by omega,λy hy=>?_⟩;rcases(Pl.mem_ins Mk.twice t P y).1 hy with rfl|hy;exact htl;exact M4.out.short y hy
  have MM5:=Lib.hid M5;clear hown5 hturn5 M5 hne hu0 hS9 M4 N4 S5;refine⟨Reg.cls_mk hS5,?_⟩;refine wpAnyH_done (by kernel_rfl) ?_ 0;clear hS5;go_wp2_with fail;go_ret;refine⟨?_,?_,N5.out⟩;rw[EQ.out];show _=Ending.returned (.int .i64 ((if(Pl.at' Mk.twice (Mk.twice t) P).2 then 10 else if P.length=20 then 9 else 0:Nat):Int));rw[HOK.out,if_neg (by simp),if_neg hfull];rfl;rw[EQ.out];show Mp.Map w5 m (if(Pl.at' Mk.twice (Mk.twice t) P).2 then P else if P.length=20 then P else _);rw[HOK.out,if_neg (by simp),if_neg hfull];exact MM5.out
 go_wp2_with fail;go_ret;refine⟨?_,?_,N4.out⟩
 rw[EQ.out];show _=Ending.returned (.int .i64 ((if(Pl.at' Mk.twice (Mk.twice t) P).2 then 10 else if P.length=20 then 9 else 0:Nat):Int));rw[HOK.out,if_pos rfl];rfl;rw[EQ.out];show Mp.Map w4 m (if(Pl.at' Mk.twice (Mk.twice t) P).2 then P else if P.length=20 then P else _);rw[HOK.out,if_pos rfl];exact M4.out
end
section
open Go.Proofs Go.Shelf
def sortRen:Ren where
 f:=λx=>match x with
  |190=>25
  |125=>49
  |258=>48
  |128=>91
  |129=>92
  |302=>82
  |303=>83
  |304=>84
  |305=>85
  |306=>86
  |307=>87
  |308=>88
  |309=>89
  |310=>90
  |333=>104
  |329=>105
  |330=>106
  |334=>107
  |335=>108
  |336=>109
  |344=>111
  |n=>n
 t:=λx=>match x with
  |31=>42
  |9=>9
  |3=>3
  |46=>109
  |0=>0
  |51=>157
  |53=>56
  |4=>4
  |183=>149
  |182=>148
  |131=>154
  |5=>5
  |218=>172
  |222=>175
  |228=>178
  |229=>179
  |n=>n
 g:=λn=>n
def sortLaid:Lays.n190 prog sortRen where
 mixed:=Eq.refl true;f125:=Eq.trans func49 (congrArg some (Eq.refl (Body.n125 sortRen)));f128:=Eq.trans func91 (congrArg some (Eq.refl (Body.n128 sortRen)));f129:=Eq.trans func92 (congrArg some (Eq.refl (Body.n129 sortRen)));f190:=Eq.trans func25 (congrArg some (Eq.refl (Body.n190 sortRen)));f258:=Eq.trans func48 (congrArg some (Eq.refl (Body.n258 sortRen)));f302:=Eq.trans func82 (congrArg some (Eq.refl (Body.n302 sortRen)));f303:=Eq.trans func83 (congrArg some (Eq.refl (Body.n303 sortRen)));f304:=Eq.trans func84 (congrArg some (Eq.refl (Body.n304 sortRen)));f305:=Eq.trans func85 (congrArg some (Eq.refl (Body.n305 sortRen)));f306:=Eq.trans func86 (congrArg some (Eq.refl (Body.n306 sortRen)));f307:=Eq.trans func87 (congrArg some (Eq.refl (Body.n307 sortRen)));f308:=Eq.trans func88 (congrArg some (Eq.refl (Body.n308 sortRen)));f309:=Eq.trans func89 (congrArg some (Eq.refl (Body.n309 sortRen)));f310:=Eq.trans func90 (congrArg some (Eq.refl (Body.n310 sortRen)));f329:=Eq.trans func105 (congrArg some (Eq.refl (Body.n329 sortRen)));f330:=Eq.trans func106 (congrArg some (Eq.refl (Body.n330 sortRen)));f333:=Eq.trans func104 (congrArg some (Eq.refl (Body.n333 sortRen)));f334:=Eq.trans func107 (congrArg some (Eq.refl (Body.n334 sortRen)));f335:=Eq.trans func108 (congrArg some (Eq.refl (Body.n335 sortRen)));f336:=Eq.trans func109 (congrArg some (Eq.refl (Body.n336 sortRen)));f344:=Eq.trans func111 (congrArg some (Eq.refl (Body.n344 sortRen)));t0:=underlying0;a0:=isAgg0;z0:=sizeOf0;v0:=zeroValue0;t3:=underlying3;a3:=isAgg3;z3:=sizeOf3;v3:=zeroValue3;t4:=underlying4;a4:=isAgg4;z4:=sizeOf4;v4:=zeroValue4;t5:=underlying5;a5:=isAgg5;z5:=sizeOf5;v5:=zeroValue5;t9:=underlying9;a9:=isAgg9;z9:=sizeOf9;v9:=zeroValue9;t31:=underlying42;a31:=isAgg42;z31:=sizeOf42;v31:=zeroValue42;t46:=underlying109;a46:=isAgg109;z46:=sizeOf109;v46:=zeroValue109;t51:=underlying157;a51:=isAgg157;z51:=sizeOf157;v51:=zeroValue157;t53:=underlying56;a53:=isAgg56;z53:=sizeOf56;v53:=zeroValue56;t131:=underlying154;a131:=isAgg154;z131:=sizeOf154;v131:=zeroValue154;t182:=underlying148;a182:=isAgg148;z182:=sizeOf148;v182:=zeroValue148;t183:=underlying149;a183:=isAgg149;z183:=sizeOf149;v183:=zeroValue149;t218:=underlying172;a218:=isAgg172;z218:=sizeOf172;v218:=zeroValue172;t222:=underlying175;a222:=isAgg175;z222:=sizeOf175;v222:=zeroValue175;t228:=underlying178;a228:=isAgg178;z228:=sizeOf178;v228:=zeroValue178;t229:=underlying179;a229:=isAgg179;z229:=sizeOf179;v229:=zeroValue179
def sort_calls(blk off cap:Nat)(ss:List (List UInt8))(w:World)(hH:Sort.Holds encStr w blk off ss.toArray)(hblk:blk<w.heap.size)(hsz:ss.length<4611686018427387904):Calls prog 25 #[.slice (some ⟨blk,off,none⟩) ss.length cap] w λe w'=>e=.returned (.tuple #[])/\∃n os,w'=Sort.grow (Sort.putRow encStr (Sort.ahead w n) blk off (ss.mergeSort λx y=>decide (x<=y)).toArray) os:=Any.slices_Sort_string sortLaid blk off cap ss w hH hblk hsz
end
section
open Nums
open Go.RowKit
def len64_zero(w:World):Calls prog 92 #[.int .u64 0] w λe w'=>e=.returned (.int .i64 0)/\w'=w:=by go_enter func92,ntmps92;go_wp2_with fail;go_ret;exact⟨congrArg (λz=>Ending.returned (.int .i64 z)) (show wrap64 (wrap64 (Lib.len8 0))=0 by decide +kernel),rfl⟩
def len_zero(w:World):Calls prog 49 #[.int .u64 0] w λe w'=>e=.returned (.int .i64 0)/\w'=w:=by go_enter func49,ntmps49;go_wp2_with fail;refine(len64_zero w).mono ?_;rintro e w1⟨rfl,rfl⟩;go_wp2_with fail;go_ret;exact⟨rfl,rfl⟩
def insnil(w:World):Calls prog 82 #[.slice none 0 0,.int .i64 0,.int .i64 0] w λe w'=>e=.returned (.tuple #[])/\w'=w:=by
 go_enter func82,ntmps82;go_wp2_with fail;refine wp_loop_rounds 1 ?_;rw[rounds_succ];go_wp2_with fail
 go_end0;exact⟨rfl,rfl⟩
def pdq_nil(w:World):Calls prog 48 #[.slice none 0 0,.int .i64 0,.int .i64 0,.int .i64 0] w λe w'=>e=.returned (.tuple #[])/\w'=w:=by go_enter func48,ntmps48;go_wp2_with fail;refine wp_loop_rounds 1 ?_;rw[rounds_succ];go_wp2_with fail;refine(insnil _).mono ?_;rintro e w1⟨rfl,rfl⟩;go_wp2_with fail;refine bodyPost_ret (results_none rfl _ _ _) rfl ?_;exact⟨rfl,rfl⟩
def sortnil_calls(w:World):Calls prog 25 #[.slice none 0 0] w λe w'=>e=.returned (.tuple #[])/\w'=w:=by
 go_enter func25,ntmps25;go_wp2_with fail;rw[show U (toU 0)=0 by decide +kernel]
 refine(len_zero w).mono ?_;rintro e w1⟨rfl,rfl⟩;go_wp2_with fail;refine(pdq_nil _).mono ?_;rintro e w1⟨rfl,rfl⟩;go_wp2_with fail;go_end0;exact⟨rfl,rfl⟩
theorem mapM_all{α β:Type}{f:α->Option β}:∀ {l:List α}{r:List β},l.mapM f=some r->∀x∈l,∃y,f x=some y
 |[],_,_,x,hx=>by cases hx
 |a::l,r,h,x,hx=>by
  rw[List.mapM_cons]at h;cases ha:f a with
  |none=>rw[ha]at h;cases h
  |some y=>
  rw[ha]at h;cases hl:l.mapM f with
  |none=>rw[hl]at h;cases h
  |some r'=>rcases List.mem_cons.1 hx with rfl|hx;exact⟨y,ha⟩;exact mapM_all hl x hx
def byteOf:Value->UInt8
 |.int _ n=>UInt8.ofNat n.toNat|_=>0
def u8_inv{d c ls}(h:prog.keyLits (d+1) 5 [c]=some ls):c=.int .u8 (Y (byteOf c)):=by
 unfold Program.keyLits at h;simp only[underlying5]at h;cases c<;>try(simp at h;done)
 rename_i k n;dsimp only at h;split at h;rename_i hk;obtain⟨rfl,hw⟩:=hk;have hn:0<=n/\n<=255:=by simp[Lit.wf,IntKind.min,IntKind.max,IntKind.signed,IntKind.bits]at hw;omega
 have:Y (byteOf (.int .u8 n))=n:=by unfold byteOf Y;simp only[UInt8.toNat_ofNat'];omega
 rw[this];cases h
def key_inv{v:Value}{kl:Lit}(h:keyOf prog 67 v=some kl):∃d:List UInt8,d.length=32/\v=.agg (w8 d).toArray/\kl=.string d:=by
 have h0:=h;obtain⟨n,hn⟩:∃n,prog.types.size+1=n+2:=⟨prog.types.size-1,by kernel_rfl⟩;unfold keyOf at h;simp only[underlying67,show prog.keyType 67=true by kernel_rfl,Bool.true_and]at h;split at h
 ·rename_i hf;cases v<;>try(simp[Value.formed,underlying67]at hf;done)
  rename_i cs;have hsz:cs.toList.length=32:=by simp only[Value.formed,underlying67,cellsDg,beq_iff_eq]at hf;simpa using hf
  rw[hn,show(Value.agg cs).cells.toList=cs.toList by simp[Value.cells]]at h;cases hl:prog.keyLits (n+2) 67 cs.toList with
  |none=>rw[hl]at h;cases h
  |some ls=>
  unfold Program.keyLits at hl;simp only[underlying67,cellsDg,hsz,if_true,cellsU8]at hl;cases hm:(List.range 32).mapM (λi=>prog.keyLits (n+1) 5 ((cs.toList.drop (i*1)).take 1))with
  |none=>rw[hm]at hl;cases hl
  |some r=>
  have hall:=mapM_all hm;have hcell:∀i (hi:i<cs.toList.length),cs.toList[i]=.int .u8 (Y (byteOf cs.toList[i])):=λi hi=>by obtain⟨y,hy⟩:=hall i (List.mem_range.2 (by omega));rw[Nat.mul_one,List.drop_eq_getElem_cons hi]at hy;exact u8_inv hy
  have hcs:cs.toList=w8 (cs.toList.map byteOf):=by apply List.ext_getElem;simp[w8];intro i h1 h2;have:=hcell i h1;simp only[w8,List.getElem_map];exact this
  have hd:(cs.toList.map byteOf).length=32:=by simpa using hsz
  have hv:Value.agg cs=.agg (w8 (cs.toList.map byteOf)).toArray:=by rw[<-hcs]
  refine⟨_,hd,hv,?_⟩;rw[hv,Mp.key_dg _ hd]at h0;exact(Option.some.inj h0).symm
 cases h
def grown_below{w w'}(h:Below w.heap.size w w'):w.grownBy w' none:=⟨h.os,h.tape,h.output,h.size,λi hi _=>h.block i hi⟩
def keys_D P:strKeys (Mp.D P)=P.map Mk.twice:=by show(Mp.ents P).map (λp=>strOf p.1)=_;unfold Mp.ents;rw[List.map_map];rfl
def sorted_up{l:List (List UInt8)}(h:l.Pairwise (· < ·)):l.mergeSort leB=l:=by refine List.mergeSort_of_pairwise (h.imp λ{a b} hab=>?_);exact decide_eq_true (List.le_of_lt hab)
def collected_sorted{P:List Mp.B}(hup:Pl.Up Mk.twice P){left:Lit->Bool}{ss:List (List UInt8)}(hC:Collected (Mp.D P) left ss)(hl:∀kl,left kl=false):ss.mergeSort leB=P.map Mk.twice/\ss.length=P.length:=by
 have hp:ss.Perm (P.map Mk.twice):=by
  rw[<-keys_D];refine perm_strKeys (es:=Mp.ents P) ?_ (λp hp=>?_) hC.1 (λx=>by rw[hC.2 x,hl];exact⟨λh=>h.1,λh=>⟨h,rfl⟩⟩);refine List.pairwise_map.2 (hup.imp λ{a b} hab e=>?_);have:Mk.twice a=Mk.twice b:=by simpa using e
  rw[this]at hab;exact Pl.lt_irr _ hab;obtain⟨t,_,rfl⟩:=List.mem_map.1 hp;exact⟨_,rfl⟩
 refine⟨?_,by simpa using hp.length_eq⟩;rw[mergeSort_of_perm hp,sorted_up (Pl.keys_up Mk.twice P hup)]
def ids_calls(r m:Nat)(P:List Mp.B)(w:World)(hr:w.cell? ⟨r,0,none⟩=some (.map (some m)))(hM:Mp.Map w m P):Calls prog 11 #[.pointer (some ⟨r,0,none⟩)] w λe w'=>∃v,e=.returned v/\w'.ownsRow w.heap.size 9 1 v P.length (wt (P.map Mk.twice))/\Below w.heap.size w w':=by
 obtain⟨i0,hi0,hz0,hz1,hz2⟩:=info_parts infoStr;have HI:=Lib.hid hi0;have HM:=Lib.hid hM;have hmw:=hM.lt;have hup:=hM.up;have hle:=hM.le;clear hi0 hM;go_enter func11,ntmps11;go_wp2_with (at_range;refine wpList_range_own _ (o:=⟨some 9,_,_,_,_,_⟩) rfl _ 35 rfl 67 69 Mp.law underlying35 Mp.txR m 20 (Mp.D P) rfl HM.out.own ?_;intro w0 hrg0 hg0 hs0)
 go_frame;obtain⟨R,hR⟩:∃R,w.heap.size=R:=⟨_,rfl⟩;have B0:=Lib.hid ((Below.refl w.heap.size w).grown hg0 (Nat.le_refl _) (λj hj=>by cases hj));have HRG:=Lib.hid hrg0;rw[hR]at HRG;rw[hR];have HRE:=Lib.hid hR;have hsz:=Mp.size_ents P;clear hrg0 hg0 hs0 hR;go_loopw [3,4] (λov _ wr=>∃(left:Lit->Bool)(cnt:Nat)(ss:List (List UInt8)),wr.ranges prog 67 Mp.txR m R 20 (Mp.D P) left cnt/\ss.length+cnt<=20/\wr.ownsRow w.heap.size 9 1 ov ss.length (wt ss)/\Collected (Mp.D P) left ss/\Below w.heap.size w wr) (λ_ _ wr=>wr.rangeLeft m R);exact⟨_,_,[],HRG.out,by rw[hsz];simpa using hle,World.ownsRow_nil _ _ _ _,Collected.start _,B0.out⟩;obtain⟨left,cnt,ss,hrg,hcs,hrow,hC,hB⟩:=hrel;have HROW:=Lib.hid hrow;have HC:=Lib.hid hC;have HB:=Lib.hid hB;have hzr:=hB.size;clear hrow hC hB;go_wp2_with (at_next;refine wpList_next_ranges _ (o:=⟨some 10,_,_,_,_,_⟩) rfl _ rfl 67 Mp.law Mp.txR (λd:{d:List UInt8 // d.length=32}=>Value.agg (w8 d.1).toArray) (λc:Value=>c) (λkey kl hk=>by obtain⟨d,hd,hv,_⟩:=key_inv hk;exact⟨⟨d,hd⟩,hv⟩) (λv y hv=>⟨v,rfl⟩) m R 20 _ _ _ rfl hrg ?_ ?_)
 ·intro hc0 hl0;have hsl:=collected_sorted hup HC.out hl0;have H1:=Lib.hid hsl.1;have HSN:=Lib.hid hsl.2;clear hsl;have hrow:=HROW.out;rcases hrow.2 with⟨hnil,hss⟩|⟨g,cap,cur,hv,hbase,hb,h1,h2,h3,h4⟩
  ·subst hnil;have hs0:ss=[]:=by exact List.length_eq_zero_iff.1 hss
   have hP0:P=[]:=List.length_eq_zero_iff.1 (by rw[<-HSN.out,hs0];rfl);have H2:=Lib.hid hP0;clear hrow hP0 hs0;have T1:=Lib.hid (sortnil_calls wr);go_wp2_with fail;refine T1.out.mono ?_;rintro e w3⟨rfl,rfl⟩;go_wp2_with fail;go_ret;exact⟨_,rfl,by rw[H2.out];exact World.ownsRow_nil _ _ _ _,HB.out⟩
  subst hv;have hH:Sort.Holds encStr wr g 0 ss.toArray:=holds_of_block hb (by rw[Nat.mul_one]at h4;exact h4);have hgl:g<wr.heap.size:=(Array.getElem?_eq_some_iff.1 hb).1;have T1:=Lib.hid (sort_calls g 0 cap ss wr hH hgl (by omega));have O2:∀(n:Nat)(os:Array Obj),(Sort.grow (Sort.putRow encStr (Sort.ahead wr n) g 0 (P.map Mk.twice).toArray) os).ownsRow w.heap.size 9 1 (.slice (some ⟨g,0,none⟩) ss.length cap) ss.length ((P.map Mk.twice).map encStr):=λn os=>ownsRow_sorted (by rw[List.length_map,HSN.out]) hbase hb h1 h2 h3;have HO2:=Lib.hid O2;clear hrow hH hb O2 h1 h2 h3 h4;go_wp2_with fail;refine T1.out.mono ?_;rintro e w3⟨rfl,nn,os,rfl⟩;rw[H1.out];have B3:=Lib.hid (HB.out.grown (grownBy_sorted (P.map Mk.twice).toArray (w:=wr) (g:=g) (n:=nn) (os:=os)) hzr (λj hj=>by cases hj;exact hbase));have O3:=Lib.hid (HO2.out nn os);generalize Sort.grow (Sort.putRow encStr (Sort.ahead wr nn) g 0 (P.map Mk.twice).toArray) os=w3 at B3 O3|-;go_wp2_with fail;go_ret;refine⟨_,rfl,?_,B3.out⟩;have:=O3.out;rw[<-HSN.out];exact this
 intro x hx c kl yd yp w2 cnt2 hkey hlk hv hat hrg2 hlt hg2 hs2 hen;obtain rfl:kl=.string x:=by rw[Mp.key_dg x hx]at hkey;exact(Option.some.inj hkey).symm
 have hrow2:=HROW.out.kept hg2 (Or.inr (row_ne_iter HROW.out hrg).symm);have hRB:w.heap.size<=R:=HRE.out▸Nat.le_refl _;have hB2:=HB.out.grown hg2 hzr (λj hj=>by cases hj;exact hRB);have C2:=Lib.hid (HC.out.step hlk hat);have LE:=Lib.hid hrg.left_eq;obtain⟨hB3,hz3,hR4,hR3⟩:=fresh_dg w2 x 67;rw[Tryz.zeroDg]at hB3 hz3 hR4 hR3;clear hkey hlk hv hat hs2 hg2 hrg;go_upto_region 5 with(with_reducible refine store_dg (o:=⟨none,_,_,_,_,_⟩) rfl _ _ rfl w2.heap.size (List.replicate 32 0) x rfl hx rfl rfl hR3 ?_);obtain⟨A,hA⟩:∃A,w2.heap.size=A:=⟨_,rfl⟩;have hzw:w.heap.size<=w2.heap.size:=hB2.size;have G3:=grown_below hB3;have B3:=Lib.hid (hB2.trans (hB3.mono hzw));have HRG3:=Lib.hid (hrg2.kept G3 (by simp) (by simp));have O3:=Lib.hid (ownN_below hrow2 hB3 (Nat.le_refl _));clear G3 hB3 hz3 hR3 hrow2 hB2 hrg2;rw[hA]at hR4 B3 HRG3 O3|-;clear hA hen;generalize World.setRow _ A (w8 x).toArray=w3 at hR4 B3 HRG3 O3|-;have hz3:=B3.out.size;go_frame;go_wp2_with (first
  |(with_reducible refine conv_arm (o:=⟨some 16,_,_,_,_,_⟩) rfl _ _ _ _ rfl A 0 32 32 x hx rfl underlying64 underlying5 underlying9 hR4.bytes ?_)
  |(at_builtin;(refine wpList_append_own _ rfl _ _ 42 rfl w.heap.size 9 i0 (.string ByteArray.empty) 1 16 underlying42 HI.out hz0 hz1 hz2 rfl (by decide) _ _ _ rfl (O3.out.alloc _) ⟨w3.heap.size,0,none⟩ 1 1 [.string (str x)] rfl rfl (cell_one_new _ _ _) (wt_one [x]) (by unfold maxLen;omega) (by omega) (by rw[World.size_alloc];omega) ?_);intro v4 w4 hown4 hgr4 _;have H1:=Lib.hid hown4;have H2:=Lib.hid hgr4;clear hown4 hgr4))
 have HRG4:=Lib.hid ((HRG3.out.alloc _).kept H2.out (row_ne_low O3.out hmw) (row_ne_iter O3.out HRG3.out));have B4:=Lib.hid ((B3.out.alloc hz3 _).grown H2.out (by rw[World.size_alloc];omega) (λk hk=>(O3.out.lt k hk).1));clear H2;go_roundw;exact⟨_,cnt2,ss++[x],HRG4.out,by simp;omega,by rw[List.length_append,<-wt_snoc];exact H1.out,C2.out,B4.out⟩;rw[HRG4.out.left_eq,LE.out];exact hlt
end
section
open Go.RowKit Go.Shelf Nums
attribute [local go_sem] Oper.semAt_some
namespace Sq
abbrev B:=List UInt8
abbrev V1:Nat:=64
abbrev enc(x:B):Array Value:=#[Value.string (str x)]
def take_snoc(zs:List B) k(h:k<zs.length):zs.take (k+1)=zs.take k++[zs.getD k []]:=by rw[List.take_succ_eq_append_getElem h,List.getD_eq_getElem?_getD,List.getElem?_eq_getElem h];rfl
def values1_in F n(h7:F.fn V1)(hro:F.round=none)(hn:1<=n) l Bs n₀ b off cap zs(hreach:zs.length<=1000)(hb:b<n₀)(J Jx:List B->World->Prop) (hY:∀pre x W,J pre W->pre.length<zs.length->YieldAt F (n-1) prog l (enc x) W λe W'=>(e=.returned (.bool true)/\J (pre++[x]) W'/\Below n₀ W W')∨(e=.returned (.bool false)/\Jx (pre++[x]) W')) W (hBs:W.cell? ⟨Bs,0,none⟩=some (.slice (some ⟨b,off,none⟩) zs.length cap)) (hc:∀j,j<zs.length->W.cell? ⟨b,off+j,none⟩=some (.string (str (zs.getD j [])))) (h0:J [] W):CallsIn F n prog V1 #[.func (.yield l) #[] #[],.pointer (some ⟨Bs,0,none⟩)] W λe W'=>(∃v,e=.returned v)/\((∃ys,ys=zs/\J ys W')∨(∃pre,pre <+: zs/\Jx pre W')):=by
 refine callsIn_of_wp func64 rfl h7 ?_ hro;simp only[ntmps64,List.size_toArray,List.length_cons,List.length_nil,Nat.reduceAdd,Nat.reduceSub,Array.replicate_succ,Array.replicate_zero,List.push_toArray,List.append_toArray,List.nil_append,List.cons_append];gi_wp2;gi_loopw [7] (λi wr=>∃k:Nat,k<=zs.length/\i=.int .i64 k/\J (zs.take k) wr/\Below n₀ W wr) (λi _=>zs.length-(intOf i).toNat);exact⟨0,Nat.zero_le _,rfl,h0,Below.refl _ _⟩;obtain⟨k,hk,rfl,hJs,hnx⟩:=hrel;by_cases hlt:k<zs.length
 ·have hcx:wr.cell? ⟨b,off+k,none⟩=some (.string (str (zs.getD k []))):=(hnx.cell (p:=⟨b,off+k,none⟩) hb).trans (hc k hlt);have hts:=take_snoc zs k hlt;have hY':=hY (zs.take k) (zs.getD k []) wr hJs (by rw[List.length_take];omega);rw[<-hts]at hY';generalize zs.getD k []=x at hcx hY';clear hts hc hY;obtain⟨fn,tmps,assign,body,hy,hR⟩:=hY';dsimp only[enc]at hy;gi_wp2;refine hR.mono ?_;rintro e W3 (⟨rfl,hJ3,hk3⟩|⟨rfl,hJx3⟩)
  ·gi_wp2;go_roundw;exact⟨k+1,by omega,by simp,hJ3,hnx.trans hk3⟩;simp[intOf];omega
  gi_wp2;refine bodyPost_ret (results_none rfl _ _ _) rfl ?_;exact⟨⟨_,rfl⟩,.inr ⟨_,List.take_prefix _ _,hJx3⟩⟩
 obtain rfl:k=zs.length:=by omega
 rw[List.take_length]at hJs;gi_wp2;go_end0;exact⟨⟨_,rfl⟩,.inl ⟨_,rfl,hJs⟩⟩
def values1_nil_in F n(h7:F.fn V1)(hro:F.round=none) l Bs a cap(J:List B->World->Prop) W(hBs:W.cell? ⟨Bs,0,none⟩=some (.slice a 0 cap))(h0:J [] W):CallsIn F n prog V1 #[.func (.yield l) #[] #[],.pointer (some ⟨Bs,0,none⟩)] W λe W'=>(∃v,e=.returned v)/\J [] W':=by refine callsIn_of_wp func64 rfl h7 ?_ hro;simp only[ntmps64,List.size_toArray,List.length_cons,List.length_nil,Nat.reduceAdd,Nat.reduceSub,Array.replicate_succ,Array.replicate_zero,List.push_toArray,List.append_toArray,List.nil_append,List.cons_append];gi_wp2;gi_loopw [7] (λi wr=>i=.int .i64 0/\J [] wr) (λ_ _=>0);exact⟨rfl,h0⟩;obtain⟨rfl,hJs⟩:=hrel;gi_wp2;go_end0;exact⟨⟨_,rfl⟩,hJs⟩
def values_stops(F:Fence)(n:Nat)(h7:F.fn V1)(hro:F.round=none)(hn:1<=n)(Bs n₀:Nat)(sv:Value)(zs:List B)(hreach:zs.length<=1000)(w w0:World)(hBs:Bs<w.heap.size)(hn₀:n₀<=w.heap.size) (hc:w.cell? ⟨Bs,0,none⟩=some sv) (hw:w0.heap.size<=n₀) (hI:Texts w0 sv zs) (h0w:Below w0.heap.size w0 w):SeqStopsK F n prog V1 #[.pointer (some ⟨Bs,0,none⟩)] enc (Below n₀) (λys=>ys=zs) (λpre=>pre <+: zs) zs.length w:=λl J Jx W hW _ _ hY h0=>by have hc':=(hW.cell (p:=⟨Bs,0,none⟩) hBs).trans hc;have hI':Texts W sv zs:=(hI.below h0w (Nat.le_refl _)).below hW (Nat.le_refl _);rcases hI with⟨a,c,rfl,rfl⟩|⟨b,o,c,rfl,hb,_⟩;exact(values1_nil_in F n h7 hro l Bs a c J W hc' h0).mono λe W' ⟨he,hj⟩=>⟨he,.inl ⟨_,rfl,hj⟩⟩;rcases hI' with⟨a',c',e,rfl⟩|⟨b',o',c',e,_,hp⟩;cases e;exact(values1_nil_in F n h7 hro l Bs _ _ J W hc' h0).mono λe W' ⟨he,hj⟩=>⟨he,.inl ⟨_,rfl,hj⟩⟩;cases e;exact values1_in F n h7 hro hn l Bs n₀ b o c zs hreach (by omega) J Jx hY W hc' (λj hj=>(hp j hj)) h0
def infoStr3:(prog.info? 9).map (λi=>(i.zero,i.size,i.bytes))=some (some (.string ByteArray.empty),1,16):=by kernel_rfl
def appendSeq_in(F:Fence)(n:Nat)(h3:F.fn 96)(h5:F.fn V1)(hro:F.round=none)(hn:3<=n)(Bs:Nat)(sv:Value)(zs:List B)(hlen:zs.length<=1000)(w w0:World)(hBs:Bs<w.heap.size)(hc:w.cell? ⟨Bs,0,none⟩=some sv)(hT:Texts w0 sv zs)(h0w:Below w0.heap.size w0 w):CallsIn F n prog 96 #[.slice none 0 0,.func (.func V1) #[] #[.pointer (some ⟨Bs,0,none⟩)]] w λe W'=>∃v,e=.returned v/\W'.ownsRow w.heap.size 9 1 v zs.length (wt zs)/\Below w.heap.size w W':=by
 have h1:1<=n:=by omega
 obtain⟨i0,hi,hz0,hz1,hz2⟩:=info_parts infoStr3;refine callsIn_of_wp_marks func96 rfl h3 ?_ hro;simp only[ntmps96,List.size_toArray,List.length_cons,List.length_nil,Nat.reduceAdd,Nat.reduceSub,Array.replicate_succ,Array.replicate_zero,List.push_toArray,List.append_toArray,List.nil_append,List.cons_append];have HC:=Lib.hid hc;clear hc;gi_wp2;have bO:=Boxed.new w 42 (.slice none 0 0);have hB0:Below w.heap.size w (w.alloc (.cells #[.slice none 0 0] 42)):=(Below.refl _ w).alloc (Nat.le_refl _) _;have hz:=h0w.size;refine wpIn_rangeFunc_ownG hro h1 (gf:=V1) (lb:=#[.pointer (some ⟨Bs,0,none⟩)]) rfl h5 (enters_of func64 (by kernel_rfl) rfl)
  (values_stops F (n-1) h5 hro (by omega) Bs w.heap.size sv zs hlen _ w0 (by simp;omega) (by simp) ((Below.cell (p:=⟨Bs,0,none⟩) hB0 hBs).trans HC.out) hz hT (h0w.trans (hB0.mono hz))) belowK_t (belowK_b (by simp)) (Below.refl _ _) (λ_=>rfl)
  (λpre W=>(∃v,Boxed W w.heap.size 42 v/\W.ownsRow w.heap.size 9 1 v pre.length (wt pre)/\True)/\Below w.heap.size w W)
  (λ_ _ _=>False)
  (OwnFrom.and (Own.from (holdsRow_own w.heap.size w.heap.size 42 9 1 (λpre=>pre.length) (λpre=>wt pre) (λpre v=>True)) _) (ownFrom_below (Nat.le_refl _) (by simp)))
  (λ_ _ _ _ _ hs _ _=>hs)
  ⟨⟨_,bO,World.ownsRow_nil _ _ _ _,trivial⟩,hB0⟩
  (λx=>{tmps:=#[.slice none 0 0,.func (.func V1) #[] #[.pointer (some ⟨Bs,0,none⟩)],.pointer (some ⟨w.heap.size,0,none⟩),undef,.slice none 0 0,.string (str x),.func (.func V1) #[] #[.pointer (some ⟨Bs,0,none⟩)],.string (str x),undef,undef,undef,undef,undef],defers:=[]}) ?assign ?body ?done ?stop
 case assign=>intro l x W K hK;gi_wp2;exact hK
 case body=>rintro l pre x W⟨⟨v,hv,hrow,hnil⟩,hB⟩hlt;have hc:=hv.cell;gi_wp2_with (gi_at_builtin;refine wpListIn_append_own _ rfl _ _ 42 rfl w.heap.size 9 i0 (.string ByteArray.empty) 1 16 underlying42 hi hz0 hz1 hz2 rfl (by decide) _ _ _ rfl (hrow.alloc _) ⟨W.heap.size,0,none⟩ 1 1 [.string (str x)] rfl rfl (cell_one_new _ _ _) (wt_one [x]) (by unfold maxLen;omega) (by omega) (by have:=hB.size;simp;omega) ?_;intro v' w1 hown' hgrow _;obtain⟨g',cap',rfl⟩:=ownsRow_succ hown';obtain⟨hv1,hv2,hr2,hk2,hb2⟩:=hv.appended (by decide) hrow hB.size (Nat.le_refl _) hown' hgrow;have hc1:=hv1.cell;have hf1:=hv1.frozen);exact⟨hk2.from _,hb2,⟨_,hv2,by rw[List.length_append,<-wt_snoc];exact hr2,trivial⟩,hB.trans hb2⟩
 case done=>rintro D ys W hD rfl⟨⟨v,hv,hrow,hnil⟩,hB⟩hK;have hc:=hv.cell;gi_wp2;refine⟨by simp,.inl ⟨_,_,rfl,run_takeDeferred hK,?_⟩⟩;exact⟨_,results_tmp rfl _ _ _,v,rfl,ownsRow_putObj hrow _ hK rfl,hB.trans (belowK_b (w:=w) (Nat.le_refl _) W D _ _ (by simp at hD;omega) hK rfl rfl)⟩
 case stop=>rintro D c pre W _ _ h _;exact h.elim
end Sq
open Sq
def svalues_calls(a:Option Addr)(len cap:Nat)(w:World):Calls prog 31 #[.slice a len cap] w λe w'=>e=.returned (.func (.func 64) #[] #[.pointer (some ⟨w.heap.size,0,none⟩)])/\w'=w.alloc (.cells #[.slice a len cap] 42):=by go_enter func31,ntmps31;go_wp2_with fail;go_ret;exact⟨rfl,rfl⟩
def appendSeq_calls(Bs:Nat)(sv:Value)(zs:List B)(hlen:zs.length<=1000)(w w0:World)(hBs:Bs<w.heap.size)(hc:w.cell? ⟨Bs,0,none⟩=some sv)(hT:Texts w0 sv zs)(h0w:Below w0.heap.size w0 w):Calls prog 96 #[.slice none 0 0,.func (.func 64) #[] #[.pointer (some ⟨Bs,0,none⟩)]] w λe W'=>∃v,e=.returned v/\W'.ownsRow w.heap.size 9 1 v zs.length (wt zs)/\Below w.heap.size w W':=(callsIn_wide (n:=6)).1 (appendSeq_in Fence.wide 6 trivial trivial rfl (by omega) Bs sv zs hlen w w0 hBs hc hT h0w)
def collect_calls(Bs:Nat)(sv:Value)(zs:List B)(hlen:zs.length<=1000)(w w0:World)(hBs:Bs<w.heap.size)(hc:w.cell? ⟨Bs,0,none⟩=some sv)(hT:Texts w0 sv zs)(h0w:Below w0.heap.size w0 w):Calls prog 63 #[.func (.func 64) #[] #[.pointer (some ⟨Bs,0,none⟩)]] w λe W'=>∃v,e=.returned v/\W'.ownsRow w.heap.size 9 1 v zs.length (wt zs)/\Below w.heap.size w W':=by have T:=Lib.hid (appendSeq_calls Bs sv zs hlen w w0 hBs hc hT h0w);clear hc;go_enter func63,ntmps63;go_wp2_with fail;refine T.out.mono ?_;rintro e w'⟨v,rfl,h1,h2⟩;go_wp2_with fail;go_ret;exact⟨v,rfl,h1,h2⟩
def sorted(zs:List B):List B:=zs.mergeSort λx y=>decide (x<=y)
def sorted_calls(Bs:Nat)(sv:Value)(zs:List B)(hlen:zs.length<=1000)(w w0:World)(hBs:Bs<w.heap.size)(hc:w.cell? ⟨Bs,0,none⟩=some sv)(hT:Texts w0 sv zs)(h0w:Below w0.heap.size w0 w):Calls prog 30 #[.func (.func 64) #[] #[.pointer (some ⟨Bs,0,none⟩)]] w λe W'=>∃v,e=.returned v/\W'.ownsRow w.heap.size 9 1 v zs.length (wt (sorted zs))/\Below w.heap.size w W':=by
 have T:=Lib.hid (collect_calls Bs sv zs hlen w w0 hBs hc hT h0w);clear hc;go_enter func30,ntmps30;go_wp2_with fail;refine T.out.mono ?_;rintro e w1⟨v,rfl,hrow,hb⟩;clear T;have hrow':=Lib.hid hrow;rcases hrow.2 with⟨rfl,hz⟩|⟨gb,cap,cur,rfl,hbase,hgb,r1,r2,r3,r4⟩
 ·have hss:zs=[]:=List.eq_nil_of_length_eq_zero hz;subst hss;have HB:=Lib.hid hb;clear hb hz hrow;go_wp2_with fail;refine(sortnil_calls w1).mono ?_;rintro e w2⟨rfl,rfl⟩;go_wp2_with fail;go_ret;refine⟨_,rfl,?_,HB.out⟩;have:=hrow'.out;simpa[sorted]using this
 have hH:Sort.Holds encStr w1 gb 0 zs.toArray:=holds_of_block hgb (by rw[Nat.mul_one]at r4;exact r4);have hgl:gb<w1.heap.size:=(Array.getElem?_eq_some_iff.1 hgb).1;have cS:=Lib.hid (sort_calls gb 0 cap zs w1 hH hgl (by omega));have HB:=Lib.hid hb;have HG:=Lib.hid hgb;have R:=Lib.hid (And.intro r1 (And.intro r2 r3));clear hb hrow hH hgb r1 r2 r3 r4;go_wp2_with fail;refine cS.out.mono ?_;rintro e w2⟨rfl,nn,os,rfl⟩;go_wp2_with fail;go_ret;refine⟨_,rfl,?_,HB.out.grown (grownBy_sorted _) HB.out.size (λj hj=>by cases hj;exact hbase)⟩;exact ownsRow_sorted (by simp) hbase HG.out R.out.1 R.out.2.1 R.out.2.2
end
section
open Go.Proofs Go.Shelf Go.RowKit Nums
def compRen:Ren where
 f:=λx=>match x with
  |194=>32
  |n=>n
 t:=λx=>match x with
  |31=>42
  |9=>9
  |3=>3
  |0=>0
  |4=>4
  |n=>n
 g:=λn=>n
def compLaid:Lays.n194 prog compRen where
 mixed:=Eq.refl true;f194:=Eq.trans func32 (congrArg some (Eq.refl (Body.n194 compRen)));t0:=underlying0;a0:=isAgg0;z0:=sizeOf0;v0:=zeroValue0;t3:=underlying3;a3:=isAgg3;z3:=sizeOf3;v3:=zeroValue3;t4:=underlying4;a4:=isAgg4;z4:=sizeOf4;v4:=zeroValue4;t9:=underlying9;a9:=isAgg9;z9:=sizeOf9;v9:=zeroValue9;t31:=underlying42;a31:=isAgg42;z31:=sizeOf42;v31:=zeroValue42
def compact_calls(C:Nat)(v:Value)(zs:List Sq.B)(w:World)(h:w.ownsRow C 9 1 v zs.length (wt zs))(hn:zs.length<=1000):Calls prog 32 #[v] w λe w'=>∃a c,e=.returned (.slice a (Lib.compact zs).length c)/\Below C w w':=by
 rcases h.2 with⟨rfl,hz⟩|⟨gb,cap,cur,rfl,hbase,hgb,r1,r2,r3,r4⟩;have hss:zs=[]:=List.eq_nil_of_length_eq_zero hz;subst hss;refine(Any.slices_Compact_string_empty compLaid none 0 w).mono ?_;rintro e w'⟨rfl,rfl⟩;exact⟨none,0,rfl,Below.refl _ _⟩;have hH:Sort.Holds encStr w gb 0 zs.toArray:=holds_of_block hgb (by rw[Nat.mul_one]at r4;exact r4);refine(Any.slices_Compact_string compLaid gb 0 cap zs w hH (by omega) (by omega)).mono ?_;rintro e w'⟨rfl,q,rfl⟩;refine⟨_,_,rfl,?_⟩;have hlt:gb<w.heap.size:=(Array.getElem?_eq_some_iff.1 hgb).1;have hg:∀d:Array (List UInt8),w.grownBy (Sort.putRow encStr (Sort.ahead w q) gb 0 d) (some gb):=λd=>by refine⟨rfl,rfl,rfl,by simp,λk hk hne=>?_⟩;have:gb≠k:=λe=>hne (by rw[e]);simp[Sort.putRow,Sort.mapBlock,Sort.ahead,Array.getElem?_modify,this]
 exact(Below.refl C w).grown (hg _) (by omega) (λj hj=>by cases hj;exact hbase)
def sorted_nodup zs:(Lib.compact (sorted zs)).length<zs.length↔ ¬zs.Nodup:=by
 have hp:(sorted zs).Perm zs:=List.mergeSort_perm _ _;have hs:(sorted zs).Pairwise λx y=>decide (x<=y)=true:=List.pairwise_mergeSort (λa b c h1 h2=>by simp only[decide_eq_true_eq]at h1 h2|-;exact List.le_trans h1 h2) (λa b=>by simpa using List.le_total a b) zs;rw[<-hp.nodup_iff,<-hp.length_eq];generalize sorted zs=ss at hs;have hget:∀j (h:j<ss.length),ss.toArray[j]! =ss[j]:=λj h=>by simp[getElem!_pos,h]
 constructor;intro hlt hn;rw[Lib.compact_all ss (λj hj=>by simp only[Lib.keeps,decide_eq_true_eq];by_cases h0:j=0;exact .inl h0;refine .inr ?_;rw[hget j hj,hget (j-1) (by omega)];intro e;have:=(List.getElem_inj hn).1 e;omega)]at hlt;omega;intro hn;have hne:∃j,j<ss.length/\Lib.keeps ss.toArray j=false:=by refine Classical.byContradiction λhc=>hn ?_;have hc':∀j,j<ss.length->0<j->ss.toArray[j]! ≠ss.toArray[j-1]! :=λj hj h0 e=>hc ⟨j,hj,Lib.keeps_neg h0 e⟩;rw[List.nodup_iff_pairwise_ne];rw[List.pairwise_iff_getElem]at hs|-;intro i j hi hj hij e;have h1:=hc' j hj (by omega);rw[hget j hj,hget (j-1) (by omega)]at h1;refine h1 (List.le_antisymm ?_ ?_);rw[<-e];by_cases h2:i=j-1;subst h2;exact List.le_refl _;simpa using hs i (j-1) hi (by omega) (by omega);simpa using hs (j-1) j (by omega) hj (by omega)
 obtain⟨j,hj,hk⟩:=hne;unfold Lib.compact Lib.compactUpTo;rw[List.length_map];have h1:=List.length_filter_lt_length_iff_exists (p:=Lib.keeps ss.toArray) (l:=List.range ss.length);have h2:((List.range ss.length).filter (Lib.keeps ss.toArray)).length< (List.range ss.length).length:=h1.2 ⟨j,List.mem_range.2 hj,by rw[hk];simp⟩;simpa using h2
end
section
open Go.RowKit Nums
namespace Tz
abbrev B:=List UInt8
def txZ(t:B):List Value:=if t=[]then tx0 else txCells t
def txz(L:List B):List Value:=(L.map txZ).flatten
def txZ_len t:(txZ t).length=33:=by unfold txZ;split;exact tx0_len;exact txCells_len t
def txZ_nil:txZ []=tx0:=by unfold txZ;rw[if_pos rfl]
def txZ_tx{t:B}(h:t≠ []):txZ t=txCells t:=by unfold txZ;rw[if_neg h]
def txZ_head t:(txZ t)[0]? =some (.string (str t)):=by unfold txZ;split;rename_i h;subst h;rfl;rfl
def txz_cons t L:txz (t::L)=txZ t++txz L:=rfl
theorem txz_len:∀L,(txz L).length=33*L.length
 |[]=>rfl|t::L=>by rw[txz_cons,List.length_append,txZ_len,txz_len L,List.length_cons];omega
theorem txz_ts:∀(L:List B),(∀t∈L,t≠ [])->txz L=txsCells L
 |[],_=>rfl|t::L,h=>by rw[txz_cons,txz_ts L (λx hx=>h x (List.mem_cons_of_mem _ hx)),txZ_tx (h t List.mem_cons_self)];rfl
theorem txz_get:∀L i j,i<L.length->j<33->(txz L)[33*i+j]? =(txZ (L.getD i []))[j]?
 |[],i,j,hi,_=>by simp at hi|t::L,0,j,_,hj=>by have:=txZ_len t;rw[txz_cons,List.getElem?_append_left (by omega)];simp|t::L,i+1,j,hi,hj=>by have:=txZ_len t;rw[txz_cons,List.getElem?_append_right (by omega),show 33*(i+1)+j-(txZ t).length=33*i+j by omega,txz_get L i j (by simpa using hi) hj];rfl
theorem txz_set:∀L i t,i<L.length->txz (L.set i t)=(txz L).take (33*i)++txZ t++(txz L).drop (33*i+33)
 |[],i,t,h=>by simp at h|u::L,0,t,_=>by have hu:=txZ_len u;rw[List.set_cons_zero,txz_cons,txz_cons,Nat.mul_zero,List.take_zero,List.nil_append,Nat.zero_add,List.drop_left' hu]|u::L,i+1,t,h=>by have hu:=txZ_len u;rw[List.set_cons_succ,txz_cons,txz_cons,txz_set L i t (by simpa using h),show 33*(i+1)=(txZ u).length+33*i by omega,List.take_length_add_append,show(txZ u).length+33*i+33=(txZ u).length+(33*i+33)by omega,List.drop_length_add_append];simp only[List.append_assoc]
def At(w:World)(T:Nat)(L:List B):Prop:=w.heap[T]? =some (.cells (txz L).toArray 69 (0,0))
section
variable{w w':World}{T:Nat}{L:List B}
def At.lt(h:At w T L):T<w.heap.size:=(Array.getElem?_eq_some_iff.1 h).1
def At.of_block(h:At w T L)(e:w'.heap[T]? =w.heap[T]?):At w' T L:=e.trans h
def At.below{C}(h:At w T L)(hb:Below C w w')(hT:T<C):At w' T L:=h.of_block (hb.block T hT)
def At.range(h:At w T L) i(hi:i<L.length):w.rangeAt T (33*i) (txZ (L.getD i [])):=λj v hv=>by
 have hj:j<33:=by have:=(List.getElem?_eq_some_iff.1 hv).1;rwa[txZ_len]at this
 rw[Go.cell_of_row w T (33*i+j) _ _ _ h,List.getElem?_toArray,txz_get L i j hi hj];exact hv
def At.bytes(h:At w T L) i(hi:i<L.length):w.cell? ⟨T,33*i,none⟩=some (.string (str (L.getD i []))):=h.range i hi 0 _ (txZ_head _)
def At.there(h:At w T L) i(hi:i<L.length):w.there T (33*i) 33:=λj hj=>by refine⟨?_,?_⟩;rw[Go.cell_of_row w T (33*i+j) _ _ _ h,List.getElem?_toArray,txz_get L i j hi hj,List.getElem?_eq_getElem (by rw[txZ_len];exact hj)];rfl;have h':w.heap[T]? =some (.cells (txz L).toArray 69 (0,0)):=h;unfold World.frozen?;simp[h']
def heap_set{l:List Value}{t fr}(h:w.heap[T]? =some (.cells l.toArray t fr)) o v:(w.setCell ⟨T,o,none⟩ v).heap[T]? =some (.cells (l.set o v).toArray t fr):=by obtain⟨hlt,hk⟩:=Array.getElem?_eq_some_iff.1 h;show(w.heap.modify T _)[T]? =_;rw[Array.getElem?_eq_getElem (by rw[Array.size_modify];exact hlt),Array.getElem_modify_self,hk];simp
theorem heap_sets{t fr}:∀vs o (w:World)(l:List Value),w.heap[T]? =some (.cells l.toArray t fr)->o+vs.length<=l.length->(w.setCells T o vs).heap[T]? =some (.cells (l.take o++vs++l.drop (o+vs.length)).toArray t fr)
 |[],o,w,l,h,_=>by rw[World.setCells,h];simp|v::vs,o,w,l,h,hl=>by
  rw[List.length_cons]at hl;rw[World.setCells,heap_sets vs (o+1) _ (l.set o v) (heap_set h o v) (by rw[List.length_set];omega)];have ho:o<l.length:=by omega
  congr 3;apply List.ext_getElem?;intro i;have e1:(List.take (o+1) (l.set o v))=l.take o++[v]:=by rw[List.take_succ_eq_append_getElem (by rw[List.length_set];exact ho),List.getElem_set_self,List.take_set_of_le (Nat.le_refl _)]
  have e2:List.drop (o+1+vs.length) (l.set o v)=l.drop (o+1+vs.length):=by rw[List.drop_set_of_lt (by omega)]
  rw[e1,e2,List.length_cons,show o+1+vs.length=o+(vs.length+1)by omega];simp
def At.put(h:At w T L) i t(hi:i<L.length):At (w.setCells T (33*i) (txZ t)) T (L.set i t):=by unfold At;rw[heap_sets (txZ t) (33*i) w (txz L) h (by rw[txZ_len,txz_len];omega),txZ_len,txz_set L i t hi]
def At.own(h:At w T L){C:Nat}(hC:C<=T)(hn:L.length<=1000):w.ownsRow C 69 33 (.slice (some ⟨T,0,none⟩) L.length L.length) L.length (txz L):=by refine⟨by rw[txz_len];omega,.inr ⟨T,L.length,_,rfl,hC,h,Nat.le_refl _,by unfold maxLen;omega,by simp[txz_len];omega,?_⟩⟩;simp only;rw[List.take_of_length_le (by rw[txz_len];omega)]
def sets_but w T o vs C:But C T w (w.setCells T o vs):=by
 have:=(Keep.setCells (g:=T) vs o w (Keep.refl _ w));exact⟨this.os,this.tape,this.output,this.size,λk hk hne=>by
 by_cases hl:k<w.heap.size;exact this.block k hl hne;have hs:(w.setCells T o vs).heap.size=w.heap.size:=by clear this hk hne hl;induction vs generalizing o w with|nil=>rfl|cons v vs ih=>rw[World.setCells,ih];simp[World.setCell]
 rw[Array.getElem?_eq_none (by omega),Array.getElem?_eq_none (by omega)]⟩
end
def made_get z n i(h:i<n):(madeCells z n)[i]? =some z[i % z.size]! :=by unfold madeCells;rw[Array.getElem?_map,Array.getElem?_range,if_pos h];rfl
def made_txs n:madeCells (Value.agg tx0.toArray).cells (n*33)=(txz (List.replicate n [])).toArray:=by
 apply Array.ext_getElem?;intro i;by_cases h1:i<n*33;have e:i=33*(i/33)+i % 33:=(Nat.div_add_mod i 33).symm;have hm:i % 33<33:=Nat.mod_lt _ (by omega);have hd:i/33<n:=by omega
 have hg:=txz_get (List.replicate n []) (i/33) (i % 33) (by rw[List.length_replicate];exact hd) hm;rw[<-e,List.getD_eq_getElem?_getD,List.getElem?_replicate,if_pos hd,show(some ([]:B)).getD []=[]from rfl,txZ_nil]at hg;have hz:(Value.agg tx0.toArray).cells=tx0.toArray:=rfl;have hq:tx0[i % 33]? =some (tx0[i % 33]'(by rw[tx0_len];exact hm)):=List.getElem?_eq_getElem _;rw[made_get _ _ _ h1,List.getElem?_toArray,hg,hq,hz,show tx0.toArray.size=33 by rw[List.size_toArray,tx0_len],getElem!_pos tx0.toArray (i % 33) (by rw[List.size_toArray,tx0_len];exact hm)];rfl;rw[Array.getElem?_eq_none (by rw[size_madeCells];omega),Array.getElem?_eq_none (by rw[List.size_toArray,txz_len,List.length_replicate];omega)]
def make_txs(w:World)(n:Nat)(hn:n<=1000):(Instr.makeSlice 38 (.int .i64 (n:Int)) (.int .i64 (n:Int))).run prog w=.ok (.slice (some ⟨w.heap.size,0,none⟩) n n) (w.alloc (.cells (txz (List.replicate n [])).toArray 69)):=by obtain⟨i0,hi0,hz0,hz1,hz2⟩:=info_parts infoTx3;have:=run_make w 38 69 i0 _ underlying38 hi0 hz0 .i64 .i64 (n:Int) (n:Int) (by omega) (by omega) (by rw[hz2];omega) (by omega);rw[hz1,Int.toNat_natCast,made_txs]at this;exact this
end Tz
namespace Wr
def Pos{α:Type}(x:R α):Prop:=∀e,x=.bad e->e≠0
def Pos.ok{α}(a:α) r:Pos (.ok a r):=λe h=>by cases h
def Pos.bind{α β x}{f:α->List UInt8->R β}(h:Pos x)(k:∀a r,Pos (f a r)):Pos (x.bind f):=λe he=>by
 cases x with
 |bad n=>have he':R.bad (α:=β) n=.bad e:=he;cases he';exact h _ rfl
 |ok a r=>exact k a r e he
def Pos.map{α β x}(f:α->β)(h:Pos x):Pos (x.map f):=λe he=>by
 cases x with
 |bad n=>cases he;exact h _ rfl
 |ok a r=>cases he
def Pos.void{α}{x:R α}(h:Pos x):Pos x.void:=λe he=>by
 cases x with
 |bad n=>cases he;exact h _ rfl
 |ok a r=>cases he
def Pos.ite{α p}[Decidable p]{x y:R α}(h:Pos x)(k:Pos y):Pos (if p then x else y):=by split<;>assumption
theorem Pos.bad{α n}(h:n≠0):Pos (α:=α) (.bad n):=λe he=>by cases he;exact h
def take_pos n l:Pos (take n l):=by unfold take;exact .ite (.bad (by decide)) (.ok _ _)
def size_pos l:Pos (size l):=(take_pos 1 l).bind λt r=>.ite (.ok _ _) ((take_pos _ _).bind λ_ _=>.ite (.bad (by decide)) (.ok _ _))
def upTo_pos lo hi l:Pos (upTo lo hi l):=(size_pos l).bind λx r=>.ite (.bad (by decide)) (.ok _ _)
def script_pos l:Pos (script l):=(upTo_pos _ _ l).bind λn r=>(take_pos n r).void
def inp_pos l:Pos (inp l):=(take_pos _ l).bind λ_ r=>(script_pos r).bind λ_ r=>(take_pos 4 r).void
def outp_pos l:Pos (outp l):=(take_pos _ l).bind λ_ r=>script_pos r
theorem rep_pos{p}(hp:∀l,Pos (p l)):∀n l,Pos (rep p n l)
 |0,_=>.ok _ _|n+1,l=>(hp l).bind λ_ r=>rep_pos hp n r
def tx_pos l:Pos (tx l):=((take_pos _ l).bind λ_ r=>(upTo_pos _ _ r).bind λn r=>(rep_pos inp_pos n r).bind λ_ r=>(upTo_pos _ _ r).bind λn r=>(rep_pos outp_pos n r).bind λ_ r=>(take_pos 4 r).void).bind λ_ _=>.ok _ _
theorem txs_pos:∀n l,Pos (txs n l)
 |0,_=>.ok _ _|n+1,l=>(tx_pos l).bind λ_ r=>(txs_pos n r).map _
theorem pairs_pos bound:∀n next l,Pos (pairs bound n next l)
 |0,_,_=>.ok _ _|n+1,_,l=>((size_pos l).bind λd r=>.ite (.bad (by decide)) (.ok _ _)).bind λi r=>(tx_pos r).bind λ_ r=>(pairs_pos bound n (i+1) r).map _
theorem takes_pos k:∀n l,Pos (takes k n l)
 |0,_=>.ok _ _|n+1,l=>(take_pos _ l).bind λ_ r=>(takes_pos k n r).map _
def fin_pos{α}{x:R α}(h:Pos x):Pos (fin x):=h.bind λa r=>.ite (.ok _ _) (.bad (by decide))
def cpt_pos l:Pos (readCompact l):=fin_pos ((take_pos _ l).bind λ_ r=>(take_pos _ r).bind λ_ r=>(upTo_pos _ _ r).bind λ_ r=>(takes_pos _ _ r).bind λss r=>(upTo_pos _ _ r).bind λm r=>.ite (.bad (by decide)) ((pairs_pos _ _ _ _).map _))
def rpl_pos l:Pos (readReply l):=fin_pos ((take_pos _ l).bind λ_ r=>(upTo_pos _ _ r).bind λn r=>(txs_pos n r).map _)
end Wr
def own_txt{w B n e v l}(h:w.ownsRow B e 1 v n (wt l))(hn:n=l.length):Texts w v l:=by by_cases h0:n=0;obtain⟨a,c,rfl⟩:=own_slice h;exact .inl ⟨a,c,by rw[h0],List.length_eq_zero_iff.1 (by omega)⟩;obtain⟨g,cap,rfl,_,hg,hat⟩:=own_cells h (by omega);refine .inr ⟨g,0,cap,by rw[hn],hg,λj hj=>?_⟩;rw[Nat.zero_add,hat j (by omega)];exact wt_get l j hj
def rcvA(mb:Nat)(a b c:Value):List Value:=[.map (some mb),a,b,c]
def rcv_clear{w rb mb a b c}(h:RowR w rb (rcvA mb a b c)):RowR (((w.setCell ⟨rb,1,none⟩ (.string (str []))).setCell ⟨rb,2,none⟩ (.slice none 0 0)).setCell ⟨rb,3,none⟩ (.slice none 0 0)) rb (rcv0 mb):=((h.set 1 (.string (str []))).set 2 (.slice none 0 0)).set 3 (.slice none 0 0)
def compact_bad(l:List UInt8)(n rb mb:Nat)(va vb vc:Value)(w:World)(hT:Tabs w)(hl:l.length<=9223372036854775807)(h1b:1<rb)(hR:RowR w rb (rcvA mb va vb vc))(hx:Wr.readCompact l=.bad n):Calls prog 15 #[.pointer (some ⟨rb,0,none⟩),.string (str l)] w λe w'=>e=.returned (.tuple #[.agg (an 0 []).toArray,.int .i64 (n:Int)])/\RowR w' rb (rcv0 mb)/\But w.heap.size rb w w':=by
 have hb:=hR.lt;have h1w:=hT.lt;have hn:=Wr.cpt_pos l n hx;have p1:¬(n:Int)=0:=by omega
 have rA:Row (w.alloc (.cells (an 0 []).toArray 48)) w.heap.size (an 0 []):=Row.new w _ _;have hB:But w.heap.size rb w (w.alloc (.cells (an 0 []).toArray 48)):=(But.refl _ _ _).alloc (Nat.le_refl _) _;rw[show(an 0 []).toArray=#[Value.int .i64 0,.string (str [])]from rfl]at rA hB;have R1:=Lib.hid (hR.alloc (.cells #[Value.int .i64 0,.string (str [])] 48));have HT:=Lib.hid hT;have HX:=Lib.hid hx;clear hT hR hx;go_enter func15,ntmps15;go_upto_region 1 with fail;generalize World.alloc _ _=w1 at rA hB R1|-;have f1:=R1.out.free 1;have f2:=R1.out.free 2;have f3:=R1.out.free 3;have c1:=R1.out.cell 1;have c2:=R1.out.cell 2;have c3:=R1.out.cell 3;have R2:=Lib.hid (rcv_clear R1.out);have A2:=Lib.hid (((rA.other (show rb≠w.heap.size by omega) _).other (show rb≠w.heap.size by omega) _).other (show rb≠w.heap.size by omega) _:Row (((w1.setCell ⟨rb,1,none⟩ (.string (str []))).setCell ⟨rb,2,none⟩ (.slice none 0 0)).setCell ⟨rb,3,none⟩ (.slice none 0 0)) w.heap.size _);have B2:=Lib.hid (((hB.setOwn 1 _).setOwn 2 _).setOwn 3 _:But w.heap.size rb w (((w1.setCell ⟨rb,1,none⟩ (.string (str []))).setCell ⟨rb,2,none⟩ (.slice none 0 0)).setCell ⟨rb,3,none⟩ (.slice none 0 0)));clear rA hB R1;go_upto_region 2 with fail;clear f1 f2 f3 c1 c2 c3;generalize World.setCell _ _ _=w2 at R2 A2 B2|-;have T1:=Lib.hid (wreadCompact_calls l w2 (B2.out.tabs HT.out h1w h1b) hl);rw[HX.out]at T1;have hA2:=A2.out.lt;have hR2:=R2.out.lt;go_wp2_with fail;refine T1.out.mono ?_;clear T1;rintro e w3⟨rfl,hb3⟩;have hd:=Row.new w3 cc0 82;have hdB:=(Below.refl w3.heap.size w3).alloc (Nat.le_refl _) (.cells cc0.toArray 82);have hdC:=below_setRow hdB (Nat.le_refl _) cc0.toArray;have hz3:=hb3.size;have R4:=Lib.hid ((R2.out.below hb3 hR2).below hdC (by omega));have A4:=Lib.hid ((A2.out.below hb3 hA2).below hdC (by omega));have B4:=Lib.hid ((B2.out.trans (But.of_below (hb3.mono B2.out.size))).trans (But.of_below (hdC.mono (by omega))));rw[show cc0.toArray=#[Value.string (str []),.string (str []),.slice none 0 0,.slice none 0 0,.slice none 0 0]from rfl]at hd R4 A4 B4;clear hb3 hdB hdC R2 A2 B2;go_upto_region 3 with(with_reducible refine store_cells (o:=⟨none,_,_,_,_,_⟩) rfl _ _ _ rfl w3.heap.size cc0 cc0 rfl rfl hd (info_Cpt.trans rfl) rfl (by decide +kernel) ?_);clear hd;rw[show cc0.toArray=#[Value.string (str []),.string (str []),.slice none 0 0,.slice none 0 0,.slice none 0 0]from rfl];generalize World.setRow _ _ _=w4 at R4 A4 B4|-;have rA4:=A4.out;go_wp2_with (first|(refine build_An0 (o:=⟨some 31,_,_,_,_,_⟩) rfl rfl ?_)|(with_reducible refine store_cells (o:=⟨none,_,_,_,_,_⟩) rfl _ _ _ rfl w.heap.size (an 0 []) (an 0 []) rfl rfl rA4 (info_Answer.trans rfl) rfl rfl ?_));have S5:=rA4.setRow (an 0 []);refine bodyPost_ret (v:=.tuple #[.agg (an 0 []).toArray,.int .i64 (n:Int)]) (results_c1 rfl _ _ w.heap.size (an 0 []) (.int .i64 (n:Int)) rfl rfl S5 _ underlying48 (info_Answer.trans rfl)) rfl ?_;exact⟨rfl,R4.out.setOther (by omega) _,B4.out.trans (But.of_below (below_setRow (Below.refl _ _) (Nat.le_refl _) _))⟩
def compact_dup(l:List UInt8)(c:Wr.Cb)(rr:List UInt8)(rb mb:Nat)(va vb vc:Value)(w:World)(hT:Tabs w)(hl:l.length<=9223372036854775807)(h1b:1<rb)(hR:RowR w rb (rcvA mb va vb vc))(hx:Wr.readCompact l=.ok c rr)(hd:¬c.shorts.Nodup):Calls prog 15 #[.pointer (some ⟨rb,0,none⟩),.string (str l)] w λe w'=>e=.returned (.tuple #[.agg (an 3 []).toArray,.int .i64 0])/\RowR w' rb (rcv0 mb)/\But w.heap.size rb w w':=by
 have hb:=hR.lt;have h1w:=hT.lt;have hok:=Wr.cpt_inv hx;have hdup:=(sorted_nodup c.shorts).2 hd;clear hd;have rA:Row (w.alloc (.cells (an 0 []).toArray 48)) w.heap.size (an 0 []):=Row.new w _ _;have hB:But w.heap.size rb w (w.alloc (.cells (an 0 []).toArray 48)):=(But.refl _ _ _).alloc (Nat.le_refl _) _;rw[show(an 0 []).toArray=#[Value.int .i64 0,.string (str [])]from rfl]at rA hB;have R1:=Lib.hid (hR.alloc (.cells #[Value.int .i64 0,.string (str [])] 48));have HT:=Lib.hid hT;have HX:=Lib.hid hx;clear hT hR hx;go_enter func15,ntmps15;go_upto_region 1 with fail;generalize World.alloc _ _=w1 at rA hB R1|-;have f1:=R1.out.free 1;have f2:=R1.out.free 2;have f3:=R1.out.free 3;have c1:=R1.out.cell 1;have c2:=R1.out.cell 2;have c3:=R1.out.cell 3;have R2:=Lib.hid (rcv_clear R1.out);have A2:=Lib.hid (((rA.other (show rb≠w.heap.size by omega) _).other (show rb≠w.heap.size by omega) _).other (show rb≠w.heap.size by omega) _:Row (((w1.setCell ⟨rb,1,none⟩ (.string (str []))).setCell ⟨rb,2,none⟩ (.slice none 0 0)).setCell ⟨rb,3,none⟩ (.slice none 0 0)) w.heap.size _);have B2:=Lib.hid (((hB.setOwn 1 _).setOwn 2 _).setOwn 3 _:But w.heap.size rb w (((w1.setCell ⟨rb,1,none⟩ (.string (str []))).setCell ⟨rb,2,none⟩ (.slice none 0 0)).setCell ⟨rb,3,none⟩ (.slice none 0 0)));clear rA hB R1;go_upto_region 2 with fail;clear f1 f2 f3 c1 c2 c3;generalize World.setCell _ _ _=w2 at R2 A2 B2|-;have T1:=Lib.hid (wreadCompact_calls l w2 (B2.out.tabs HT.out h1w h1b) hl);rw[HX.out]at T1;have hA2:=A2.out.lt;have hR2:=R2.out.lt;go_wp2_with fail;refine T1.out.mono ?_;clear T1;rintro e w3⟨sv,av,tv,rfl,ho3,hb3⟩;have ho3:Own3 w2.heap.size c sv av tv w3:=ho3;have hone:=own3_one ho3;have hd:=Row.new w3 cc0 82;have hdB:=(Below.refl w3.heap.size w3).alloc (Nat.le_refl _) (.cells cc0.toArray 82);have hdC:=below_setRow hdB (Nat.le_refl _) (cc c.header c.nonce sv av tv).toArray;have hz3:=hb3.size;have R4:=Lib.hid ((R2.out.below hb3 hR2).below hdC (by omega));have A4:=Lib.hid ((A2.out.below hb3 hA2).below hdC (by omega));have B4:=Lib.hid ((B2.out.trans (But.of_below (hb3.mono B2.out.size))).trans (But.of_below (hdC.mono (by omega))));have D4:=Lib.hid (hd.setRow (cc c.header c.nonce sv av tv));have O4:=Lib.hid (show Own3 w2.heap.size c sv av tv _ from⟨ownN_below ho3.1 hdC (Nat.le_refl _),ownN_below ho3.2.1 hdC (Nat.le_refl _),ownN_below ho3.2.2 hdC (Nat.le_refl _)⟩);rw[show cc0.toArray=#[Value.string (str []),.string (str []),.slice none 0 0,.slice none 0 0,.slice none 0 0]from rfl]at hd R4 A4 B4 D4 O4;clear hb3 hdB hdC R2 A2 B2 ho3;go_upto_region 3 with(with_reducible refine store_cells (o:=⟨none,_,_,_,_,_⟩) rfl _ _ _ rfl w3.heap.size cc0 (cc c.header c.nonce sv av tv) rfl rfl hd (info_Cpt.trans rfl) rfl hone ?_);clear hd hone;generalize World.setRow _ _ _=w4 at R4 A4 B4 D4 O4|-;obtain⟨D,hD⟩:∃D,w3.heap.size=D:=⟨_,rfl⟩;rw[hD]at D4 hz3|-;clear hD;have hD4:=D4.out.lt;obtain⟨sa,sc,rfl⟩:=own_slice O4.out.1;have hc2:=D4.out.cell 2;rw[show(cc c.header c.nonce (.slice sa c.shorts.length sc) av tv)[2]? =some (.slice sa c.shorts.length sc)from rfl]at hc2;have hnn:=hok.le;go_wp2_with fail;refine(svalues_calls sa c.shorts.length sc w4).mono ?_;rintro e w5⟨rfl,rfl⟩;have hb5:Below w4.heap.size w4 (w4.alloc (.cells #[.slice sa c.shorts.length sc] 42)):=(Below.refl _ _).alloc (Nat.le_refl _) _;have R5:=Lib.hid (R4.out.below hb5 R4.out.lt);have A5:=Lib.hid (A4.out.below hb5 A4.out.lt);have D5:=Lib.hid (D4.out.below hb5 hD4);have B5:=Lib.hid (B4.out.trans (But.of_below (hb5.mono B4.out.size)));have O5:=Lib.hid (show Own3 w2.heap.size c (.slice sa c.shorts.length sc) av tv _ from⟨ownN_below O4.out.1 hb5 (Nat.le_refl _),ownN_below O4.out.2.1 hb5 (Nat.le_refl _),ownN_below O4.out.2.2 hb5 (Nat.le_refl _)⟩);have T5:=Lib.hid (sorted_calls w4.heap.size (.slice sa c.shorts.length sc) c.shorts (by omega) (w4.alloc (.cells #[.slice sa c.shorts.length sc] 42)) w4 (by simp) (by have:=(Row.new w4 [.slice sa c.shorts.length sc] 42).cell 0;exact this) (own_txt O4.out.1 rfl) hb5);clear hb5 R4 A4 D4 B4 O4 hc2;generalize hw5:w4.alloc _=w5 at R5 A5 D5 B5 O5 T5|-;have hsz5:w5.heap.size=w4.heap.size+1:=by rw[<-hw5];simp
 clear hw5;go_wp2_with fail;refine T5.out.mono ?_;clear T5;rintro e w6⟨zv,rfl,hz,hb6⟩;obtain⟨za,zc,rfl⟩:=own_slice hz;have hzl:(sorted c.shorts).length=c.shorts.length:=(List.mergeSort_perm _ _).length_eq;have Z6:=Lib.hid (show w6.ownsRow w5.heap.size 9 1 (.slice za c.shorts.length zc) (sorted c.shorts).length (wt (sorted c.shorts))by rw[hzl];exact hz);have R6:=Lib.hid (R5.out.below hb6 R5.out.lt);have A6:=Lib.hid (A5.out.below hb6 A5.out.lt);have D6:=Lib.hid (D5.out.below hb6 D5.out.lt);have B6:=Lib.hid (B5.out.trans (But.of_below (hb6.mono B5.out.size)));have Q6:=Lib.hid hb6;have hsz6:=hb6.size;clear hz hb6 R5 A5 D5 B5;go_upto_region 6 with fail;have hu2:∀u:Reg.Of (λu=>Row u D (cc c.header c.nonce (.slice sa c.shorts.length sc) av tv)),u.w.cell? ⟨D,2,none⟩=some (.slice sa c.shorts.length sc):=λu=>u.h.cell 2;haveI hne:Nonempty (Reg.Of (λu=>Row u D (cc c.header c.nonce (.slice sa c.shorts.length sc) av tv))):=⟨⟨w6,D6.out⟩⟩;refine Reg.startL [0,3,4,5] 3 mixed (by kernel_rfl) rfl rfl (λc a d v w h=>by cases d<;>exact h) (by as_aux_lemma=>kernel_rfl) rfl (λu=>Row u D (cc c.header c.nonce (.slice sa c.shorts.length sc) av tv)) D6.out.drew ?_;show wpQuiet _ _ _ _ [_,_,_,_] _;repeat(go_big_quiet_step (fail))
 refine wpQuiet_nil ?_;clear hu2;have R7:=Lib.hid R6.out.drew;have A7:=Lib.hid A6.out.drew;have D7:=Lib.hid D6.out.drew;have B7:=Lib.hid B6.out.drew;have Q7:=Lib.hid Q6.out.drew;have hsz7:w5.heap.size<=w6.drew.heap.size:=hsz6;have T7:=Lib.hid (compact_calls w5.heap.size _ (sorted c.shorts) w6.drew Z6.out (by rw[hzl];omega));clear R6 A6 D6 B6 Q6 Z6;generalize w6.drew=w7 at R7 A7 D7 B7 Q7 T7 hsz7|-;generalize hq:(Lib.compact (sorted c.shorts)).length=q at T7 hdup;clear hq;refine Reg.one 1 _ (by kernel_rfl) rfl rfl ?_;try go_frame
 go_wp2_with fail;refine T7.out.mono ?_;clear T7;rintro e w8⟨ka,kc,rfl,hb8⟩;have hD8:D<w5.heap.size:=by omega
 have R8:=Lib.hid (R7.out.below hb8 (by omega));have A8:=Lib.hid (A7.out.below hb8 (by omega));have D8:=Lib.hid (D7.out.below hb8 hD8);have B8:=Lib.hid (B7.out.trans (But.of_below (hb8.mono (by have:=B7.out.size;have:=A7.out.lt;omega))));have Q8:=Q7.out.trans hb8;have O8:=Lib.hid (show Own3 w2.heap.size c (.slice sa c.shorts.length sc) av tv w8 from⟨ownN_below O5.out.1 Q8 (Nat.le_refl _),ownN_below O5.out.2.1 Q8 (Nat.le_refl _),ownN_below O5.out.2.2 Q8 (Nat.le_refl _)⟩);have S8:Reg.cls (λu=>Row u D (cc c.header c.nonce (.slice sa c.shorts.length sc) av tv)) w8:=Reg.cls_mk D8.out;clear hb8 R7 A7 D7 B7 Q7 Q8 O5;go_wp2_with fail;refine⟨S8,?_⟩;refine Reg.one 2 _ (by kernel_rfl) rfl rfl ?_;try go_frame
 go_wp2_with fail;refine⟨S8,?_⟩;refine Reg.one 6 _ (by kernel_rfl) rfl rfl ?_
 try go_frame
 go_wp2_with fail;refine⟨S8,?_⟩;refine wpAnyH_done (by kernel_rfl) ?_ 0
 try go_frame
 have p1:(q:Int)< (c.shorts.length:Int):=by omega
 have rA8:=A8.out;go_wp2_with (first|(refine build_An1 (o:=⟨some 44,_,_,_,_,_⟩) rfl _ rfl 3 rfl ?_)|(with_reducible refine store_cells (o:=⟨none,_,_,_,_,_⟩) rfl _ _ _ rfl w.heap.size (an 0 []) (an 3 []) rfl rfl rA8 (info_Answer.trans rfl) rfl rfl ?_));have S9:=rA8.setRow (an 3 []);refine bodyPost_ret (v:=.tuple #[.agg (an 3 []).toArray,.int .i64 0]) (results_c1 rfl _ _ w.heap.size (an 3 []) (.int .i64 0) rfl rfl S9 _ underlying48 (info_Answer.trans rfl)) rfl ?_;exact⟨rfl,R8.out.setOther (by omega) _,B8.out.trans (But.of_below (below_setRow (Below.refl _ _) (Nat.le_refl _) _))⟩
end
