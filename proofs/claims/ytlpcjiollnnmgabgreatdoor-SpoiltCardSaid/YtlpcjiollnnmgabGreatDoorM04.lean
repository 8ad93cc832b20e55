import Derived.Test.YtlpcjiollnnmgabGreatDoorM03
import Derived.Maps.Ext
import Derived.Shelf.Sort.Plain
import Derived.Sort.KeysCollected
import Derived.Sort.OwnSorted
import Derived.RangeFuncNested
import Derived.RangeFuncBound
import Derived.Shelf.Slices.CompactS
set_option maxRecDepth 100000
set_option maxHeartbeats 8000000
set_option linter.all false
namespace Go.Proofs.YtlpcjiollnnmgabGreatDoor
open Go.Proofs.Tryz
section
open Go.RowKit bd
def vzq{P ops rest o a C Q v}(hw:Region.wanted o (yielded ops a.tmps)=true)(hv:∀w,C w->(execOp a.eval o).run P w=.ok (.value v) w) (h:wpQuiet P ops C Q rest (a.put o.dst v)):wpQuiet P ops C Q (o::rest) a:=by unfold wpQuiet;rw[if_pos hw];refine⟨v,λw hC=>?_,h⟩;have:=hv w hC;unfold Oper.quietAt;simp only[this,Oper.quietUpon];first|trivial|exact⟨trivial,trivial⟩|exact⟨rfl,rfl⟩|exact⟨rfl,hC⟩
def Dq{P ops rest o a C Q}(hw:Region.wanted o (yielded ops a.tmps)=true) src dst e x(ho:o.op=.convert src dst x) g off n cap l (hl:l.length=n) (hx:a.eval x=.slice (some ⟨g,off,none⟩) n cap) (hs:P.underlying src=some (.slice e)) (he:P.underlying e=some (.int .u8)) (hd:P.underlying dst=some .string) (hb:∀w,C w->Bytes w g off l) (h:wpQuiet P ops C Q rest (a.put o.dst (.string (str l)))):wpQuiet P ops C Q (o::rest) a:=by subst hl;refine vzq hw (λw hC=>?_) h;unfold execOp;simp only[ho,hx];rw[Sem.run_bind,jK w src dst e g off cap l hs he hd (hb w hC)];rfl
def aO:(prog.info? 49).map (·.size)=some 2:=by kernel_rfl
def an(k:Nat)(s:List UInt8):List Value:=[.int .i64 (k:Int),.string (str s)]
def Uh k s:prog.built 49 [(0,.int .i64 k),(1,.string s)]=some #[.int .i64 k,.string s]:=by kernel_rfl
def Ui k:prog.built 49 [(0,.int .i64 k)]=some #[.int .i64 k,.string ByteArray.empty]:=by kernel_rfl
def Uj:prog.built 49 []=some #[.int .i64 0,.string ByteArray.empty]:=by kernel_rfl
def wT{ops rest o a w Q}(iW:o.guard=none) x y(ho:o.op=.build 49 #[(0,x),(1,y)]) (k:Nat) s (hx:a.eval x=.int .i64 (k:Int)) (hy:a.eval y=.string (str s)) (h:wpList prog ops Q rest (a.put o.dst (.agg (an k s).toArray)) w):wpList prog ops Q (o::rest) a w:=by refine wpList_buildTo iW 49 _ ho _ rfl _ ?_ h;simp only[List.map_toArray,List.map_cons,List.map_nil,hx,hy];exact Uh k (str s)
def jL{ops rest o a w Q}(iW:o.guard=none) x(ho:o.op=.build 49 #[(0,x)]) (k:Nat) (hx:a.eval x=.int .i64 (k:Int)) (h:wpList prog ops Q rest (a.put o.dst (.agg (an k []).toArray)) w):wpList prog ops Q (o::rest) a w:=by refine wpList_buildTo iW 49 _ ho _ rfl _ ?_ h;simp only[List.map_toArray,List.map_cons,List.map_nil,hx];exact Ui k
def iR{ops rest o a w Q}(iW:o.guard=none)(ho:o.op=.build 49 #[]) (h:wpList prog ops Q rest (a.put o.dst (.agg (an 0 []).toArray)) w):wpList prog ops Q (o::rest) a w:=by refine wpList_buildTo iW 49 _ ho _ rfl _ ?_ h;simp only[List.map_toArray,List.map_nil];exact Uj
def aeu{w g t}(h:Row w g (ai t)):w.rangeAt g 1 (w8 (Mk.ak t)):=λj v hv=>by rw[h.cell];unfold ai;rw[Nat.add_comm,List.getElem?_cons_succ];exact hv
def dW(mb:Nat)(h:List UInt8)(tv mv:Value):List Value:=[.map (some mb),.string (str h),tv,mv]
def n8(mb:Nat):List Value:=dW mb [] (.slice none 0 0) (.slice none 0 0)
def dm(w:World)(b:Nat)(l:List Value):Prop:=w.heap[b]? =some (.cells l.toArray 44 (0,0))
namespace dm
variable{w w':World}{b:Nat}{l:List Value}
def row(h:dm w b l):Row w b l:=⟨_,h⟩
theorem cell(h:dm w b l) i:w.cell? ⟨b,i,none⟩=l[i]?:=h.row.cell i
theorem free(h:dm w b l) i:w.frozen? ⟨b,i,none⟩=false:=h.row.free i
theorem lt(h:dm w b l):b<w.heap.size:=h.row.lt
def same(h:dm w b l)(e:w'.heap[b]? =w.heap[b]?):dm w' b l:=e.trans h
def set(h:dm w b l) i v:dm (w.setCell ⟨b,i,none⟩ v) b (l.set i v):=by have h':w.heap[b]? =some (.cells l.toArray 44 (0,0)):=h;show(w.setCell ⟨b,i,none⟩ v).heap[b]? =_;simp[World.setCell,Array.getElem?_modify,h']
def other(h:dm w b l){a}(ha:a.block≠b) v:dm (w.setCell a v) b l:=h.same (Below.heap_setCell _ _ _ _ (Ne.symm ha))
def drew(h:dm w b l):dm w.drew b l:=h
def alloc(h:dm w b l) o:dm (w.alloc o) b l:=h.same (Below.heap_alloc _ _ _ h.lt)
def below{B}(h:dm w b l)(hb:Below B w w')(hB:b<B):dm w' b l:=h.same (hb.block b hB)
def aG{g}(h:dm w b l)(hb:b≠g) m:dm (w.setRow g m) b l:=h.same (setRow_other w g b m hb)
end dm
def uN rb mb h tv mv ts C w(hT:cH w)(lX:1<rb)(hR:dm w rb (dW mb h tv mv))(ho:w.ownsRow C 78 33 tv ts.length (aJ ts)) (hs:∀t∈ts,t.length<=610) (h0:0<ts.length) (hn:ts.length<=16) (hl:h.length=80) (Qm:rb<C):Calls prog 46 #[.pointer (some ⟨rb,0,none⟩)] w λe w'=>e=.returned (.agg (an (Cp.finish h ts).1 (Cp.finish h ts).2).toArray)/\dm w' rb (n8 mb)/\cA w.heap.size rb w w':=by
 obtain⟨i0,fP,oL,kP,ik⟩:=info_parts G7;have HI:=η fP;have hb:=hR.lt;have gY:=hT.lt;have HS:=η hs;obtain⟨gb,cb,rfl,aqk,sn,hTA⟩:=mm ho h0;have jY:gb≠rb:=by omega
 have rA:Row (w.alloc (.cells (an 0 []).toArray 49)) w.heap.size (an 0 []):=Row.new w _ _;have hB:cA w.heap.size rb w (w.alloc (.cells (an 0 []).toArray 49)):=(cA.refl _ _ _).alloc ν _;rw[show(an 0 []).toArray=#[Value.int .i64 0,.string (str [])]from rfl]at rA hB;have hA1:=η (hR.alloc (.cells #[Value.int .i64 0,.string (str [])] 49));have HT:=η hT;have HTA:=η hTA;clear hT hR hs fP hTA;have FE:=η (show Cp.finish h ts=if(Mk.root (ts.map Mk.ak) false).2=true∨(Mk.root (ts.map Mk.ak) false).1≠(h.drop 36).take 32 then(3,[])else(2,h++(Wr.dI ts.length++ts.flatten))from rfl);obtain⟨fin,il⟩:∃p,Cp.finish h ts=p:=⟨_,rfl⟩;rw[il]at FE|-;clear il;go_enter func46,ntmps46;go_upto_region 2 with fail;generalize World.alloc _ _=w1 at rA hB hA1|-;have lV:=hA1.o.cell 2;rw[show(dW mb h (.slice (some ⟨gb,0,none⟩) ts.length cb) mv)[2]? =some (.slice (some ⟨gb,0,none⟩) ts.length cb)from rfl]at lV;have RA:=η rA;have HB:=η hB;obtain⟨A,hA⟩:∃A,w.heap.size=A:=⟨_,rfl⟩;have HA:=η hA;have ak6:=rA.lt;rw[hA]at rA hB ak6 RA sn hb;clear rA hB;go_wp2_with fail;clear lV;go_loopw [3,5,14] (λsv pv iv wr=>∃i:Nat,i<=ts.length/\iv=.int .i64 i/\wr.ownsRow w1.heap.size 76 32 sv i (w8 ((ts.map Mk.ak).take i).flatten)/\Below w1.heap.size w1 wr) (λ_ _ iv _=>ts.length-(intOf iv).toNat);exact⟨0,by omega,rfl,World.ownsRow_nil _ _ _ _,Below.refl _ _⟩;obtain⟨i,hi,rfl,bY,QC⟩:=hrel;have B2:=η bY;have B3:=η QC;have mH:=QC.size;clear bY QC;by_cases aM:i<ts.length
 ·have p0:(i:Int)< (ts.length:Int):=by omega
  have zk:(ts.getD i []).length<=610:=HS.o _ (by rw[List.getD_eq_getElem?_getD,List.getElem?_eq_getElem aM];exact List.getElem_mem aM);have qY:wr.rangeAt gb (33*i) (ai (ts.getD i [])):=rangeAt_of_block (HTA.o i aM) ((B3.o.block gb (by omega)).trans (HB.o.block gb (by rw[HA.o];omega) jY));have htk:=η (show(ts.map Mk.ak).take (i+1)=(ts.map Mk.ak).take i++[Mk.ak (ts.getD i [])]by rw[List.take_succ_eq_append_getElem (by simpa using aM),List.getElem_map,List.getD_eq_getElem?_getD,List.getElem?_eq_getElem aM];rfl);obtain⟨t,Qj⟩:∃t,ts.getD i []=t:=⟨_,rfl⟩;rw[Qj]at zk qY htk;rw[Nat.mul_comm]at qY;have r1:Row (wr.alloc (.cells db.toArray 78)) wr.heap.size db:=Row.new wr db 78;have bw:=below_setRow ((Below.refl wr.heap.size wr).alloc ν (.cells db.toArray 78)) ν (ai t).toArray;have RT:=η (r1.setRow (ai t));have O2:=η (aE B2.o bw ν);have B4:=η (B3.o.trans (bw.mono mH));rw[Tryz.gU]at r1 bw RT O2 B4;have NL:=bw.size;clear bw Qj B2 B3;go_upto_region 5 with(first|(refine v7 (o:=⟨some 17,_,_,_,_,_⟩) rfl _ rfl gb (i*33) t rfl qY ?_)|(with_reducible refine au (o:=⟨none,_,_,_,_,_⟩) rfl _ _ _ rfl wr.heap.size db (ai t) rfl rfl r1 (cW.trans (by rw[aC])) (by rw[aC,bp]) (aX t) ?_));clear r1 qY;generalize World.setRow _ _ _=w2 at RT O2 B4 NL|-;obtain⟨T,hTe⟩:∃T,wr.heap.size=T:=⟨_,rfl⟩;rw[hTe]at RT NL mH|-;have UT:=aeu RT.o;have qe:=RT.o.lt;have L1:=η (show∀(j:Nat)(u:Value),(w8 (Mk.ak t))[j]? =some u->(w2.alloc (.cells (w8 (Mk.ak t)).toArray 76)).cell? (Addr.add ⟨w2.heap.size,0,none⟩ j)=some u from λj u hu=>by rw[Addr.add_lit,Nat.zero_add,(Row.new w2 _ _).cell];exact hu);go_wp2_with (first|(refine P0 (o:=⟨some 20,_,_,_,_,_⟩) rfl _ rfl T 1 (Mk.ak t) (eQ t) rfl UT ?_)|(refine rk (o:=⟨some 21,_,_,_,_,_⟩) rfl _ rfl (Mk.ak t) (eQ t) rfl ?_)|(at_builtin;refine wpList_append_own _ rfl _ _ 110 rfl w1.heap.size 76 i0 (.agg (w8 (List.replicate 32 0)).toArray) 32 32 underlying110 HI.o oL kP ik rfl (by decide) _ _ _ rfl (O2.o.alloc _) ⟨w2.heap.size,0,none⟩ 1 1 (w8 (Mk.ak t)) rfl (by rw[aV,eQ]) L1.o (nS _) (by unfold maxLen;omega) (by omega) (by rw[World.size_alloc];omega) ?_;intro Vd w3 cg dr _;have gQ:Below w1.heap.size w2 w3:=((Below.refl w1.heap.size w2).alloc (by omega) _).grown dr (by rw[World.size_alloc];omega) (λk hk=>(O2.o.lt k hk).1);have H1:=η cg;have H2:=η gQ;clear cg dr gQ))
  go_roundw
  ·((repeat(apply Exists.intro));(first|refine And.intro ?_ rfl|refine And.intro ?_ ⟨rfl,rfl⟩|refine And.intro ?_ ⟨rfl,rfl,rfl⟩);exact⟨i+1,by omega,by go_num,by rw[htk.o,<-q9];exact H1.o,B4.o.trans H2.o⟩)
  simp[intOf];omega
 obtain rfl:i=ts.length:=by omega
 have hO:=η (show wr.ownsRow w1.heap.size 76 32 u3 ts.length (w8 (ts.map Mk.ak).flatten)by have:=B2.o;rwa[List.take_of_length_le (by simp)]at this);have pg:kG (ts.map Mk.ak):=λd hd=>by obtain⟨t,_,rfl⟩:=List.mem_map.1 hd;exact eQ t
 have XT:(ts.map Mk.ak).length=ts.length:=List.length_map _;obtain⟨g,k,rfl,hg,zp,UT⟩:=Bl hO.o h0 XT.symm pg;have lD:=Mk.lh (ts.map Mk.ak) pg (by omega);have hTw:cH wr:=(HB.o.sE HT.o gY lX).below B3.o (by omega);have CR:=xR g k (ts.map Mk.ak) wr hTw zp UT pg (by omega) (by omega);rw[XT]at CR;have C2:=η CR;have RA2:=η (RA.o.below B3.o ak6);have RR2:=η (hA1.o.below B3.o hA1.o.lt);have XE:=hA1.o.lt;have O0:=η ho;clear pg UT hTw CR hO B2 RA hA1 ho XT;generalize Mk.root (ts.map Mk.ak) false=R at C2 lD FE;obtain⟨r1,r2⟩:=R;dsimp only at FE lD;go_wp2_with fail;refine C2.o.mono ?_;clear C2;rintro e w4⟨rfl,mN⟩;have NL:=mN.size;have B4:=η (B3.o.trans (mN.mono mH));have RA4:=η (RA2.o.below mN (by omega));have RR4:=η (RR2.o.below mN (by omega));clear mN B3 RA2 RR2;have TF:=Row.new w4 (w8 (List.replicate 32 0)) 76;have Yo:=(Below.refl w4.heap.size w4).alloc ν (.cells (w8 (List.replicate 32 0)).toArray 76);have QC:=below_setRow Yo ν (w8 r1).toArray;have RD:=η (TF.setRow (w8 r1));have B5:=η (B4.o.trans (QC.mono (by omega)));have RA5:=η (RA4.o.below QC (by omega));have RR5:=η (RR4.o.below QC (by omega));rw[Tryz.nO]at TF RD B5 RA5 RR5;clear Yo QC B4 RA4 RR4;go_upto_region 8 with(with_reducible refine fE (o:=⟨none,_,_,_,_,_⟩) rfl _ _ rfl w4.heap.size (List.replicate 32 0) r1 rfl lD rfl rfl TF ?_);clear TF;generalize World.setRow _ _ _=w5 at RD B5 RA5 RR5|-;obtain⟨D,hD⟩:∃D,w4.heap.size=D:=⟨_,rfl⟩;rw[hD]at RD NL|-;have hD5:=RD.o.lt;clear hD;have yM:∀u:ax.Of (λu=>Row u rb (dW mb h (.slice (some ⟨gb,0,none⟩) ts.length cb) mv)),u.w.cell? ⟨rb,1,none⟩=some (.string (str h)):=λu=>u.h.cell 1;have rP:∀u:ax.Of (λu=>Row u rb (dW mb h (.slice (some ⟨gb,0,none⟩) ts.length cb) mv)),u.w.cell? ⟨rb,2,none⟩=some (.slice (some ⟨gb,0,none⟩) ts.length cb):=λu=>u.h.cell 2;haveI bZ:Nonempty (ax.Of (λu=>Row u rb (dW mb h (.slice (some ⟨gb,0,none⟩) ts.length cb) mv))):=⟨⟨w5,RR5.o.row⟩⟩;refine ax.bA [0,1,2,3,4,5,6,7,8] 2 mixed (by kernel_rfl) rfl rfl (λc a d v w h=>by cases d<;>exact h) (by as_aux_lemma=>kernel_rfl) rfl (λu=>Row u rb (dW mb h (.slice (some ⟨gb,0,none⟩) ts.length cb) mv)) RR5.o.row.drew ?_;show wpQuiet _ _ _ _ [_,_,_,_,_,_,_,_,_] _;repeat(go_big_quiet_step (fail))
 refine wpQuiet_nil ?_;clear yM rP;have RD6:=η RD.o.drew;have B6:=η B5.o.drew;have RA6:=η RA5.o.drew;have RR6:=η RR5.o.drew;have hD6:D<w5.drew.heap.size:=hD5;clear RD B5 RA5 RR5 hD5;generalize w5.drew=w6 at RD6 B6 RA6 RR6 hD6|-;have hz6:=B6.o.size;have hRb:=Row.new w6 cB 83;have hBb:=(Below.refl w6.heap.size w6).alloc ν (.cells cB.toArray 83);have hBc:=below_setRow hBb ν (pr h (.slice (some ⟨gb,0,none⟩) ts.length cb)).toArray;have RB7:=η (hRb.setRow (pr h (.slice (some ⟨gb,0,none⟩) ts.length cb)));have RD7:=η (RD6.o.below hBc hD6);have B7:=η (B6.o.trans (hBc.mono (by omega)));have RA7:=η (RA6.o.below hBc (by omega));have Zx:=η (RR6.o.below hBc (by omega));rw[show cB.toArray=#[Value.string (str []),.slice none 0 0]from rfl]at hRb RB7 RD7 B7 RA7 Zx;have hS6:=RR6.o.row.alloc (.cells #[Value.string (str []),.slice none 0 0] 83);clear hBb hBc RD6 B6 RA6 RR6;refine ax.one 9 _ (by kernel_rfl) rfl rfl ?_;try go_frame
 go_wp2_with fail;refine⟨ax.aj hS6,?_⟩;refine ax.one 10 _ (by kernel_rfl) rfl rfl ?_
 refine au rfl _ _ _ rfl w6.heap.size cB (pr h (.slice (some ⟨gb,0,none⟩) ts.length cb)) rfl rfl hRb (bM.trans rfl) rfl (ft h rfl) ?_;clear hRb hS6;generalize World.setRow _ _ _=w7 at RB7 RD7 B7 RA7 Zx|-;obtain⟨K,hK⟩:∃K,w6.heap.size=K:=⟨_,rfl⟩;rw[hK]at RB7 hD6 hz6|-;clear hK;have hK7:=RB7.o.lt;refine⟨ax.aj Zx.o.row,?_⟩;refine wpAnyH_done (by kernel_rfl) ?_ 0;try go_frame
 have f1:=Zx.o.free 1;have f2:=Zx.o.free 2;have f3:=Zx.o.free 3;have c1:=Zx.o.cell 1;have c2:=Zx.o.cell 2;have c3:=Zx.o.cell 3;have RR8:=η (show dm (((w7.setCell ⟨rb,1,none⟩ (.string (str []))).setCell ⟨rb,2,none⟩ (.slice none 0 0)).setCell ⟨rb,3,none⟩ (.slice none 0 0)) rb (n8 mb)from((Zx.o.set 1 (.string (str []))).set 2 (.slice none 0 0)).set 3 (.slice none 0 0));go_upto_region 10 with fail;have NB:=η (show cA w.heap.size rb w (((w7.setCell ⟨rb,1,none⟩ (.string (str []))).setCell ⟨rb,2,none⟩ (.slice none 0 0)).setCell ⟨rb,3,none⟩ (.slice none 0 0))from(((HB.o.trans (cA.aH (B7.o.mono HB.o.size))).eA 1 _).eA 2 _).eA 3 _);have Zz:=η (((RD7.o.other (show rb≠D by omega) _).other (show rb≠D by omega) _).other (show rb≠D by omega) _:Row (((w7.setCell ⟨rb,1,none⟩ (.string (str []))).setCell ⟨rb,2,none⟩ (.slice none 0 0)).setCell ⟨rb,3,none⟩ (.slice none 0 0)) D _);have UZ:=η (((RB7.o.other (show rb≠K by omega) _).other (show rb≠K by omega) _).other (show rb≠K by omega) _:Row (((w7.setCell ⟨rb,1,none⟩ (.string (str []))).setCell ⟨rb,2,none⟩ (.slice none 0 0)).setCell ⟨rb,3,none⟩ (.slice none 0 0)) K _);have RA8:=η (((RA7.o.other (show rb≠A by omega) _).other (show rb≠A by omega) _).other (show rb≠A by omega) _:Row (((w7.setCell ⟨rb,1,none⟩ (.string (str []))).setCell ⟨rb,2,none⟩ (.slice none 0 0)).setCell ⟨rb,3,none⟩ (.slice none 0 0)) A _);clear f1 f2 f3 c1 c2 c3 RD7 RB7 RA7 Zx B7;have apB:K< (((w7.setCell ⟨rb,1,none⟩ (.string (str []))).setCell ⟨rb,2,none⟩ (.slice none 0 0)).setCell ⟨rb,3,none⟩ (.slice none 0 0)).heap.size:=UZ.o.lt;generalize World.setCell _ _ _=w8' at NB Zz UZ RA8 RR8 apB|-;have O8:=η (gp O0.o NB.o Qm);by_cases hm:r2=true
 ·subst hm;have FE2:=η (show fin=(3,[])by rw[FE.o,if_pos (.inl rfl)]);haveI bZ:Nonempty (ax.Of (λu=>Row u D (w8 r1)/\Row u K (pr h (.slice (some ⟨gb,0,none⟩) ts.length cb)))):=⟨⟨w8',Zz.o,UZ.o⟩⟩;refine ax.bA [0,1,2,3,4,5,6,7] 1 mixed (by kernel_rfl) rfl rfl (λc a d v w h=>by cases d<;>exact h) (by as_aux_lemma=>kernel_rfl) rfl (λu=>Row u D (w8 r1)/\Row u K (pr h (.slice (some ⟨gb,0,none⟩) ts.length cb))) ⟨Zz.o.drew,UZ.o.drew⟩ ?_;show wpQuiet _ _ _ _ [_,_,_,_,_,_,_,_] _;repeat(go_big_quiet_step (fail))
  refine wpQuiet_nil ?_;have RD9:=η Zz.o.drew;have NB9:=η NB.o.drew;have RA9:=η RA8.o.drew;have RR9:=η RR8.o.drew;have RB9:=η UZ.o.drew;have O9:=η (show w8'.drew.ownsRow C 78 33 (.slice (some ⟨gb,0,none⟩) ts.length cb) ts.length (aJ ts)from O8.o);clear Zz NB RA8 RR8 UZ O8;generalize w8'.drew=w9 at RD9 NB9 RA9 RR9 RB9 O9|-;have S9:ax.cls (λu=>Row u D (w8 r1)/\Row u K (pr h (.slice (some ⟨gb,0,none⟩) ts.length cb))) w9:=ax.aj ⟨RD9.o,RB9.o⟩;refine ax.one 8 _ (by kernel_rfl) rfl rfl ?_;try go_frame
  go_wp2_with fail;refine⟨S9,?_⟩;refine wpAnyH_done (by kernel_rfl) ?_ 0
  try go_frame
  have hAr:A≠rb:=by omega
  have rA9:=RA9.o;go_wp2_with (first|(refine jL (o:=⟨some 56,_,_,_,_,_⟩) rfl _ rfl 3 rfl ?_)|(with_reducible refine au (o:=⟨none,_,_,_,_,_⟩) rfl _ _ _ rfl A (an 0 []) (an 3 []) rfl rfl rA9 (aO.trans rfl) rfl rfl ?_));obtain⟨T2,Cj⟩:=rA9.setRow (an 3 []);refine bodyPost_ret (v:=.agg (an 3 []).toArray) (results_cell_row (fn:=Tryz.f46) rfl _ _ A T2 _ (0,0) _ rfl Cj underlying49 rfl (aO.trans rfl)) rfl ?_;exact⟨by rw[FE2.o],RR9.o.aG (by omega) _,NB9.o.trans (cA.aH (below_setRow (Below.refl _ _) (by rw[HA.o];omega) _))⟩
 obtain rfl:r2=false:=by simpa using hm
 clear hm;have DM:∀u:ax.Of (λu=>Row u D (w8 r1)/\Row u K (pr h (.slice (some ⟨gb,0,none⟩) ts.length cb))),u.w.cell? ⟨K,0,none⟩=some (.string (str h)):=λu=>u.h.2.cell 0;haveI bZ:Nonempty (ax.Of (λu=>Row u D (w8 r1)/\Row u K (pr h (.slice (some ⟨gb,0,none⟩) ts.length cb)))):=⟨⟨w8',Zz.o,UZ.o⟩⟩;refine ax.bA [0,1,2,3,4,5,6,7] 1 mixed (by kernel_rfl) rfl rfl (λc a d v w h=>by cases d<;>exact h) (by as_aux_lemma=>kernel_rfl) rfl (λu=>Row u D (w8 r1)/\Row u K (pr h (.slice (some ⟨gb,0,none⟩) ts.length cb))) ⟨Zz.o.drew,UZ.o.drew⟩ ?_;show wpQuiet _ _ _ _ [_,_,_,_,_,_,_,_] _;go_big_quiet_step (fail);go_big_quiet_step (fail);go_big_quiet_step (fail);refine Dq (o:=⟨some 50,_,_,_,_,_⟩) rfl 35 9 5 _ rfl D 0 32 32 r1 lD rfl underlying35 underlying5 underlying9 (λw hw=>by obtain⟨u,rfl⟩:=hw;exact u.h.1.bytes) ?_;go_frame;repeat(go_big_quiet_step (fail))
 refine wpQuiet_nil ?_;by_cases hq:r1=(h.drop 36).take 32
 ·have FE2:=η (show fin=(2,h++Mk.ji ts)by rw[FE.o,if_neg (by simp[hq])];rfl);rw[show(!(r1==List.take 32 (List.drop 36 h)))=false by simp[hq]];have RD9:=η Zz.o.drew;have NB9:=η NB.o.drew;have RA9:=η RA8.o.drew;have RR9:=η RR8.o.drew;have RB9:=η UZ.o.drew;have O9:=η (show w8'.drew.ownsRow C 78 33 (.slice (some ⟨gb,0,none⟩) ts.length cb) ts.length (aJ ts)from O8.o);clear Zz NB RA8 RR8 UZ O8;generalize w8'.drew=w9 at RD9 NB9 RA9 RR9 RB9 O9|-;have S9:ax.cls (λu=>Row u D (w8 r1)/\Row u K (pr h (.slice (some ⟨gb,0,none⟩) ts.length cb))) w9:=ax.aj ⟨RD9.o,RB9.o⟩;refine ax.one 8 _ (by kernel_rfl) rfl rfl ?_;try go_frame
  go_wp2_with fail;refine⟨S9,?_⟩;refine wpAnyH_done (by kernel_rfl) ?_ 0
  try go_frame
  have hAr:A≠rb:=by omega
  have rA9:=RA9.o;have BB:=η (wV h (.slice (some ⟨gb,0,none⟩) ts.length cb) ts C w9 O9.o HS.o (by omega) (by omega));have rK:=RB9.o;clear O9 FE HS;generalize h++Mk.ji ts=bs at FE2 BB;go_wp2_with (refine bU (o:=⟨some 57,_,_,_,_,_⟩) rfl _ _ rfl K (pr h (.slice (some ⟨gb,0,none⟩) ts.length cb)) rfl rK _ underlying83 (bM.trans rfl) _ rfl ?_);refine BB.o.mono ?_;rintro e ZK⟨rfl,qm⟩;have ait:=rA9.below qm rA9.lt;have ar4:=RR9.o.below qm RR9.o.lt;have asg:=NB9.o.trans (cA.aH (qm.mono NB9.o.size));clear rA9;go_wp2_with (first|(refine wT (o:=⟨some 59,_,_,_,_,_⟩) rfl _ _ rfl 2 bs rfl rfl ?_)|(with_reducible refine au (o:=⟨none,_,_,_,_,_⟩) rfl _ _ _ rfl A (an 0 []) (an 2 bs) rfl rfl ait (aO.trans rfl) rfl rfl ?_));obtain⟨T2,Cj⟩:=ait.setRow (an 2 bs);refine bodyPost_ret (v:=.agg (an 2 bs).toArray) (results_cell_row (fn:=Tryz.f46) rfl _ _ A T2 _ (0,0) _ rfl Cj underlying49 rfl (aO.trans rfl)) rfl ?_;exact⟨by rw[FE2.o],ar4.aG (by omega) _,asg.trans (cA.aH (below_setRow (Below.refl _ _) (by rw[HA.o];omega) _))⟩
 have FE2:=η (show fin=(3,[])by rw[FE.o,if_pos (.inr hq)]);rw[show(!(r1==List.take 32 (List.drop 36 h)))=true by simp[hq]];have RD9:=η Zz.o.drew;have NB9:=η NB.o.drew;have RA9:=η RA8.o.drew;have RR9:=η RR8.o.drew;have RB9:=η UZ.o.drew;have O9:=η (show w8'.drew.ownsRow C 78 33 (.slice (some ⟨gb,0,none⟩) ts.length cb) ts.length (aJ ts)from O8.o);clear Zz NB RA8 RR8 UZ O8;generalize w8'.drew=w9 at RD9 NB9 RA9 RR9 RB9 O9|-;have S9:ax.cls (λu=>Row u D (w8 r1)/\Row u K (pr h (.slice (some ⟨gb,0,none⟩) ts.length cb))) w9:=ax.aj ⟨RD9.o,RB9.o⟩;refine ax.one 8 _ (by kernel_rfl) rfl rfl ?_;try go_frame
 go_wp2_with fail;refine⟨S9,?_⟩;refine wpAnyH_done (by kernel_rfl) ?_ 0
 try go_frame
 have hAr:A≠rb:=by omega
 have rA9:=RA9.o;go_wp2_with (first|(refine jL (o:=⟨some 56,_,_,_,_,_⟩) rfl _ rfl 3 rfl ?_)|(with_reducible refine au (o:=⟨none,_,_,_,_,_⟩) rfl _ _ _ rfl A (an 0 []) (an 3 []) rfl rfl rA9 (aO.trans rfl) rfl rfl ?_));obtain⟨T2,Cj⟩:=rA9.setRow (an 3 []);refine bodyPost_ret (v:=.agg (an 3 []).toArray) (results_cell_row (fn:=Tryz.f46) rfl _ _ A T2 _ (0,0) _ rfl Cj underlying49 rfl (aO.trans rfl)) rfl ?_;exact⟨by rw[FE2.o],RR9.o.aG (by omega) _,NB9.o.trans (cA.aH (below_setRow (Below.refl _ _) (by rw[HA.o];omega) _))⟩
end
section
namespace Pl
abbrev B:=List UInt8
def vX(a:B):¬a<a:=List.lt_irrefl a
def WL{a b c:B}(h:a<b)(k:b<c):a<c:=List.lt_trans h k
def WK(a b:B):a<b∨a=b∨b<a:=by by_cases h:a<b;exact .inl h;by_cases k:b<a;exact .inr (.inr k);exact .inr (.inl (List.le_antisymm (List.not_lt.1 k) (List.not_lt.1 h)))
variable(key:B->B)
def at'(id:B):List B->Nat×Bool
 |[]=>(0,false)|x::l=>if key x<id then((at' id l).1+1,(at' id l).2)else(0,key x==id)
def Up(l:List B):Prop:=l.Pairwise λx y=>key x<key y
def ins(t:B)(l:List B):List B:=l.take (at' key (key t) l).1++[t]++l.drop (at' key (key t) l).1
theorem at_mem id:∀l,Up key l->((at' key id l).2=true↔ ∃t∈l,key t=id)
 |[],_=>by simp[at']|x::l,h=>by obtain⟨h1,h2⟩:=List.pairwise_cons.1 h;rw[at'];by_cases hx:key x<id;rw[if_pos hx];dsimp only;rw[at_mem id l h2];constructor;rintro⟨t,ht,e⟩;exact⟨t,List.mem_cons_of_mem _ ht,e⟩;rintro⟨t,ht,e⟩;rcases List.mem_cons.1 ht with rfl|ht;rw[e]at hx;exact absurd hx (vX _);exact⟨t,ht,e⟩;rw[if_neg hx];dsimp only;rw[beq_iff_eq];constructor;intro e;exact⟨x,List.mem_cons_self,e⟩;rintro⟨t,ht,e⟩;rcases List.mem_cons.1 ht with rfl|ht;exact e;exact absurd (e▸h1 t ht) hx
def Qb t:ins key t []=[t]:=rfl
def ur t x l:ins key t (x::l)=if key x<key t then x::ins key t l else t::x::l:=by unfold ins;rw[at'];split;simp;simp
theorem qW t:∀l x,x∈ins key t l↔x=t∨x∈l
 |[],x=>by simp[Qb]|y::l,x=>by rw[ur];split;rw[List.mem_cons,qW t l,List.mem_cons];constructor;rintro(h|h|h);exact .inr (.inl h);exact .inl h;exact .inr (.inr h);rintro(h|h|h);exact .inr (.inl h);exact .inl h;exact .inr (.inr h);rw[List.mem_cons]
theorem G0 t:∀l,(ins key t l).length=l.length+1
 |[]=>rfl|x::l=>by rw[ur];split;simp[G0 t l];simp
theorem W7 t:∀l,Up key l->(at' key (key t) l).2=false->Up key (ins key t l)
 |[],_,_=>by rw[Qb];exact List.pairwise_singleton _ _|x::l,h,hn=>by
  obtain⟨h1,h2⟩:=List.pairwise_cons.1 h;rw[ur];rw[at']at hn;by_cases hx:key x<key t;rw[if_pos hx]at hn|-;refine List.pairwise_cons.2 ⟨λy hy=>?_,W7 t l h2 hn⟩;rcases(qW key t l y).1 hy with rfl|hy;exact hx;exact h1 y hy;rw[if_neg hx]at hn|-;have bZ:key x≠key t:=by simpa using hn
  have aM:key t<key x:=by rcases WK (key x) (key t)with h|h|h;exact absurd h hx;exact absurd h bZ;exact h
  refine List.pairwise_cons.2 ⟨λy hy=>?_,h⟩;rcases List.mem_cons.1 hy with rfl|hy;exact aM;exact WL aM (h1 y hy)
end Pl
end
section
open bd
open Go.RowKit
namespace Mp
abbrev B:=List UInt8
def YH:List Value->List UInt8->Bool
 |[],[]=>true|.int .u8 x::l,y::m=>decide (x=Y y)&&YH l m|_,_=>false
theorem Lh:∀m,YH (w8 m) m=true
 |[]=>rfl|y::m=>by show(decide (Y y=Y y)&&YH (w8 m) m)=true;rw[Lh m];simp
theorem Ot:∀l m,YH l m=true->l=w8 m
 |[],[],_=>rfl|[],_::_,h=>by simp[YH]at h|v::l,[],h=>by cases v<;>simp[YH]at h
 |v::l,y::m,h=>by
  cases v<;>try(simp[YH]at h;done)
  rename_i k x;cases k<;>try(simp[YH]at h;done)
  simp only[YH,Bool.and_eq_true,decide_eq_true_eq]at h;obtain⟨rfl,h2⟩:=h;rw[Ot l m h2];rfl
def zQ(v:Value):Option (DataW Unit×List MemPlace):=match v with
 |.agg a=>match a.toList with
  |.string s::l=>if YH l (Mk.ak s.data.toList)then some (.lit (.string s.data.toList),[])else if s.data.toList.isEmpty&&YH l (List.replicate 32 0)then some (.nil,[])else none
  |_=>none
 |_=>none
def VB t:(str t).data.toList=t:=by unfold str;simp
def aew t:zQ (F8 t)=some (.lit (.string t),[]):=by unfold zQ F8 ai;simp only[VB,Lh,if_true]
def xc s:str s.data.toList=s:=by unfold str;simp
def F9{v z}(h:zQ v=some z):(∃t,v=F8 t/\z=(.lit (.string t),[]))∨(v=.agg db.toArray/\z=(.nil,[])):=by
 unfold zQ at h;cases v with
 |agg a=>
 dsimp only at h;split at h;rename_i s l hl;split at h;rename_i he;left;refine⟨s.data.toList,?_,(Option.some.inj h).symm⟩;unfold F8 ai;rw[xc,<-Ot _ _ he,<-hl];split at h;rename_i he;simp only[Bool.and_eq_true,List.isEmpty_iff]at he;right;refine⟨?_,(Option.some.inj h).symm⟩;have h1:s=str []:=by rw[<-xc s,he.1]
 have h2:a.toList=db:=by rw[hl,Ot _ _ he.2,h1];rfl
 rw[<-h2];cases h;cases h
 |_=>cases h
def DJ d:keyBytes (lits d)=d:=by
 unfold keyBytes lits;induction d with
 |nil=>rfl|cons x l ih=>
 rw[List.map_cons,List.flatMap_cons,ih];have:Lit.keyBytes (.int .u8 (Y x))=[x]:=by
  have e:(Y x % 2^IntKind.u8.bits).toNat=x.toNat:=by have:x.toNat<256:=x.toNat_lt;unfold Y;simp[IntKind.bits];omega
  show bytesBE (IntKind.u8.bits/8) (Y x % 2^IntKind.u8.bits).toNat=[x];rw[e];simp[bytesBE,bytesLE,IntKind.bits]
 rw[this];rfl
def GY d(h:d.length=32):keyOf prog 76 (.agg (w8 d).toArray)=some (.string d):=by obtain⟨n,hn⟩:∃n,prog.types.size+1=n+2:=⟨prog.types.size-1,by kernel_rfl⟩;unfold keyOf;simp only[underlying76,wK d h,show prog.keyType 76=true by kernel_rfl,Bool.and_self,if_true];rw[hn,show(Value.agg (w8 d).toArray).cells.toList=w8 d by simp[Value.cells],sW n d h];simp only[Option.map_some,DJ]
def Cx(P:List B):List (Lit×DataW Unit):=P.map λt=>(Lit.string (Mk.ak t),DataW.lit (.string t))
def D(P:List B):DataW Unit:=.map (Cx P)
theorem CU:∀a b,bytesBefore a b=decide (a<b)
 |[],[]=>by simp[bytesBefore]|[],_::_=>by simp[bytesBefore]|_::_,[]=>by simp[bytesBefore]|a::r,b::s=>by rw[bytesBefore,CU r s,Bool.eq_iff_iff];simp[List.cons_lt_cons_iff]
def m5 a b:(Lit.string a).sameKey (.string b)=(a==b):=by simp[Lit.sameKey]
def KP P id(h:Pl.Up Mk.ak P):Maps.has (D P) (.string id)=(Pl.at' Mk.ak id P).2:=by rw[Bool.eq_iff_iff,Pl.at_mem Mk.ak id P h];show(Cx P).any _=true↔_;simp[Cx,m5]
def EA P:Maps.size (D P)=P.length:=by show(Cx P).length=_;simp[Cx]
theorem Ku t:∀P,(∀y∈P,Mk.ak y≠Mk.ak t)->DataW.insert (Lit.string (Mk.ak t),DataW.lit (.string t)) (Cx P)=Cx (Pl.ins Mk.ak t P)
 |[],_=>rfl|y::l,h=>by have ih:=Ku t l λz hz=>h z (List.mem_cons_of_mem _ hz);have hy:=h y List.mem_cons_self;rw[Pl.ur];show(if(Lit.string (Mk.ak t)).before (.string (Mk.ak y))then _ else _::DataW.insert _ (Cx l))=_;rw[ih];have hb:(Lit.string (Mk.ak t)).before (.string (Mk.ak y))=decide (Mk.ak t<Mk.ak y):=CU _ _;rw[hb];rcases Pl.WK (Mk.ak y) (Mk.ak t)with h1|h1|h1;have h2:¬Mk.ak t<Mk.ak y:=λh3=>Pl.vX _ (Pl.WL h1 h3);rw[if_pos h1,if_neg (by simpa using h2)];rfl;exact absurd h1 hy;have h2:¬Mk.ak y<Mk.ak t:=λh3=>Pl.vX _ (Pl.WL h1 h3);rw[if_neg h2,if_pos (by simpa using h1)];rfl
def Wb t P(h:Pl.Up Mk.ak P)(hn:(Pl.at' Mk.ak (Mk.ak t) P).2=false):(D P).put (.string (Mk.ak t)) (.lit (.string t))=D (Pl.ins Mk.ak t P):=by
 have bZ:∀y∈P,Mk.ak y≠Mk.ak t:=λy hy e=>by rw[(Pl.at_mem Mk.ak (Mk.ak t) P h).2 ⟨y,hy,e⟩]at hn;cases hn
 show DataW.map (DataW.insert _ ((Cx P).filter _))=_;rw[List.filter_eq_self.2 λp hp=>?_,Ku t P bZ];· rfl
 obtain⟨y,hy,rfl⟩:=List.mem_map.1 hp;simp[m5,bZ y hy]
def aiD:laidOutB prog=true:=by kernel_rfl
def law:Maps.Keyed prog 76:=.of_law (deep_law_laid aiD (m:=2) (by omega) (of_decide_eq_true (by kernel_rfl)) (by kernel_rfl) (by kernel_rfl))
structure Map(w:World)(m:Nat)(P:List B):Prop where
 own:w.ownsMap prog 76 zQ m 20 (D P)
 up:Pl.Up Mk.ak P
 le:P.length<=20
 short:∀t∈P,t.length<=610
end Mp
namespace ax
def aij{P ops Q S fuel L a w} i o v(hi:ops[i]? =some o)(hg:o.guard=none)(mK:Region.noSelect ops=true) (hB:tC ops [i] L=true) (hQ:∀c (a:Act) d v w,Q (.panic c) (a.put d v) w->Q (.panic c) a w) (hy:∀w,S w->(execOp a.eval o).run P w=.ok (.value v) w) (hS:S w) (h:wpAnyH P .any ops Q S fuel (L.setIfInBounds i true) (a.put o.dst v) w):wpAnyH P .any ops Q S (fuel+1) L a w:=by simp only[tC,Bool.and_eq_true,Bool.and_true]at hB;exact wpAnyH_take hi mK hB.2 hB.1 (λc a w hq=>hQ c _ _ _ w hq) (.inl ⟨by simp[Region.wanted,hg],hy⟩) hS h
def sV{P ev o w v t x k c}(cI:o.op=.lookup t x k c)(h:(Instr.lookup t (ev x) (ev k) c).run P w=.ok v w):(execOp ev o).run P w=.ok (.value v) w:=by unfold execOp;simp only[cI,Sem.run_bind,h,Result.andThen_ok,Sem.run_pure]
end ax
namespace Mp
def gU w:(zeroValue 78).run prog w=.ok (.agg db.toArray) w:=by kernel_rfl
def WN{w0:World}{m P}(h:w0.ownsMap prog 76 zQ m 20 (D P))(oZ:Pl.Up Mk.ak P) d(hd:d.length=32):∃(es:Array MapEntry)(clock:Nat)(cs:List Value),w0.heap[m]? =some (.map es clock)/\cs.length=33/\cs.all (·.oneCell')=true/\∀w,w.heap[m]? =some (.map es clock)->(Instr.lookup 39 (.map (some m)) (.agg (w8 d).toArray) true).run prog w=.ok (.tuple #[.agg cs.toArray,.bool (Pl.at' Mk.ak d P).2]) w:=by
 have ajI:=KP P d oZ;obtain⟨es,clock,hb,F,hs,hD⟩:=h;have Ha:=GY d hd;have hpw:=((Go.MapKept.stamped_iff es clock).1 F.stamped).2.2;have look:=λ(w:World) (hw:w.heap[m]? =some (.map es clock))=>Maps.fit_look true law underlying39 (gU w) hw F Ha;rcases look w0 hb with⟨_,uD,oN⟩|⟨e0,y,hm0,UQ,_,hR,oN,_⟩;refine⟨es,clock,db,hb,bp,by decide +kernel,λw hw=>?_⟩;rw[<-ajI,hD,Maps.has_false_of_atKey oN];rcases look w hw with⟨cD,_,_⟩|⟨e1,_,XW,Qs,_⟩;exact cD;exact absurd Qs (uD e1 XW);have ep:∃cs:List Value,e0.val=.agg cs.toArray/\cs.length=33/\cs.all (·.oneCell')=true:=by rcases F9 hR with⟨t,ht,_⟩|⟨ht,_⟩;exact⟨ai t,ht,aC t,aX t⟩;exact⟨db,ht,bp,by decide +kernel⟩
 obtain⟨cs,hv,hl,h1⟩:=ep;refine⟨es,clock,cs,hb,hl,h1,λw hw=>?_⟩;rw[<-ajI,hD,Maps.has_true_of_atKey oN,<-hv];rcases look w hw with⟨_,uD,_⟩|⟨e1,_,XW,Qs,cD,_⟩;exact absurd UQ (uD e0 hm0);have:e1=e0:=by obtain⟨i,hi,rfl⟩:=List.mem_iff_getElem.1 XW;obtain⟨j,hj,rfl⟩:=List.mem_iff_getElem.1 hm0;rcases Nat.lt_trichotomy i j with h|h|h;exact absurd (Qs.trans UQ.symm) (List.pairwise_iff_getElem.1 hpw i j hi hj h);subst h;rfl;exact absurd (UQ.trans Qs.symm) (List.pairwise_iff_getElem.1 hpw j i hj hi h)
 rw[this]at cD;exact cD
def Map.new(w:World):Map (w.alloc (.map #[] 0)) w.heap.size [] where
 own:=(World.ownsMap_made w _ _ _).mono (by omega);up:=List.Pairwise.nil;le:=by simp
 short:=λt ht=>by cases ht
theorem Map.alloc{w m P}(h:Map w m P) o:Map (w.alloc o) m P:=⟨h.own.alloc o,h.up,h.le,h.short⟩
theorem Map.lt{w m P}(h:Map w m P):m<w.heap.size:=h.own.lt
def SD{w w':World}{m n D}(h:w.ownsMap prog 76 zQ m n D)(hb:w'.heap[m]? =w.heap[m]?):w'.ownsMap prog 76 zQ m n D:=by obtain⟨es,clock,h1,r⟩:=h;exact⟨es,clock,hb.trans h1,r⟩
def Map.block{w w' m P}(h:Map w m P)(hb:w'.heap[m]? =w.heap[m]?):Map w' m P:=⟨SD h.own hb,h.up,h.le,h.short⟩
def Map.below{B w w' m P}(h:Map w m P)(hb:Below B w w')(hm:m<B):Map w' m P:=h.block (hb.block m hm)
def Sz{w:World}{m n n' D}(h:w.ownsMap prog 76 zQ m n D)(hs:Maps.size D<=n'):w.ownsMap prog 76 zQ m n' D:=by obtain⟨es,clock,hb,F,_,hD⟩:=h;refine⟨es,clock,hb,F,?_,hD⟩;rw[hD]at hs;simpa[Maps.size,length_sorted]using hs
def Ea{w w' m B}(h:w.mapTurned w' m):cA B m w w':=by obtain⟨es,clock,iI,lO,hb,rfl⟩:=h;exact⟨rfl,rfl,rfl,by simp[Go.ChangeMaps.setBlock],λk _ hk=>Go.ChangeMaps.heap_setBlock_other hb _ hk⟩
def AH{ops rest o a C Q}(iW:o.guard=none) x(ho:o.op=.load 78 x) g off t (hx:a.eval x=.pointer (some ⟨g,off,none⟩)) (hr:∀w,C w->w.rangeAt g off (ai t)) (h:wpQuiet prog ops C Q rest (a.put o.dst (F8 t))):wpQuiet prog ops C Q (o::rest) a:=by unfold wpQuiet;rw[if_pos (by simp[Region.wanted,iW])];refine⟨_,λw hw=>?_,h⟩;have:=run_loadAt_mid (P:=prog) w g off 78 (ai t) _ (hr w hw) underlying78 rfl (by rw[cW,aC]);unfold Oper.quietAt execOp;simp only[ho,hx,Sem.run_bind,this,Result.andThen_ok,Sem.run_pure,Oper.quietUpon];first|trivial|exact⟨trivial,trivial⟩|exact⟨rfl,rfl⟩|exact⟨rfl,hw⟩
end Mp
namespace Mp
def Gv{l t r}(h:Wr.cV l=.ok t r):t=l/\l.length<=610:=by
 have h':(Wr.tx l).bind (λa r=>if r=[]then .ok a r else .bad 5)=.ok t r:=h;unfold Wr.tx at h';cases hb:Wr.body l with
 |bad e=>rw[hb]at h';cases h'
 |ok u s=>rw[hb]at h';have h2:(if s=[]then(.ok (l.take (l.length-s.length)) s:Wr.R (List UInt8))else .bad 5)=.ok t r:=h';by_cases hs:s=[];rw[if_pos hs]at h2;subst hs;have hl:=Wr.wU l u _ hb;cases h2;simp at hl|-;exact hl;rw[if_neg hs]at h2;cases h2
def nZ{l t r}(h:Wr.cV l=.ok t r):t.length<=610:=by obtain⟨rfl,h2⟩:=Gv h;exact h2
def Zl(P:List B)(x:Wr.R (List UInt8)):Nat:=match x with
 |.bad n=>n
 |.ok t _=>if(Pl.at' Mk.ak (Mk.ak t) P).2 then 10 else if P.length=20 then 9 else 0
def Ik(P:List B)(x:Wr.R (List UInt8)):List B:=match x with
 |.bad _=>P
 |.ok t _=>if(Pl.at' Mk.ak (Mk.ak t) P).2 then P else if P.length=20 then P else Pl.ins Mk.ak t P
end Mp
def Dd(r A m:Nat)(cs:List Value)(o:Obj)(u:World):Prop:=u.cell? ⟨r,0,none⟩=some (.map (some m))/\Row u A cs/\u.heap[m]? =some o
def Dd.load{r A m t o u}(h:Dd r A m (ai t) o u):u.rangeAt A 1 (w8 (Mk.ak t)):=λj v hv=>by rw[h.2.1.cell,Nat.add_comm];unfold ai;rw[List.getElem?_cons_succ];exact hv
def Dd.mono{r A m cs o u u'}(h:Dd r A m cs o u)(hb:∀k,k<u.heap.size->u'.heap[k]? =u.heap[k]?):Dd r A m cs o u':=⟨(World.cell?_of_block (w:=u) (hb r (World.block_lt_of_cell? _ _ h.1))).trans h.1,h.2.1.imp λ_ h'=>(hb A h.2.1.lt).trans h',(hb m (Array.getElem?_eq_some_iff.1 h.2.2).1).trans h.2.2⟩
def OT(r A m:Nat)(cs:List Value)(u:World):Prop:=u.cell? ⟨r,0,none⟩=some (.map (some m))/\Row u A cs
def OT.load{r A m t u}(h:OT r A m (ai t) u):u.rangeAt A 1 (w8 (Mk.ak t)):=λj v hv=>by rw[h.2.cell,Nat.add_comm];unfold ai;rw[List.getElem?_cons_succ];exact hv
def Ux l r m P w(hT:cH w)(hl:l.length<=9223372036854775807)(hr:w.cell? ⟨r,0,none⟩=some (.map (some m)))(hM:Mp.Map w m P)(hrw:r<w.heap.size)(XD:r≠m):Calls prog 19 #[.pointer (some ⟨r,0,none⟩),.string (str l)] w λe w'=>e=.returned (.int .i64 (Mp.Zl P (Wr.cV l):Int))/\Mp.Map w' m (Mp.Ik P (Wr.cV l))/\cA w.heap.size m w w':=by
 have gY:=hT.lt;have T1:=η (rV l w hT hl);have HM:=η hM;have hmw:=hM.lt;have HR:=η hr;clear hT hM hr;go_enter func19,ntmps19;go_wp2_with fail;refine T1.o.mono ?_;clear T1;cases hx:Wr.cV l with
 |bad n=>
 rintro e w1⟨rfl,hb⟩;have hn:=Ay hx;have p1:¬(n:Int)=0:=by omega
 have EQ:=η hx;obtain⟨cs,hE,ql,IV⟩:∃cs:List Value,MV (.bad n)=.tuple #[.agg cs.toArray,.int .i64 n]/\cs.length=33/\cs.all (·.oneCell')=true:=⟨db,rfl,bp,by decide +kernel⟩;rw[hE];have r1:Row (w1.alloc (.cells db.toArray 78)) w1.heap.size db:=Row.new w1 db 78;have hB:Below w1.heap.size w1 (w1.alloc (.cells db.toArray 78)):=(Below.refl _ _).alloc ν _;have B1:=η (hb.trans ((below_setRow hB ν cs.toArray).mono hb.size));rw[Tryz.gU]at r1 hB B1;have H1:=r1;clear hx hb r1 hB hn hE;go_wp2_with (with_reducible refine au (o:=⟨none,_,_,_,_,_⟩) rfl _ _ _ rfl w1.heap.size db cs rfl rfl H1 (cW.trans (by rw[ql])) (by rw[ql,bp]) IV ?_);go_ret;exact⟨by rw[EQ.o];rfl,by rw[EQ.o];exact HM.o.below B1.o hmw,cA.aH B1.o⟩
 |ok t rest=>
 rintro e w1⟨rfl,hb⟩;have EQ:=η hx;have zk:t.length<=610:=Mp.nZ hx;dsimp only[MV];have r1:Row (w1.alloc (.cells db.toArray 78)) w1.heap.size db:=Row.new w1 db 78;have hB:Below w1.heap.size w1 (w1.alloc (.cells db.toArray 78)):=(Below.refl _ _).alloc ν _;have B1:=η (hb.trans ((below_setRow hB ν (ai t).toArray).mono hb.size));have H2:=r1.setRow (ai t);rw[Tryz.gU]at r1 hB B1 H2;have H1:=r1;clear r1 hx hB;go_upto_region 4 with(with_reducible refine au (o:=⟨none,_,_,_,_,_⟩) rfl _ _ _ rfl w1.heap.size db (ai t) rfl rfl H1 (cW.trans (by rw[aC])) (by rw[aC,bp]) (aX t) ?_);clear H1;obtain⟨A,hA⟩:∃A,w1.heap.size=A:=⟨_,rfl⟩;have hAw:w.heap.size<=A:=hA▸hb.size;rw[hA]at B1 H2|-;clear hA hb;generalize World.setRow _ A (ai t).toArray=w2 at B1 H2|-;have mR:=(World.cell?_of_block (w:=w) (a:=⟨r,0,none⟩) (B1.o.block r hrw)).trans HR.o;have M2:=HM.o.below B1.o hmw;have pg:=eQ t;obtain⟨es,clock,cs,IU,ql,IV,ads⟩:=Mp.WN M2.own M2.up (Mk.ak t) pg;have MM:=η M2;have HL:=η ads;have hS2:Dd r A m (ai t) (.map es clock) w2:=⟨mR,H2,IU⟩;have DM:∀u:ax.Of (Dd r A m (ai t) (.map es clock)),u.w.cell? ⟨r,0,none⟩=some (.map (some m)):=λu=>u.h.1;haveI bZ:Nonempty (ax.Of (Dd r A m (ai t) (.map es clock))):=⟨⟨w2,hS2⟩⟩;clear mR M2 ads;refine ax.bA [0,1,2,3,4,5] 7 mixed (by kernel_rfl) rfl rfl (λc a d v w h=>by cases d<;>exact h) (by as_aux_lemma=>kernel_rfl) rfl (Dd r A m (ai t) (.map es clock)) hS2 ?_;show wpQuiet _ _ _ _ [_,_,_,_,_,_] _;iterate 5 (go_big_quiet_step (fail))
 refine eE (o:=⟨some 23,_,_,_,_,_⟩) rfl _ rfl A 1 (Mk.ak t) pg rfl (λw hw=>by obtain⟨u,rfl⟩:=hw;exact u.h.load) ?_;try go_frame
 refine wpQuiet_nil ?_;refine ax.aij 6 ⟨some 24,.lookup 39 (.tmp 21) (.tmp 23) true,_,_,_,_⟩ (.tuple #[.agg cs.toArray,.bool (Pl.at' Mk.ak (Mk.ak t) P).2]) rfl rfl (by kernel_rfl) (by as_aux_lemma=>kernel_rfl) (λc a d v w h=>by cases d<;>exact h) (λu hu=>?_) (ax.aj hS2) ?_;obtain⟨u',rfl⟩:=hu;exact ax.sV rfl (HL.o _ u'.h.2.2);obtain⟨ok,dO⟩:∃b,(Pl.at' Mk.ak (Mk.ak t) P).2=b:=⟨_,rfl⟩;rw[dO];try go_frame
 refine ax.gd [7,8,9] 3 (by rfl) (by kernel_rfl) (by rfl) (λc a d v w h=>by cases d<;>exact h) (by as_aux_lemma=>kernel_rfl) (by rfl) (ax.aj hS2) ?_;show wpQuiet _ _ _ _ [_,_,_] _;repeat(go_big_quiet_step (fail))
 refine wpQuiet_nil ?_;refine ax.one 10 _ (by kernel_rfl) rfl rfl ?_;try go_frame
 go_wp2_with fail;have r3:Row (w2.alloc (.cells db.toArray 78)) w2.heap.size db:=Row.new w2 db 78;have S3:Dd r A m (ai t) (.map es clock) (w2.alloc (.cells db.toArray 78)):=hS2.mono λk hk=>Below.heap_alloc _ _ _ hk
 have B3:Below w.heap.size w (w2.alloc (.cells db.toArray 78)):=B1.o.alloc B1.o.size _;have M3:=MM.o.alloc (.cells db.toArray 78);rw[Tryz.gU]at r3 S3 B3 M3;have hD:w.heap.size<=w2.heap.size:=B1.o.size;have hAD:A<w2.heap.size:=H2.lt;have hmD:=MM.o.lt;obtain⟨D,hDe⟩:∃D,w2.heap.size=D:=⟨_,rfl⟩;rw[hDe]at r3 hD hAD hmD|-;have HOK:=η dO;clear MM H2 IU hS2 dO HL HM B1 hDe;generalize w2.alloc _=w3 at r3 S3 B3 M3|-;refine⟨ax.aj S3,?_⟩;refine ax.one 11 _ (by kernel_rfl) rfl rfl ?_;have S4:Dd r A m (ai t) (.map es clock) (w3.drew.setRow D cs.toArray):=⟨(World.cell?_of_block (w:=w3) (a:=⟨r,0,none⟩) (setRow_other w3 D r _ (by omega))).trans S3.1,S3.2.1.imp λ_ h'=>(setRow_other w3 D A _ (by omega)).trans h',(setRow_other w3 D m _ (by omega)).trans S3.2.2⟩;have B4:=η (below_setRow (w:=w3.drew) B3.drew hD cs.toArray);have M4:=η (Mp.Map.block M3 (setRow_other w3.drew D m cs.toArray (by omega)));refine au (o:=⟨none,.store 78 (.tmp 7) (.tmp 25),_,_,_,_⟩) rfl _ _ _ rfl D db cs rfl rfl r3 (cW.trans (by rw[ql])) (by rw[ql,bp]) IV ?_;generalize w3.drew.setRow D cs.toArray=w4 at S4 B4 M4|-;refine⟨ax.aj S4,?_⟩;refine ax.one 12 _ (by kernel_rfl) rfl rfl ?_;try go_frame
 clear bZ DM r3 S3 B3 M3;go_wp2_with fail;refine⟨ax.aj S4,?_⟩;refine wpAnyH_done (by kernel_rfl) ?_ 0;have IN:=S4.1;have N4:=η (cA.aH (S:=m) B4.o);have S5:=η S4;clear S4;have apR:=IN;cases ok
 ·have hlen:=M4.o.own.len underlying39 3;rw[Mp.EA]at hlen;by_cases xW:P.length=20
  ·rw[xW]at hlen;go_wp2_with fail;go_ret;refine⟨?_,?_,N4.o⟩;rw[EQ.o];show _=Ending.returned (.int .i64 ((if(Pl.at' Mk.ak (Mk.ak t) P).2 then 10 else if P.length=20 then 9 else 0:Nat):Int));rw[HOK.o,if_neg (by simp),if_pos xW];rfl;rw[EQ.o];show Mp.Map w4 m (if(Pl.at' Mk.ak (Mk.ak t) P).2 then P else if P.length=20 then P else _);rw[HOK.o,if_neg (by simp),if_pos xW];exact M4.o
  have hle:=M4.o.le;have hpl:¬(P.length:Int)=20:=by omega
  go_upto_region 9 with fail;have hS9:OT r A m (ai t) w4:=⟨S5.o.1,S5.o.2.1⟩;have DM:∀u:ax.Of (OT r A m (ai t)),u.w.cell? ⟨r,0,none⟩=some (.map (some m)):=λu=>u.h.1;haveI bZ:Nonempty (ax.Of (OT r A m (ai t))):=⟨⟨w4,hS9⟩⟩;clear IN apR hlen;refine ax.bA [0,1,2,3,4,5,6] 1 mixed (by kernel_rfl) rfl rfl (λc a d v w h=>by cases d<;>exact h) (by as_aux_lemma=>kernel_rfl) rfl (OT r A m (ai t)) hS9 ?_;show wpQuiet _ _ _ _ [_,_,_,_,_,_,_] _;iterate 5 (go_big_quiet_step (fail))
  refine eE (o:=⟨some 39,_,_,_,_,_⟩) rfl _ rfl A 1 (Mk.ak t) pg rfl (λw hw=>by obtain⟨u,rfl⟩:=hw;exact u.h.load) ?_;try go_frame
  refine Mp.AH (o:=⟨some 40,_,_,_,_,_⟩) rfl _ rfl A 0 t rfl (λw hw=>by obtain⟨u,rfl⟩:=hw;exact λj v hv=>by rw[u.h.2.cell,Nat.zero_add];exact hv) ?_;try go_frame
  refine wpQuiet_nil ?_;refine ax.one 7 _ (by kernel_rfl) rfl rfl ?_;refine wpList_mapUpdate_in _ (o:=⟨none,.mapUpdate 39 (.tmp 37) (.tmp 39) (.tmp 40),_,_,_,_⟩) rfl _ _ _ _ rfl 76 78 Mp.law underlying39 Mp.zQ m 20 (Mp.D P) rfl (show w4.drew.ownsMap _ _ _ _ _ _ from M4.o.own) (by unfold maxLen;omega) (.agg (w8 (Mk.ak t)).toArray) (F8 t) (Lit.string (Mk.ak t)) rfl rfl (Mp.GY _ pg) (.lit (.string t)) [] (Mp.aew t) ?_;intro w5 jB NO;have apw:cA w.heap.size m w4 w5:=((cA.refl w.heap.size m w4).drew).trans (Mp.Ea (w:=w4.drew) NO);have N5:=η (N4.o.trans apw);have dX:=S5.o.2.1.lt;have hS5:OT r A m (ai t) w5:=by obtain⟨pj,c0,zw,c1,_,rfl⟩:=NO;exact⟨(World.cell?_of_block (w:=w4.drew) (a:=⟨r,0,none⟩) (Go.ChangeMaps.heap_setBlock_other (w:=w4.drew) S5.o.2.2 _ XD)).trans hS9.1,hS9.2.imp λ_ h'=>(Go.ChangeMaps.heap_setBlock_other (w:=w4.drew) S5.o.2.2 _ (by omega)).trans h'⟩
  have M5:Mp.Map w5 m (Pl.ins Mk.ak t P):=by rw[Mp.Wb t P M4.o.up HOK.o]at jB;have Ty:=Pl.G0 Mk.ak t P;refine⟨Mp.Sz jB (by rw[Mp.EA];omega),Pl.W7 Mk.ak t P M4.o.up HOK.o,by omega,λy hy=>?_⟩;rcases(Pl.qW Mk.ak t P y).1 hy with rfl|hy;exact zk;exact M4.o.short y hy
  have MM5:=η M5;clear jB NO M5 bZ DM hS9 M4 N4 S5;refine⟨ax.aj hS5,?_⟩;refine wpAnyH_done (by kernel_rfl) ?_ 0;clear hS5;go_wp2_with fail;go_ret;refine⟨?_,?_,N5.o⟩;rw[EQ.o];show _=Ending.returned (.int .i64 ((if(Pl.at' Mk.ak (Mk.ak t) P).2 then 10 else if P.length=20 then 9 else 0:Nat):Int));rw[HOK.o,if_neg (by simp),if_neg xW];rfl;rw[EQ.o];show Mp.Map w5 m (if(Pl.at' Mk.ak (Mk.ak t) P).2 then P else if P.length=20 then P else _);rw[HOK.o,if_neg (by simp),if_neg xW];exact MM5.o
 go_wp2_with fail;go_ret;refine⟨?_,?_,N4.o⟩
 rw[EQ.o];show _=Ending.returned (.int .i64 ((if(Pl.at' Mk.ak (Mk.ak t) P).2 then 10 else if P.length=20 then 9 else 0:Nat):Int));rw[HOK.o,if_pos rfl];rfl;rw[EQ.o];show Mp.Map w4 m (if(Pl.at' Mk.ak (Mk.ak t) P).2 then P else if P.length=20 then P else _);rw[HOK.o,if_pos rfl];exact M4.o
end
section
open Go.Proofs Go.Shelf
def dw:Ren where
 f:=λx=>match x with
  |190=>85
  |125=>120
  |258=>119
  |128=>146
  |129=>147
  |302=>137
  |303=>138
  |304=>139
  |305=>140
  |306=>141
  |307=>142
  |308=>143
  |309=>144
  |310=>145
  |333=>154
  |329=>155
  |330=>156
  |334=>157
  |335=>158
  |336=>159
  |344=>161
  |n=>n
 t:=λx=>match x with
  |31=>28
  |9=>9
  |3=>3
  |46=>73
  |0=>0
  |51=>168
  |53=>26
  |4=>4
  |183=>198
  |182=>197
  |131=>158
  |5=>5
  |218=>212
  |222=>215
  |228=>217
  |229=>218
  |n=>n
 g:=λn=>n
def VF:Lays.n190 prog dw where
 mixed:=Eq.refl true;f125:=Eq.trans func120 (congrArg some (Eq.refl (Body.n125 dw)));f128:=Eq.trans func146 (congrArg some (Eq.refl (Body.n128 dw)));f129:=Eq.trans func147 (congrArg some (Eq.refl (Body.n129 dw)));f190:=Eq.trans func85 (congrArg some (Eq.refl (Body.n190 dw)));f258:=Eq.trans func119 (congrArg some (Eq.refl (Body.n258 dw)));f302:=Eq.trans func137 (congrArg some (Eq.refl (Body.n302 dw)));f303:=Eq.trans func138 (congrArg some (Eq.refl (Body.n303 dw)));f304:=Eq.trans func139 (congrArg some (Eq.refl (Body.n304 dw)));f305:=Eq.trans func140 (congrArg some (Eq.refl (Body.n305 dw)));f306:=Eq.trans func141 (congrArg some (Eq.refl (Body.n306 dw)));f307:=Eq.trans func142 (congrArg some (Eq.refl (Body.n307 dw)));f308:=Eq.trans func143 (congrArg some (Eq.refl (Body.n308 dw)));f309:=Eq.trans func144 (congrArg some (Eq.refl (Body.n309 dw)));f310:=Eq.trans func145 (congrArg some (Eq.refl (Body.n310 dw)));f329:=Eq.trans func155 (congrArg some (Eq.refl (Body.n329 dw)));f330:=Eq.trans func156 (congrArg some (Eq.refl (Body.n330 dw)));f333:=Eq.trans func154 (congrArg some (Eq.refl (Body.n333 dw)));f334:=Eq.trans func157 (congrArg some (Eq.refl (Body.n334 dw)));f335:=Eq.trans func158 (congrArg some (Eq.refl (Body.n335 dw)));f336:=Eq.trans func159 (congrArg some (Eq.refl (Body.n336 dw)));f344:=Eq.trans func161 (congrArg some (Eq.refl (Body.n344 dw)));t0:=underlying0;a0:=isAgg0;z0:=sizeOf0;v0:=zeroValue0;t3:=underlying3;a3:=isAgg3;z3:=sizeOf3;v3:=zeroValue3;t4:=underlying4;a4:=isAgg4;z4:=sizeOf4;v4:=zeroValue4;t5:=underlying5;a5:=isAgg5;z5:=sizeOf5;v5:=zeroValue5;t9:=underlying9;a9:=isAgg9;z9:=sizeOf9;v9:=zeroValue9;t31:=underlying28;a31:=isAgg28;z31:=sizeOf28;v31:=zeroValue28;t46:=underlying73;a46:=isAgg73;z46:=sizeOf73;v46:=zeroValue73;t51:=underlying168;a51:=isAgg168;z51:=sizeOf168;v51:=zeroValue168;t53:=underlying26;a53:=isAgg26;z53:=sizeOf26;v53:=zeroValue26;t131:=underlying158;a131:=isAgg158;z131:=sizeOf158;v131:=zeroValue158;t182:=underlying197;a182:=isAgg197;z182:=sizeOf197;v182:=zeroValue197;t183:=underlying198;a183:=isAgg198;z183:=sizeOf198;v183:=zeroValue198;t218:=underlying212;a218:=isAgg212;z218:=sizeOf212;v218:=zeroValue212;t222:=underlying215;a222:=isAgg215;z222:=sizeOf215;v222:=zeroValue215;t228:=underlying217;a228:=isAgg217;z228:=sizeOf217;v228:=zeroValue217;t229:=underlying218;a229:=isAgg218;z229:=sizeOf218;v229:=zeroValue218
def Mm blk off cap(ss:List (List UInt8)) w(hH:Sort.Holds encStr w blk off ss.toArray)(Yf:blk<w.heap.size)(lU:ss.length<4611686018427387904):Calls prog 85 #[.slice (some ⟨blk,off,none⟩) ss.length cap] w λe w'=>e=.returned (.tuple #[])/\∃n os,w'=Sort.grow (Sort.putRow encStr (Sort.ahead w n) blk off (ss.mergeSort λx y=>decide (x<=y)).toArray) os:=Any.slices_Sort_string VF blk off cap ss w hH Yf lU
end
section
open bd
open Go.RowKit
def NF w:Calls prog 147 #[.int .u64 0] w λe w'=>e=.returned (.int .i64 0)/\w'=w:=by go_enter func147,ntmps147;go_wp2_with fail;go_ret;exact⟨congrArg (λz=>Ending.returned (.int .i64 z)) (show wrap64 (wrap64 (Lib.len8 0))=0 by decide +kernel),rfl⟩
def WS w:Calls prog 120 #[.int .u64 0] w λe w'=>e=.returned (.int .i64 0)/\w'=w:=by go_enter func120,ntmps120;go_wp2_with fail;refine(NF w).mono ?_;rintro e w1⟨rfl,rfl⟩;go_wp2_with fail;go_ret;exact⟨rfl,rfl⟩
def afd w:Calls prog 137 #[.slice none 0 0,.int .i64 0,.int .i64 0] w λe w'=>e=.returned (.tuple #[])/\w'=w:=by
 go_enter func137,ntmps137;go_wp2_with fail;refine wp_loop_rounds 1 ?_;rw[rounds_succ];go_wp2_with fail
 go_end0;exact⟨rfl,rfl⟩
def aaO w:Calls prog 119 #[.slice none 0 0,.int .i64 0,.int .i64 0,.int .i64 0] w λe w'=>e=.returned (.tuple #[])/\w'=w:=by go_enter func119,ntmps119;go_wp2_with fail;refine wp_loop_rounds 1 ?_;rw[rounds_succ];go_wp2_with fail;refine(afd _).mono ?_;rintro e w1⟨rfl,rfl⟩;go_wp2_with fail;refine bodyPost_ret (results_none rfl _ _ _) rfl ?_;exact⟨rfl,rfl⟩
def Du w:Calls prog 85 #[.slice none 0 0] w λe w'=>e=.returned (.tuple #[])/\w'=w:=by
 go_enter func85,ntmps85;go_wp2_with fail;rw[show U (iY 0)=0 by decide +kernel]
 refine(WS w).mono ?_;rintro e w1⟨rfl,rfl⟩;go_wp2_with fail;refine(aaO _).mono ?_;rintro e w1⟨rfl,rfl⟩;go_wp2_with fail;go_end0;exact⟨rfl,rfl⟩
theorem Km{α β:Type}{f:α->Option β}:∀ {l:List α}{r:List β},l.mapM f=some r->∀x∈l,∃y,f x=some y
 |[],_,_,x,hx=>by cases hx
 |a::l,r,h,x,hx=>by
  rw[List.mapM_cons]at h;cases ha:f a with
  |none=>rw[ha]at h;cases h
  |some y=>
  rw[ha]at h;cases hl:l.mapM f with
  |none=>rw[hl]at h;cases h
  |some r'=>rcases List.mem_cons.1 hx with rfl|hx;exact⟨y,ha⟩;exact Km hl x hx
def byteOf:Value->UInt8
 |.int _ n=>UInt8.ofNat n.toNat|_=>0
def aeo{d c ls}(h:prog.keyLits (d+1) 5 [c]=some ls):c=.int .u8 (Y (byteOf c)):=by
 unfold Program.keyLits at h;simp only[underlying5]at h;cases c<;>try(simp at h;done)
 rename_i k n;dsimp only at h;split at h;rename_i hk;obtain⟨rfl,hw⟩:=hk;have hn:0<=n/\n<=255:=by simp[Lit.wf,IntKind.min,IntKind.max,IntKind.signed,IntKind.bits]at hw;omega
 have:Y (byteOf (.int .u8 n))=n:=by unfold byteOf Y;simp only[UInt8.toNat_ofNat'];omega
 rw[this];cases h
def P9{v kl}(h:keyOf prog 76 v=some kl):∃d,d.length=32/\v=.agg (w8 d).toArray/\kl=.string d:=by
 have h0:=h;obtain⟨n,hn⟩:∃n,prog.types.size+1=n+2:=⟨prog.types.size-1,by kernel_rfl⟩;unfold keyOf at h;simp only[underlying76,show prog.keyType 76=true by kernel_rfl,Bool.true_and]at h;split at h
 ·rename_i hf;cases v<;>try(simp[Value.formed,underlying76]at hf;done)
  rename_i cs;have lU:cs.toList.length=32:=by simp only[Value.formed,underlying76,zA,beq_iff_eq]at hf;simpa using hf
  rw[hn,show(Value.agg cs).cells.toList=cs.toList by simp[Value.cells]]at h;cases hl:prog.keyLits (n+2) 76 cs.toList with
  |none=>rw[hl]at h;cases h
  |some ls=>
  unfold Program.keyLits at hl;simp only[underlying76,zA,lU,if_true,QQ]at hl;cases hm:(List.range 32).mapM (λi=>prog.keyLits (n+1) 5 ((cs.toList.drop (i*1)).take 1))with
  |none=>rw[hm]at hl;cases hl
  |some r=>
  have gJ:=Km hm;have Ch:∀i (hi:i<cs.toList.length),cs.toList[i]=.int .u8 (Y (byteOf cs.toList[i])):=λi hi=>by obtain⟨y,hy⟩:=gJ i (List.mem_range.2 (by omega));rw[Nat.mul_one,List.drop_eq_getElem_cons hi]at hy;exact aeo hy
  have ep:cs.toList=w8 (cs.toList.map byteOf):=by apply List.ext_getElem;simp[w8];intro i h1 h2;have:=Ch i h1;simp only[w8,List.getElem_map];exact this
  have hd:(cs.toList.map byteOf).length=32:=by simpa using lU
  have hv:Value.agg cs=.agg (w8 (cs.toList.map byteOf)).toArray:=by rw[<-ep]
  refine⟨_,hd,hv,?_⟩;rw[hv,Mp.GY _ hd]at h0;exact(Option.some.inj h0).symm
 cases h
end
section
open Go.RowKit Go.Shelf bd
attribute [local go_sem] Oper.semAt_some
namespace Sq
abbrev B:=List UInt8
abbrev V1:Nat:=86
abbrev enc(x:B):Array Value:=#[Value.string (str x)]
def vk(zs:List B) k(h:k<zs.length):zs.take (k+1)=zs.take k++[zs.getD k []]:=by rw[List.take_succ_eq_append_getElem h,List.getD_eq_getElem?_getD,List.getElem?_eq_getElem h];rfl
def Mc F n(h7:F.fn V1)(kQ:F.round=none)(hn:1<=n) l Bs Kh b off cap zs(XG:zs.length<=1000)(hb:b<Kh)(J Jx:List B->World->Prop) (hY:∀pre x W,J pre W->pre.length<zs.length->YieldAt F (n-1) prog l (enc x) W λe W'=>(e=.returned (.bool true)/\J (pre++[x]) W'/\Below Kh W W')∨(e=.returned (.bool false)/\Jx (pre++[x]) W')) W (IX:W.cell? ⟨Bs,0,none⟩=some (.slice (some ⟨b,off,none⟩) zs.length cap)) (hc:∀j,j<zs.length->W.cell? ⟨b,off+j,none⟩=some (.string (str (zs.getD j [])))) (h0:J [] W):CallsIn F n prog V1 #[.func (.yield l) #[] #[],.pointer (some ⟨Bs,0,none⟩)] W λe W'=>(∃v,e=.returned v)/\((∃ys,ys=zs/\J ys W')∨(∃pre,pre <+: zs/\Jx pre W')):=by
 refine callsIn_of_wp func86 rfl h7 ?_ kQ;simp only[ntmps86,List.size_toArray,List.length_cons,List.length_nil,Nat.reduceAdd,Nat.reduceSub,Array.replicate_succ,Array.replicate_zero,List.push_toArray,List.append_toArray,List.nil_append,List.cons_append];gi_wp2;gi_loopw [7] (λi wr=>∃k:Nat,k<=zs.length/\i=.int .i64 k/\J (zs.take k) wr/\Below Kh W wr) (λi _=>zs.length-(intOf i).toNat);exact⟨0,Nat.zero_le _,rfl,h0,Below.refl _ _⟩;obtain⟨k,hk,rfl,hJs,Qq⟩:=hrel;by_cases aM:k<zs.length
 ·have UW:wr.cell? ⟨b,off+k,none⟩=some (.string (str (zs.getD k []))):=(Qq.cell (p:=⟨b,off+k,none⟩) hb).trans (hc k aM);have LY:=vk zs k aM;have hY':=hY (zs.take k) (zs.getD k []) wr hJs (by rw[List.length_take];omega);rw[<-LY]at hY';generalize zs.getD k []=x at UW hY';clear LY hc hY;obtain⟨fn,tmps,assign,body,hy,hR⟩:=hY';dsimp only[enc]at hy;gi_wp2;refine hR.mono ?_;rintro e W3 (⟨rfl,hJ3,DO⟩|⟨rfl,are⟩)
  ·gi_wp2;go_roundw;exact⟨k+1,by omega,by simp,hJ3,Qq.trans DO⟩;simp[intOf];omega
  gi_wp2;refine bodyPost_ret (results_none rfl _ _ _) rfl ?_;exact⟨⟨_,rfl⟩,.inr ⟨_,List.take_prefix _ _,are⟩⟩
 obtain rfl:k=zs.length:=by omega
 rw[List.take_length]at hJs;gi_wp2;go_end0;exact⟨⟨_,rfl⟩,.inl ⟨_,rfl,hJs⟩⟩
def pq F n(h7:F.fn V1)(kQ:F.round=none) l Bs a cap(J:List B->World->Prop) W(IX:W.cell? ⟨Bs,0,none⟩=some (.slice a 0 cap))(h0:J [] W):CallsIn F n prog V1 #[.func (.yield l) #[] #[],.pointer (some ⟨Bs,0,none⟩)] W λe W'=>(∃v,e=.returned v)/\J [] W':=by refine callsIn_of_wp func86 rfl h7 ?_ kQ;simp only[ntmps86,List.size_toArray,List.length_cons,List.length_nil,Nat.reduceAdd,Nat.reduceSub,Array.replicate_succ,Array.replicate_zero,List.push_toArray,List.append_toArray,List.nil_append,List.cons_append];gi_wp2;gi_loopw [7] (λi wr=>i=.int .i64 0/\J [] wr) (λ_ _=>0);exact⟨rfl,h0⟩;obtain⟨rfl,hJs⟩:=hrel;gi_wp2;go_end0;exact⟨⟨_,rfl⟩,hJs⟩
def FU(F:Fence)(n:Nat)(h7:F.fn V1)(kQ:F.round=none)(hn:1<=n)(Bs Kh:Nat)(sv:Value)(zs:List B)(XG:zs.length<=1000)(w w0:World)(IX:Bs<w.heap.size)(atr:Kh<=w.heap.size) (hc:w.cell? ⟨Bs,0,none⟩=some sv) (hw:w0.heap.size<=Kh) (hI:gA w0 sv zs) (ZY:Below w0.heap.size w0 w):SeqStopsK F n prog V1 #[.pointer (some ⟨Bs,0,none⟩)] enc (Below Kh) (λys=>ys=zs) (λpre=>pre <+: zs) zs.length w:=λl J Jx W hW _ _ hY h0=>by have TB:=(hW.cell (p:=⟨Bs,0,none⟩) IX).trans hc;have hI':gA W sv zs:=(hI.below ZY ν).below hW ν;rcases hI with⟨a,c,rfl,rfl⟩|⟨b,o,c,rfl,hb,_⟩;exact(pq F n h7 kQ l Bs a c J W TB h0).mono λe W' ⟨he,hj⟩=>⟨he,.inl ⟨_,rfl,hj⟩⟩;rcases hI' with⟨a',c',e,rfl⟩|⟨b',o',c',e,_,hp⟩;cases e;exact(pq F n h7 kQ l Bs _ _ J W TB h0).mono λe W' ⟨he,hj⟩=>⟨he,.inl ⟨_,rfl,hj⟩⟩;cases e;exact Mc F n h7 kQ hn l Bs Kh b o c zs XG (by omega) J Jx hY W TB (λj hj=>(hp j hj)) h0
def Xa:(prog.info? 9).map (λi=>(i.zero,i.size,i.bytes))=some (some (.string ByteArray.empty),1,16):=by kernel_rfl
def Ig(F:Fence)(n:Nat)(h3:F.fn 118)(h5:F.fn V1)(kQ:F.round=none)(hn:3<=n)(Bs:Nat)(sv:Value)(zs:List B)(hlen:zs.length<=1000)(w w0:World)(IX:Bs<w.heap.size)(hc:w.cell? ⟨Bs,0,none⟩=some sv)(hT:gA w0 sv zs)(ZY:Below w0.heap.size w0 w):CallsIn F n prog 118 #[.slice none 0 0,.func (.func V1) #[] #[.pointer (some ⟨Bs,0,none⟩)]] w λe W'=>∃v,e=.returned v/\W'.ownsRow w.heap.size 9 1 v zs.length (wt zs)/\Below w.heap.size w W':=by
 have h1:1<=n:=by omega
 obtain⟨i0,hi,oL,kP,ik⟩:=info_parts Xa;refine callsIn_of_wp_marks func118 rfl h3 ?_ kQ;simp only[ntmps118,List.size_toArray,List.length_cons,List.length_nil,Nat.reduceAdd,Nat.reduceSub,Array.replicate_succ,Array.replicate_zero,List.push_toArray,List.append_toArray,List.nil_append,List.cons_append];have HC:=η hc;clear hc;gi_wp2;have bO:=Boxed.new w 28 (.slice none 0 0);have hB0:Below w.heap.size w (w.alloc (.cells #[.slice none 0 0] 28)):=(Below.refl _ w).alloc ν _;have hz:=ZY.size;refine wpIn_rangeFunc_ownG kQ h1 (gf:=V1) (lb:=#[.pointer (some ⟨Bs,0,none⟩)]) rfl h5 (enters_of func86 (by kernel_rfl) rfl)
  (FU F (n-1) h5 kQ (by omega) Bs w.heap.size sv zs hlen _ w0 (by simp;omega) (by simp) ((Below.cell (p:=⟨Bs,0,none⟩) hB0 IX).trans HC.o) hz hT (ZY.trans (hB0.mono hz))) belowK_t (belowK_b (by simp)) (Below.refl _ _) (λ_=>rfl)
  (λpre W=>(∃v,Boxed W w.heap.size 28 v/\W.ownsRow w.heap.size 9 1 v pre.length (wt pre)/\True)/\Below w.heap.size w W)
  (λ_ _ _=>False)
  (OwnFrom.and (Own.from (holdsRow_own w.heap.size w.heap.size 28 9 1 (λpre=>pre.length) (λpre=>wt pre) (λpre v=>True)) _) (ownFrom_below ν (by simp)))
  (λ_ _ _ _ _ hs _ _=>hs)
  ⟨⟨_,bO,World.ownsRow_nil _ _ _ _,trivial⟩,hB0⟩
  (λx=>{tmps:=#[.slice none 0 0,.func (.func V1) #[] #[.pointer (some ⟨Bs,0,none⟩)],.pointer (some ⟨w.heap.size,0,none⟩),undef,.slice none 0 0,.string (str x),.func (.func V1) #[] #[.pointer (some ⟨Bs,0,none⟩)],.string (str x),undef,undef,undef,undef,undef],defers:=[]}) ?assign ?body ?done ?stop
 case assign=>intro l x W K hK;gi_wp2;exact hK
 case body=>rintro l pre x W⟨⟨v,hv,bQ,abw⟩,hB⟩aM;have hc:=hv.cell;gi_wp2_with (gi_at_builtin;refine wpListIn_append_own _ rfl _ _ 28 rfl w.heap.size 9 i0 (.string ByteArray.empty) 1 16 underlying28 hi oL kP ik rfl (by decide) _ _ _ rfl (bQ.alloc _) ⟨W.heap.size,0,none⟩ 1 1 [.string (str x)] rfl rfl (cell_one_new _ _ _) (iz [x]) (by unfold maxLen;omega) (by omega) (by have:=hB.size;simp;omega) ?_;intro v' w1 adk ajL _;obtain⟨g',CL,rfl⟩:=ownsRow_succ adk;obtain⟨mq,hv2,mR,wE,iq⟩:=hv.appended (by decide) bQ hB.size ν adk ajL;have IV:=mq.cell;have hf1:=mq.frozen);exact⟨wE.from _,iq,⟨_,hv2,by rw[List.length_append,<-jQ];exact mR,trivial⟩,hB.trans iq⟩
 case done=>rintro D ys W hD rfl⟨⟨v,hv,bQ,abw⟩,hB⟩hK;have hc:=hv.cell;gi_wp2;refine⟨by simp,.inl ⟨_,_,rfl,run_takeDeferred hK,?_⟩⟩;exact⟨_,results_tmp rfl _ _ _,v,rfl,ownsRow_putObj bQ _ hK rfl,hB.trans (belowK_b (w:=w) ν W D _ _ (by simp at hD;omega) hK rfl rfl)⟩
 case stop=>rintro D c pre W _ _ h _;exact h.elim
end Sq
open Sq
def rW a len cap w:Calls prog 43 #[.slice a len cap] w λe w'=>e=.returned (.func (.func 86) #[] #[.pointer (some ⟨w.heap.size,0,none⟩)])/\w'=w.alloc (.cells #[.slice a len cap] 28):=by go_enter func43,ntmps43;go_wp2_with fail;go_ret;exact⟨rfl,rfl⟩
def yT(Bs:Nat)(sv:Value)(zs:List B)(hlen:zs.length<=1000)(w w0:World)(IX:Bs<w.heap.size)(hc:w.cell? ⟨Bs,0,none⟩=some sv)(hT:gA w0 sv zs)(ZY:Below w0.heap.size w0 w):Calls prog 118 #[.slice none 0 0,.func (.func 86) #[] #[.pointer (some ⟨Bs,0,none⟩)]] w λe W'=>∃v,e=.returned v/\W'.ownsRow w.heap.size 9 1 v zs.length (wt zs)/\Below w.heap.size w W':=(callsIn_wide (n:=6)).1 (Ig Fence.wide 6 trivial trivial rfl (by omega) Bs sv zs hlen w w0 IX hc hT ZY)
def DY(Bs:Nat)(sv:Value)(zs:List B)(hlen:zs.length<=1000)(w w0:World)(IX:Bs<w.heap.size)(hc:w.cell? ⟨Bs,0,none⟩=some sv)(hT:gA w0 sv zs)(ZY:Below w0.heap.size w0 w):Calls prog 84 #[.func (.func 86) #[] #[.pointer (some ⟨Bs,0,none⟩)]] w λe W'=>∃v,e=.returned v/\W'.ownsRow w.heap.size 9 1 v zs.length (wt zs)/\Below w.heap.size w W':=by have T:=η (yT Bs sv zs hlen w w0 IX hc hT ZY);clear hc;go_enter func84,ntmps84;go_wp2_with fail;refine T.o.mono ?_;rintro e w'⟨v,rfl,h1,h2⟩;go_wp2_with fail;go_ret;exact⟨v,rfl,h1,h2⟩
def sorted(zs:List B):List B:=zs.mergeSort λx y=>decide (x<=y)
def tH(Bs:Nat)(sv:Value)(zs:List B)(hlen:zs.length<=1000)(w w0:World)(IX:Bs<w.heap.size)(hc:w.cell? ⟨Bs,0,none⟩=some sv)(hT:gA w0 sv zs)(ZY:Below w0.heap.size w0 w):Calls prog 42 #[.func (.func 86) #[] #[.pointer (some ⟨Bs,0,none⟩)]] w λe W'=>∃v,e=.returned v/\W'.ownsRow w.heap.size 9 1 v zs.length (wt (sorted zs))/\Below w.heap.size w W':=by
 have T:=η (DY Bs sv zs hlen w w0 IX hc hT ZY);clear hc;go_enter func42,ntmps42;go_wp2_with fail;refine T.o.mono ?_;rintro e w1⟨v,rfl,bQ,hb⟩;clear T;have aja:=η bQ;rcases bQ.2 with⟨rfl,hz⟩|⟨gb,cap,cur,rfl,fT,sn,r1,r2,r3,r4⟩
 ·have ZQ:zs=[]:=List.eq_nil_of_length_eq_zero hz;subst ZQ;have HB:=η hb;clear hb hz bQ;go_wp2_with fail;refine(Du w1).mono ?_;rintro e w2⟨rfl,rfl⟩;go_wp2_with fail;go_ret;refine⟨_,rfl,?_,HB.o⟩;have:=aja.o;simpa[sorted]using this
 have hH:Sort.Holds encStr w1 gb 0 zs.toArray:=holds_of_block sn (by rw[Nat.mul_one]at r4;exact r4);have Qt:gb<w1.heap.size:=(Array.getElem?_eq_some_iff.1 sn).1;have cS:=η (Mm gb 0 cap zs w1 hH Qt (by omega));have HB:=η hb;have HG:=η sn;have R:=η (And.intro r1 (And.intro r2 r3));clear hb bQ hH sn r1 r2 r3 r4;go_wp2_with fail;refine cS.o.mono ?_;rintro e w2⟨rfl,nn,os,rfl⟩;go_wp2_with fail;go_ret;refine⟨_,rfl,?_,HB.o.grown (grownBy_sorted _) HB.o.size (λj hj=>by cases hj;exact fT)⟩;exact ownsRow_sorted (by simp) fT HG.o R.o.1 R.o.2.1 R.o.2.2
end
section
open Go.Proofs Go.Shelf Go.RowKit bd
def QN:Ren where
 f:=λx=>match x with
  |194=>44
  |n=>n
 t:=λx=>match x with
  |31=>28
  |9=>9
  |3=>3
  |0=>0
  |4=>4
  |n=>n
 g:=λn=>n
def Lm:Lays.n194 prog QN where
 mixed:=Eq.refl true;f194:=Eq.trans func44 (congrArg some (Eq.refl (Body.n194 QN)));t0:=underlying0;a0:=isAgg0;z0:=sizeOf0;v0:=zeroValue0;t3:=underlying3;a3:=isAgg3;z3:=sizeOf3;v3:=zeroValue3;t4:=underlying4;a4:=isAgg4;z4:=sizeOf4;v4:=zeroValue4;t9:=underlying9;a9:=isAgg9;z9:=sizeOf9;v9:=zeroValue9;t31:=underlying28;a31:=isAgg28;z31:=sizeOf28;v31:=zeroValue28
def so(C:Nat)(v:Value)(zs:List Sq.B)(w:World)(h:w.ownsRow C 9 1 v zs.length (wt zs))(hn:zs.length<=1000):Calls prog 44 #[v] w λe w'=>∃a c,e=.returned (.slice a (Lib.compact zs).length c)/\Below C w w':=by
 rcases h.2 with⟨rfl,hz⟩|⟨gb,cap,cur,rfl,fT,sn,r1,r2,r3,r4⟩;have ZQ:zs=[]:=List.eq_nil_of_length_eq_zero hz;subst ZQ;refine(Any.slices_Compact_string_empty Lm none 0 w).mono ?_;rintro e w'⟨rfl,rfl⟩;exact⟨none,0,rfl,Below.refl _ _⟩;have hH:Sort.Holds encStr w gb 0 zs.toArray:=holds_of_block sn (by rw[Nat.mul_one]at r4;exact r4);refine(Any.slices_Compact_string Lm gb 0 cap zs w hH (by omega) (by omega)).mono ?_;rintro e w'⟨rfl,q,rfl⟩;refine⟨_,_,rfl,?_⟩;have aM:gb<w.heap.size:=(Array.getElem?_eq_some_iff.1 sn).1;have hg:∀d:Array (List UInt8),w.grownBy (Sort.putRow encStr (Sort.ahead w q) gb 0 d) (some gb):=λd=>by refine⟨rfl,rfl,rfl,by simp,λk hk bZ=>?_⟩;have:gb≠k:=λe=>bZ (by rw[e]);simp[Sort.putRow,Sort.mapBlock,Sort.ahead,Array.getElem?_modify,this]
 exact(Below.refl C w).grown (hg _) (by omega) (λj hj=>by cases hj;exact fT)
def tF zs:(Lib.compact (sorted zs)).length<zs.length↔ ¬zs.Nodup:=by
 have hp:(sorted zs).Perm zs:=List.mergeSort_perm _ _;have hs:(sorted zs).Pairwise λx y=>decide (x<=y)=true:=List.pairwise_mergeSort (λa b c h1 h2=>by simp only[decide_eq_true_eq]at h1 h2|-;exact List.le_trans h1 h2) (λa b=>by simpa using List.le_total a b) zs;rw[<-hp.nodup_iff,<-hp.length_eq];generalize sorted zs=ss at hs;have mM:∀j (h:j<ss.length),ss.toArray[j]! =ss[j]:=λj h=>by simp[getElem!_pos,h]
 constructor;intro aM hn;rw[Lib.compact_all ss (λj hj=>by simp only[Lib.keeps,decide_eq_true_eq];by_cases h0:j=0;exact .inl h0;refine .inr ?_;rw[mM j hj,mM (j-1) (by omega)];intro e;have:=(List.getElem_inj hn).1 e;omega)]at aM;omega;intro hn;have bZ:∃j,j<ss.length/\Lib.keeps ss.toArray j=false:=by refine Classical.byContradiction λhc=>hn ?_;have TB:∀j,j<ss.length->0<j->ss.toArray[j]! ≠ss.toArray[j-1]! :=λj hj h0 e=>hc ⟨j,hj,Lib.keeps_neg h0 e⟩;rw[List.nodup_iff_pairwise_ne];rw[List.pairwise_iff_getElem]at hs|-;intro i j hi hj j9 e;have h1:=TB j hj (by omega);rw[mM j hj,mM (j-1) (by omega)]at h1;refine h1 (List.le_antisymm ?_ ?_);rw[<-e];by_cases h2:i=j-1;subst h2;exact List.le_refl _;simpa using hs i (j-1) hi (by omega) (by omega);simpa using hs (j-1) j (by omega) hj (by omega)
 obtain⟨j,hj,hk⟩:=bZ;unfold Lib.compact Lib.compactUpTo;rw[List.length_map];have h1:=List.length_filter_lt_length_iff_exists (p:=Lib.keeps ss.toArray) (l:=List.range ss.length);have h2:((List.range ss.length).filter (Lib.keeps ss.toArray)).length< (List.range ss.length).length:=h1.2 ⟨j,List.mem_range.2 hj,by rw[hk];simp⟩;simpa using h2
end
section
open Go.RowKit bd
namespace Tz
abbrev B:=List UInt8
def F7(t:B):List Value:=if t=[]then db else ai t
def xb(L:List B):List Value:=(L.map F7).flatten
def kI t:(F7 t).length=33:=by unfold F7;split;exact bp;exact aC t
def aaq:F7 []=db:=by unfold F7;rw[if_pos rfl]
def F6{t:B}(h:t≠ []):F7 t=ai t:=by unfold F7;rw[if_neg h]
def Vs t:(F7 t)[0]? =some (.string (str t)):=by unfold F7;split;rename_i h;subst h;rfl;rfl
def j0 t L:xb (t::L)=F7 t++xb L:=rfl
theorem qG:∀L,(xb L).length=33*L.length
 |[]=>rfl|t::L=>by rw[j0,List.length_append,kI,qG L,List.length_cons];omega
theorem Mf:∀(L:List B),(∀t∈L,t≠ [])->xb L=aJ L
 |[],_=>rfl|t::L,h=>by rw[j0,Mf L (λx hx=>h x (List.mem_cons_of_mem _ hx)),F6 (h t List.mem_cons_self)];rfl
theorem y5:∀L i j,i<L.length->j<33->(xb L)[33*i+j]? =(F7 (L.getD i []))[j]?
 |[],i,j,hi,_=>by simp at hi|t::L,0,j,_,hj=>by have:=kI t;rw[j0,List.getElem?_append_left (by omega)];simp|t::L,i+1,j,hi,hj=>by have:=kI t;rw[j0,List.getElem?_append_right (by omega),show 33*(i+1)+j-(F7 t).length=33*i+j by omega,y5 L i j (by simpa using hi) hj];rfl
theorem Pj:∀L i t,i<L.length->xb (L.set i t)=(xb L).take (33*i)++F7 t++(xb L).drop (33*i+33)
 |[],i,t,h=>by simp at h|u::L,0,t,_=>by have hu:=kI u;rw[List.set_cons_zero,j0,j0,Nat.mul_zero,List.take_zero,List.nil_append,Nat.zero_add,List.drop_left' hu]|u::L,i+1,t,h=>by have hu:=kI u;rw[List.set_cons_succ,j0,j0,Pj L i t (by simpa using h),show 33*(i+1)=(F7 u).length+33*i by omega,List.take_length_add_append,show(F7 u).length+33*i+33=(F7 u).length+(33*i+33)by omega,List.drop_length_add_append];simp only[List.append_assoc]
def At(w:World)(T:Nat)(L:List B):Prop:=w.heap[T]? =some (.cells (xb L).toArray 78 (0,0))
section
variable{w w':World}{T:Nat}{L:List B}
def At.lt(h:At w T L):T<w.heap.size:=(Array.getElem?_eq_some_iff.1 h).1
def At.of_block(h:At w T L)(e:w'.heap[T]? =w.heap[T]?):At w' T L:=e.trans h
def At.below{C}(h:At w T L)(hb:Below C w w')(hT:T<C):At w' T L:=h.of_block (hb.block T hT)
def At.range(h:At w T L) i(hi:i<L.length):w.rangeAt T (33*i) (F7 (L.getD i [])):=λj v hv=>by
 have hj:j<33:=by have:=(List.getElem?_eq_some_iff.1 hv).1;rwa[kI]at this
 rw[Go.cell_of_row w T (33*i+j) _ _ _ h,List.getElem?_toArray,y5 L i j hi hj];exact hv
def At.bytes(h:At w T L) i(hi:i<L.length):w.cell? ⟨T,33*i,none⟩=some (.string (str (L.getD i []))):=h.range i hi 0 _ (Vs _)
def At.there(h:At w T L) i(hi:i<L.length):w.there T (33*i) 33:=λj hj=>by refine⟨?_,?_⟩;rw[Go.cell_of_row w T (33*i+j) _ _ _ h,List.getElem?_toArray,y5 L i j hi hj,List.getElem?_eq_getElem (by rw[kI];exact hj)];rfl;have h':w.heap[T]? =some (.cells (xb L).toArray 78 (0,0)):=h;unfold World.frozen?;simp[h']
def heap_set{l:List Value}{t fr}(h:w.heap[T]? =some (.cells l.toArray t fr)) o v:(w.setCell ⟨T,o,none⟩ v).heap[T]? =some (.cells (l.set o v).toArray t fr):=by obtain⟨aM,hk⟩:=Array.getElem?_eq_some_iff.1 h;show(w.heap.modify T _)[T]? =_;rw[Array.getElem?_eq_getElem (by rw[Array.size_modify];exact aM),Array.getElem_modify_self,hk];simp
theorem Fs{t fr}:∀vs o (w:World)(l:List Value),w.heap[T]? =some (.cells l.toArray t fr)->o+vs.length<=l.length->(w.setCells T o vs).heap[T]? =some (.cells (l.take o++vs++l.drop (o+vs.length)).toArray t fr)
 |[],o,w,l,h,_=>by rw[World.setCells,h];simp|v::vs,o,w,l,h,hl=>by
  rw[List.length_cons]at hl;rw[World.setCells,Fs vs (o+1) _ (l.set o v) (heap_set h o v) (by rw[List.length_set];omega)];have ho:o<l.length:=by omega
  congr 3;apply List.ext_getElem?;intro i;have e1:(List.take (o+1) (l.set o v))=l.take o++[v]:=by rw[List.take_succ_eq_append_getElem (by rw[List.length_set];exact ho),List.getElem_set_self,List.take_set_of_le ν]
  have e2:List.drop (o+1+vs.length) (l.set o v)=l.drop (o+1+vs.length):=by rw[List.drop_set_of_lt (by omega)]
  rw[e1,e2,List.length_cons,show o+1+vs.length=o+(vs.length+1)by omega];simp
def At.put(h:At w T L) i t(hi:i<L.length):At (w.setCells T (33*i) (F7 t)) T (L.set i t):=by unfold At;rw[Fs (F7 t) (33*i) w (xb L) h (by rw[kI,qG];omega),kI,Pj L i t hi]
def At.own(h:At w T L){C}(hC:C<=T)(hn:L.length<=1000):w.ownsRow C 78 33 (.slice (some ⟨T,0,none⟩) L.length L.length) L.length (xb L):=by refine⟨by rw[qG];omega,.inr ⟨T,L.length,_,rfl,hC,h,ν,by unfold maxLen;omega,by simp[qG];omega,?_⟩⟩;simp only;rw[List.take_of_length_le (by rw[qG];omega)]
def Aa w T o vs C:cA C T w (w.setCells T o vs):=by
 have:=(aU.setCells (g:=T) vs o w (aU.refl _ w));exact⟨this.os,this.tape,this.output,this.size,λk hk bZ=>by
 by_cases hl:k<w.heap.size;exact this.block k hl bZ;have hs:(w.setCells T o vs).heap.size=w.heap.size:=by clear this hk bZ hl;induction vs generalizing o w with|nil=>rfl|cons v vs ih=>rw[World.setCells,ih];simp[World.setCell]
 rw[Array.getElem?_eq_none (by omega),Array.getElem?_eq_none (by omega)]⟩
end
def WJ z n i(h:i<n):(madeCells z n)[i]? =some z[i % z.size]! :=by unfold madeCells;rw[Array.getElem?_map,Array.getElem?_range,if_pos h];rfl
def WI n:madeCells (Value.agg db.toArray).cells (n*33)=(xb (List.replicate n [])).toArray:=by
 apply Array.ext_getElem?;intro i;by_cases h1:i<n*33;have e:i=33*(i/33)+i % 33:=(Nat.div_add_mod i 33).symm;have hm:i % 33<33:=Nat.mod_lt _ (by omega);have hd:i/33<n:=by omega
 have hg:=y5 (List.replicate n []) (i/33) (i % 33) (by rw[List.length_replicate];exact hd) hm;rw[<-e,List.getD_eq_getElem?_getD,List.getElem?_replicate,if_pos hd,show(some ([]:B)).getD []=[]from rfl,aaq]at hg;have hz:(Value.agg db.toArray).cells=db.toArray:=rfl;have hq:db[i % 33]? =some (db[i % 33]'(by rw[bp];exact hm)):=List.getElem?_eq_getElem _;rw[WJ _ _ _ h1,List.getElem?_toArray,hg,hq,hz,show db.toArray.size=33 by rw[List.size_toArray,bp],getElem!_pos db.toArray (i % 33) (by rw[List.size_toArray,bp];exact hm)];rfl;rw[Array.getElem?_eq_none (by rw[size_madeCells];omega),Array.getElem?_eq_none (by rw[List.size_toArray,qG,List.length_replicate];omega)]
def WH w(n:Nat)(hn:n<=1000):(Instr.makeSlice 42 (.int .i64 (n:Int)) (.int .i64 (n:Int))).run prog w=.ok (.slice (some ⟨w.heap.size,0,none⟩) n n) (w.alloc (.cells (xb (List.replicate n [])).toArray 78)):=by obtain⟨i0,fP,oL,kP,ik⟩:=info_parts qX;have:=run_make w 42 78 i0 _ underlying42 fP oL .i64 .i64 (n:Int) (n:Int) (by omega) (by omega) (by rw[ik];omega) (by omega);rw[kP,Int.toNat_natCast,WI]at this;exact this
end Tz
namespace Wr
def Pos{α:Type}(x:R α):Prop:=∀e,x=.bad e->e≠0
def Pos.ok{α}(a:α) r:Pos (.ok a r):=λe h=>by cases h
def Pos.bind{α β x}{f:α->List UInt8->R β}(h:Pos x)(k:∀a r,Pos (f a r)):Pos (x.bind f):=λe he=>by
 cases x with
 |bad n=>have Qv:R.bad (α:=β) n=.bad e:=he;cases Qv;exact h _ rfl
 |ok a r=>exact k a r e he
def Pos.map{α β x}(f:α->β)(h:Pos x):Pos (x.map f):=λe he=>by
 cases x with
 |bad n=>cases he;exact h _ rfl
 |ok a r=>cases he
def Pos.void{α}{x:R α}(h:Pos x):Pos x.void:=λe he=>by
 cases x with
 |bad n=>cases he;exact h _ rfl
 |ok a r=>cases he
def Pos.ite{α p}[Decidable p]{x y:R α}(h:Pos x)(k:Pos y):Pos (if p then x else y):=by split<;>assumption
theorem Pos.bad{α n}(h:n≠0):Pos (α:=α) (.bad n):=λe he=>by cases he;exact h
def fD n l:Pos (take n l):=by unfold take;exact .ite (.bad (by decide)) (.ok _ _)
def size_pos l:Pos (size l):=(fD 1 l).bind λt r=>.ite (.ok _ _) ((fD _ _).bind λ_ _=>.ite (.bad (by decide)) (.ok _ _))
def mX lo hi l:Pos (cM lo hi l):=(size_pos l).bind λx r=>.ite (.bad (by decide)) (.ok _ _)
def Ae l:Pos (script l):=(mX _ _ l).bind λn r=>(fD n r).void
def abh l:Pos (nN l):=(fD _ l).bind λ_ r=>(Ae r).bind λ_ r=>(fD 4 r).void
def Wk l:Pos (fO l):=(fD _ l).bind λ_ r=>Ae r
theorem Gu{p}(hp:∀l,Pos (p l)):∀n l,Pos (rep p n l)
 |0,_=>.ok _ _|n+1,l=>(hp l).bind λ_ r=>Gu hp n r
def Vp l:Pos (tx l):=((fD _ l).bind λ_ r=>(mX _ _ r).bind λn r=>(Gu abh n r).bind λ_ r=>(mX _ _ r).bind λn r=>(Gu Wk n r).bind λ_ r=>(fD 4 r).void).bind λ_ _=>.ok _ _
theorem Pk:∀n l,Pos (bx n l)
 |0,_=>.ok _ _|n+1,l=>(Vp l).bind λ_ r=>(Pk n r).map _
theorem E0 bound:∀n next l,Pos (fH bound n next l)
 |0,_,_=>.ok _ _|n+1,_,l=>((size_pos l).bind λd r=>.ite (.bad (by decide)) (.ok _ _)).bind λi r=>(Vp r).bind λ_ r=>(E0 bound n (i+1) r).map _
theorem Ew k:∀n l,Pos (iZ k n l)
 |0,_=>.ok _ _|n+1,l=>(fD _ l).bind λ_ r=>(Ew k n r).map _
def QI{α}{x:R α}(h:Pos x):Pos (fin x):=h.bind λa r=>.ite (.ok _ _) (.bad (by decide))
def aca l:Pos (b9 l):=QI ((fD _ l).bind λ_ r=>(fD _ r).bind λ_ r=>(mX _ _ r).bind λ_ r=>(Ew _ _ r).bind λss r=>(mX _ _ r).bind λm r=>.ite (.bad (by decide)) ((E0 _ _ _ _).map _))
def Px l:Pos (dz l):=QI ((fD _ l).bind λ_ r=>(mX _ _ r).bind λn r=>(Pk n r).map _)
end Wr
def PK{w B n e v l}(h:w.ownsRow B e 1 v n (wt l))(hn:n=l.length):gA w v l:=by by_cases h0:n=0;obtain⟨a,c,rfl⟩:=aP h;exact .inl ⟨a,c,by rw[h0],List.length_eq_zero_iff.1 (by omega)⟩;obtain⟨g,cap,rfl,_,hg,oN⟩:=fL h (by omega);refine .inr ⟨g,0,cap,by rw[hn],hg,λj hj=>?_⟩;rw[Nat.zero_add,oN j (by omega)];exact wtq l j hj
def GD(mb:Nat)(a b c:Value):List Value:=[.map (some mb),a,b,c]
def vz{w rb mb a b c}(h:dm w rb (GD mb a b c)):dm (((w.setCell ⟨rb,1,none⟩ (.string (str []))).setCell ⟨rb,2,none⟩ (.slice none 0 0)).setCell ⟨rb,3,none⟩ (.slice none 0 0)) rb (n8 mb):=((h.set 1 (.string (str []))).set 2 (.slice none 0 0)).set 3 (.slice none 0 0)
def Ll l n rb mb va vb vc w(hT:cH w)(hl:l.length<=9223372036854775807)(lX:1<rb)(hR:dm w rb (GD mb va vb vc))(hx:Wr.b9 l=.bad n):Calls prog 21 #[.pointer (some ⟨rb,0,none⟩),.string (str l)] w λe w'=>e=.returned (.tuple #[.agg (an 0 []).toArray,.int .i64 (n:Int)])/\dm w' rb (n8 mb)/\cA w.heap.size rb w w':=by
 have hb:=hR.lt;have gY:=hT.lt;have hn:=Wr.aca l n hx;have p1:¬(n:Int)=0:=by omega
 have rA:Row (w.alloc (.cells (an 0 []).toArray 49)) w.heap.size (an 0 []):=Row.new w _ _;have hB:cA w.heap.size rb w (w.alloc (.cells (an 0 []).toArray 49)):=(cA.refl _ _ _).alloc ν _;rw[show(an 0 []).toArray=#[Value.int .i64 0,.string (str [])]from rfl]at rA hB;have R1:=η (hR.alloc (.cells #[Value.int .i64 0,.string (str [])] 49));have HT:=η hT;have HX:=η hx;clear hT hR hx;go_enter func21,ntmps21;go_upto_region 1 with fail;generalize World.alloc _ _=w1 at rA hB R1|-;have f1:=R1.o.free 1;have f2:=R1.o.free 2;have f3:=R1.o.free 3;have c1:=R1.o.cell 1;have c2:=R1.o.cell 2;have c3:=R1.o.cell 3;have R2:=η (vz R1.o);have A2:=η (((rA.other (show rb≠w.heap.size by omega) _).other (show rb≠w.heap.size by omega) _).other (show rb≠w.heap.size by omega) _:Row (((w1.setCell ⟨rb,1,none⟩ (.string (str []))).setCell ⟨rb,2,none⟩ (.slice none 0 0)).setCell ⟨rb,3,none⟩ (.slice none 0 0)) w.heap.size _);have B2:=η (((hB.eA 1 _).eA 2 _).eA 3 _:cA w.heap.size rb w (((w1.setCell ⟨rb,1,none⟩ (.string (str []))).setCell ⟨rb,2,none⟩ (.slice none 0 0)).setCell ⟨rb,3,none⟩ (.slice none 0 0)));clear rA hB R1;go_upto_region 2 with fail;clear f1 f2 f3 c1 c2 c3;generalize World.setCell _ _ _=w2 at R2 A2 B2|-;have T1:=η (iA l w2 (B2.o.sE HT.o gY lX) hl);rw[HX.o]at T1;have Hh:=A2.o.lt;have KR:=R2.o.lt;go_wp2_with fail;refine T1.o.mono ?_;clear T1;rintro e w3⟨rfl,gQ⟩;have hd:=Row.new w3 fg 87;have KL:=(Below.refl w3.heap.size w3).alloc ν (.cells fg.toArray 87);have qZ:=below_setRow KL ν fg.toArray;have nz:=gQ.size;have R4:=η ((R2.o.below gQ KR).below qZ (by omega));have A4:=η ((A2.o.below gQ Hh).below qZ (by omega));have B4:=η ((B2.o.trans (cA.aH (gQ.mono B2.o.size))).trans (cA.aH (qZ.mono (by omega))));rw[show fg.toArray=#[Value.string (str []),.string (str []),.slice none 0 0,.slice none 0 0,.slice none 0 0]from rfl]at hd R4 A4 B4;clear gQ KL qZ R2 A2 B2;go_upto_region 3 with(with_reducible refine au (o:=⟨none,_,_,_,_,_⟩) rfl _ _ _ rfl w3.heap.size fg fg rfl rfl hd (cK.trans rfl) rfl (by decide +kernel) ?_);clear hd;rw[show fg.toArray=#[Value.string (str []),.string (str []),.slice none 0 0,.slice none 0 0,.slice none 0 0]from rfl];generalize World.setRow _ _ _=w4 at R4 A4 B4|-;have xz:=A4.o;go_wp2_with (first|(refine iR (o:=⟨some 31,_,_,_,_,_⟩) rfl rfl ?_)|(with_reducible refine au (o:=⟨none,_,_,_,_,_⟩) rfl _ _ _ rfl w.heap.size (an 0 []) (an 0 []) rfl rfl xz (aO.trans rfl) rfl rfl ?_));have S5:=xz.setRow (an 0 []);refine bodyPost_ret (v:=.tuple #[.agg (an 0 []).toArray,.int .i64 (n:Int)]) (cn rfl _ _ w.heap.size (an 0 []) (.int .i64 (n:Int)) rfl rfl S5 _ underlying49 (aO.trans rfl)) rfl ?_;exact⟨rfl,R4.o.aG (by omega) _,B4.o.trans (cA.aH (below_setRow (Below.refl _ _) ν _))⟩
def Lj l c rr rb mb va vb vc w(hT:cH w)(hl:l.length<=9223372036854775807)(lX:1<rb)(hR:dm w rb (GD mb va vb vc))(hx:Wr.b9 l=.ok c rr)(hd:¬c.ae.Nodup):Calls prog 21 #[.pointer (some ⟨rb,0,none⟩),.string (str l)] w λe w'=>e=.returned (.tuple #[.agg (an 3 []).toArray,.int .i64 0])/\dm w' rb (n8 mb)/\cA w.heap.size rb w w':=by
 have hb:=hR.lt;have gY:=hT.lt;have dO:=Wr.Hp hx;have abJ:=(tF c.ae).2 hd;clear hd;have rA:Row (w.alloc (.cells (an 0 []).toArray 49)) w.heap.size (an 0 []):=Row.new w _ _;have hB:cA w.heap.size rb w (w.alloc (.cells (an 0 []).toArray 49)):=(cA.refl _ _ _).alloc ν _;rw[show(an 0 []).toArray=#[Value.int .i64 0,.string (str [])]from rfl]at rA hB;have R1:=η (hR.alloc (.cells #[Value.int .i64 0,.string (str [])] 49));have HT:=η hT;have HX:=η hx;clear hT hR hx;go_enter func21,ntmps21;go_upto_region 1 with fail;generalize World.alloc _ _=w1 at rA hB R1|-;have f1:=R1.o.free 1;have f2:=R1.o.free 2;have f3:=R1.o.free 3;have c1:=R1.o.cell 1;have c2:=R1.o.cell 2;have c3:=R1.o.cell 3;have R2:=η (vz R1.o);have A2:=η (((rA.other (show rb≠w.heap.size by omega) _).other (show rb≠w.heap.size by omega) _).other (show rb≠w.heap.size by omega) _:Row (((w1.setCell ⟨rb,1,none⟩ (.string (str []))).setCell ⟨rb,2,none⟩ (.slice none 0 0)).setCell ⟨rb,3,none⟩ (.slice none 0 0)) w.heap.size _);have B2:=η (((hB.eA 1 _).eA 2 _).eA 3 _:cA w.heap.size rb w (((w1.setCell ⟨rb,1,none⟩ (.string (str []))).setCell ⟨rb,2,none⟩ (.slice none 0 0)).setCell ⟨rb,3,none⟩ (.slice none 0 0)));clear rA hB R1;go_upto_region 2 with fail;clear f1 f2 f3 c1 c2 c3;generalize World.setCell _ _ _=w2 at R2 A2 B2|-;have T1:=η (iA l w2 (B2.o.sE HT.o gY lX) hl);rw[HX.o]at T1;have Hh:=A2.o.lt;have KR:=R2.o.lt;go_wp2_with fail;refine T1.o.mono ?_;clear T1;rintro e w3⟨sv,av,tv,rfl,xT,gQ⟩;have xT:Own3 w2.heap.size c sv av tv w3:=xT;have XP:=uh xT;have hd:=Row.new w3 fg 87;have KL:=(Below.refl w3.heap.size w3).alloc ν (.cells fg.toArray 87);have qZ:=below_setRow KL ν (cc c.header c.nonce sv av tv).toArray;have nz:=gQ.size;have R4:=η ((R2.o.below gQ KR).below qZ (by omega));have A4:=η ((A2.o.below gQ Hh).below qZ (by omega));have B4:=η ((B2.o.trans (cA.aH (gQ.mono B2.o.size))).trans (cA.aH (qZ.mono (by omega))));have D4:=η (hd.setRow (cc c.header c.nonce sv av tv));have O4:=η (show Own3 w2.heap.size c sv av tv _ from⟨aE xT.1 qZ ν,aE xT.2.1 qZ ν,aE xT.2.2 qZ ν⟩);rw[show fg.toArray=#[Value.string (str []),.string (str []),.slice none 0 0,.slice none 0 0,.slice none 0 0]from rfl]at hd R4 A4 B4 D4 O4;clear gQ KL qZ R2 A2 B2 xT;go_upto_region 3 with(with_reducible refine au (o:=⟨none,_,_,_,_,_⟩) rfl _ _ _ rfl w3.heap.size fg (cc c.header c.nonce sv av tv) rfl rfl hd (cK.trans rfl) rfl XP ?_);clear hd XP;generalize World.setRow _ _ _=w4 at R4 A4 B4 D4 O4|-;obtain⟨D,hD⟩:∃D,w3.heap.size=D:=⟨_,rfl⟩;rw[hD]at D4 nz|-;clear hD;have hD4:=D4.o.lt;obtain⟨sa,sc,rfl⟩:=aP O4.o.1;have uF:=D4.o.cell 2;rw[show(cc c.header c.nonce (.slice sa c.ae.length sc) av tv)[2]? =some (.slice sa c.ae.length sc)from rfl]at uF;have hnn:=dO.le;go_wp2_with fail;refine(rW sa c.ae.length sc w4).mono ?_;rintro e w5⟨rfl,rfl⟩;have lR:Below w4.heap.size w4 (w4.alloc (.cells #[.slice sa c.ae.length sc] 28)):=(Below.refl _ _).alloc ν _;have R5:=η (R4.o.below lR R4.o.lt);have A5:=η (A4.o.below lR A4.o.lt);have D5:=η (D4.o.below lR hD4);have B5:=η (B4.o.trans (cA.aH (lR.mono B4.o.size)));have O5:=η (show Own3 w2.heap.size c (.slice sa c.ae.length sc) av tv _ from⟨aE O4.o.1 lR ν,aE O4.o.2.1 lR ν,aE O4.o.2.2 lR ν⟩);have T5:=η (tH w4.heap.size (.slice sa c.ae.length sc) c.ae (by omega) (w4.alloc (.cells #[.slice sa c.ae.length sc] 28)) w4 (by simp) (by have:=(Row.new w4 [.slice sa c.ae.length sc] 28).cell 0;exact this) (PK O4.o.1 rfl) lR);clear lR R4 A4 D4 B4 O4 uF;generalize hw5:w4.alloc _=w5 at R5 A5 D5 B5 O5 T5|-;have ai0:w5.heap.size=w4.heap.size+1:=by rw[<-hw5];simp
 clear hw5;go_wp2_with fail;refine T5.o.mono ?_;clear T5;rintro e w6⟨zv,rfl,hz,wH⟩;obtain⟨za,zc,rfl⟩:=aP hz;have hzl:(sorted c.ae).length=c.ae.length:=(List.mergeSort_perm _ _).length_eq;have Z6:=η (show w6.ownsRow w5.heap.size 9 1 (.slice za c.ae.length zc) (sorted c.ae).length (wt (sorted c.ae))by rw[hzl];exact hz);have R6:=η (R5.o.below wH R5.o.lt);have A6:=η (A5.o.below wH A5.o.lt);have D6:=η (D5.o.below wH D5.o.lt);have B6:=η (B5.o.trans (cA.aH (wH.mono B5.o.size)));have Q6:=η wH;have abp:=wH.size;clear hz wH R5 A5 D5 B5;go_upto_region 6 with fail;have rP:∀u:ax.Of (λu=>Row u D (cc c.header c.nonce (.slice sa c.ae.length sc) av tv)),u.w.cell? ⟨D,2,none⟩=some (.slice sa c.ae.length sc):=λu=>u.h.cell 2;haveI bZ:Nonempty (ax.Of (λu=>Row u D (cc c.header c.nonce (.slice sa c.ae.length sc) av tv))):=⟨⟨w6,D6.o⟩⟩;refine ax.bA [0,3,4,5] 3 mixed (by kernel_rfl) rfl rfl (λc a d v w h=>by cases d<;>exact h) (by as_aux_lemma=>kernel_rfl) rfl (λu=>Row u D (cc c.header c.nonce (.slice sa c.ae.length sc) av tv)) D6.o.drew ?_;show wpQuiet _ _ _ _ [_,_,_,_] _;repeat(go_big_quiet_step (fail))
 refine wpQuiet_nil ?_;clear rP;have R7:=η R6.o.drew;have A7:=η A6.o.drew;have D7:=η D6.o.drew;have B7:=η B6.o.drew;have Q7:=η Q6.o.drew;have aft:w5.heap.size<=w6.drew.heap.size:=abp;have T7:=η (so w5.heap.size _ (sorted c.ae) w6.drew Z6.o (by rw[hzl];omega));clear R6 A6 D6 B6 Q6 Z6;generalize w6.drew=w7 at R7 A7 D7 B7 Q7 T7 aft|-;generalize hq:(Lib.compact (sorted c.ae)).length=q at T7 abJ;clear hq;refine ax.one 1 _ (by kernel_rfl) rfl rfl ?_;try go_frame
 go_wp2_with fail;refine T7.o.mono ?_;clear T7;rintro e w8⟨ka,kc,rfl,He⟩;have hD8:D<w5.heap.size:=by omega
 have R8:=η (R7.o.below He (by omega));have A8:=η (A7.o.below He (by omega));have D8:=η (D7.o.below He hD8);have B8:=η (B7.o.trans (cA.aH (He.mono (by have:=B7.o.size;have:=A7.o.lt;omega))));have Q8:=Q7.o.trans He;have O8:=η (show Own3 w2.heap.size c (.slice sa c.ae.length sc) av tv w8 from⟨aE O5.o.1 Q8 ν,aE O5.o.2.1 Q8 ν,aE O5.o.2.2 Q8 ν⟩);have S8:ax.cls (λu=>Row u D (cc c.header c.nonce (.slice sa c.ae.length sc) av tv)) w8:=ax.aj D8.o;clear He R7 A7 D7 B7 Q7 Q8 O5;go_wp2_with fail;refine⟨S8,?_⟩;refine ax.one 2 _ (by kernel_rfl) rfl rfl ?_;try go_frame
 go_wp2_with fail;refine⟨S8,?_⟩;refine ax.one 6 _ (by kernel_rfl) rfl rfl ?_
 try go_frame
 go_wp2_with fail;refine⟨S8,?_⟩;refine wpAnyH_done (by kernel_rfl) ?_ 0
 try go_frame
 have p1:(q:Int)< (c.ae.length:Int):=by omega
 have rA8:=A8.o;go_wp2_with (first|(refine jL (o:=⟨some 44,_,_,_,_,_⟩) rfl _ rfl 3 rfl ?_)|(with_reducible refine au (o:=⟨none,_,_,_,_,_⟩) rfl _ _ _ rfl w.heap.size (an 0 []) (an 3 []) rfl rfl rA8 (aO.trans rfl) rfl rfl ?_));have S9:=rA8.setRow (an 3 []);refine bodyPost_ret (v:=.tuple #[.agg (an 3 []).toArray,.int .i64 0]) (cn rfl _ _ w.heap.size (an 3 []) (.int .i64 0) rfl rfl S9 _ underlying49 (aO.trans rfl)) rfl ?_;exact⟨rfl,R8.o.aG (by omega) _,B8.o.trans (cA.aH (below_setRow (Below.refl _ _) ν _))⟩
end
