import Derived.Test.YtlpcjiollnnmgabDoorM10
import Derived.Deep.Strs
import Derived.Deep.Fields
import Derived.Conc.Holds
set_option maxRecDepth 100000
set_option maxHeartbeats 8000000
set_option linter.all false
namespace Go.Proofs.YtlpcjiollnnmgabDoor
open Go.Proofs.Tryd
section
namespace Tp
open Go.Conc
def arr_retTop{P:Program}{R:Value->World->Prop}{b:Frame}{k:List Item}{a:Act}{w:World}{c:Code}{f:FuncId}{fn:Func}{v:Value}(e:c=.ret)(hf:P.funcs[f]? =some fn)(hb:b.fn=f)(hk:b.kind=.normal)(hd:a.defers=[])(hv:(results fn a.tmps).run P w=.ok v w)(hi:P.inits.idxOf? f=none) (hR:∀τ n,R v (w.re τ n)):Arr P (BesA P (AtRet P R)) (b.at a (.code c::k)) [] w:=by subst e;subst hb;exact arr_step step_ret (arr_stop (BesA.stop λτ n=>⟨rfl,hi,v,⟨rfl,hd,hk,fn,hf,(runT_re hv).1 τ n⟩,hR τ n⟩))
def besA_ends{P:Program}{f:FuncId}{args:Array Value}{w:World}{R:Value->World->Prop}(hR:∀v w d,R v w->R v (w.at d))(h:BesA P (AtRet P R) (gor (Frame.enter P f args .normal) []) w):∃N last o w' t',runNT P (N+1) (solo (gor (Frame.enter P f args .normal) []) w) #[]=(.ended o w',t')/\runN P N (solo (gor (Frame.enter P f args .normal) []) w)=.next last/\step P last=.ended o w'/\Go.Conc.Good P R last o w' t':=fin_good hR (h.self ⟨⟨rfl,(λd hd=>by cases hd),⟨fine_enter P f args .normal,(λ_ h=>by cases h),(λhd=>by cases hd)⟩⟩,rfl⟩)
end Tp
namespace Reg
section
variable{P:Program}{ops:Array Oper}{Q:Exit->Act->World->Prop}{S:World->Prop}
def op_of_listG{i:Nat}{o:Oper}{K:Act->World->Prop}{a:Act}{w:World}(ho:ops[i]? =some o)(hw:Region.wanted o (yielded ops a.tmps)=true)(h:wpList P ops (next S Q K) [o] a w):wpOp P ops Q i (λa' w'=>S w'/\K a' w') a w:=by
 unfold wpOp;simp only[ho];rw[if_pos hw];unfold wpList at h;rw[if_pos hw]at h;refine h.imp (λh=>?_) (λh=>⟨h.1,h.2⟩);unfold Oper.wp at h|-;generalize(execOp a.eval o).run P w=r at h|-;cases r with
 |ok n w'=>
 cases n<;>simp only[Oper.upon]at h|-;case enter f args=>exact h.mono λe w'' he=>by cases e<;>exact he
 all_goals exact h|halt x w'=>cases x<;>simp only[Oper.upon]at h|-;exact h
def oneG{fuel:Nat}{L:Array Bool}{a:Act}{w:World}(i:Nat)(o:Oper)(hr:Region.ready .any ops L=[i])(ho:ops[i]? =some o)(hw:Region.wanted o (yielded ops a.tmps)=true) (h:wpList P ops (next S Q (wpAnyH P .any ops Q S fuel (L.setIfInBounds i true))) [o] a w):wpAnyH P .any ops Q S (fuel+1) L a w:=wpAnyH_all hr (by simp) λj hj=>by
 obtain rfl:j=i:=by simpa using hj
 exact op_of_listG ho hw h
end
end Reg
open Nums Go.Conc
open Go.RowKit
open Ph (cb cl cr ci co arr_seqE arr_wpE arr_condE arr_skipE arr_exitE arr_rest arr_blockE arr_loopE arr_pre arr_ops wpOps_of_list)
open Tp (Bodied bodied Arr arr_stop arr_step CallsB BesA gor besA_of_runs runs_of_arr arr_inBlock arr_inLoop arr_retTop)
open Sd
def newR_calls(w:World):Calls prog 5 #[] w λe w'=>∃r m,e=.returned (.pointer (some ⟨r,0,none⟩))/\RowR w' r (rcv0 m)/\Mp.Map w' m []/\w.heap.size<=r/\w.heap.size<=m/\r≠m/\Below w.heap.size w w':=by
 have hmm:=@run_makeMap prog;have hM:=Mp.Map.new w;have hB:=(Below.refl w.heap.size w).alloc (Nat.le_refl _) (.map #[] 0);go_enter func5,ntmps5;go_wp2_with fail;have hz:(w.alloc (.map #[] 0)).heap.size=w.heap.size+1:=by simp
 have hR:RowR ((w.alloc (.map #[] 0)).alloc (.cells (rcv0 w.heap.size).toArray 36)) (w.heap.size+1) (rcv0 w.heap.size):=by rw[<-hz];have:(w.alloc (.map #[] 0)).heap.size=w.heap.size+1:=hz;generalize w.alloc (.map #[] 0)=u;unfold RowR World.alloc;simp
 go_ret;exact⟨w.heap.size+1,w.heap.size,rfl,hR,hM.alloc _,by omega,by omega,by omega,hB.alloc (by rw[hz];omega) _⟩
def SdSt.add{w wr:World}{r m C:Nat}{P:List Mp.B}(h:SdSt w wr r m C P Cp.idle)(l:List UInt8)(hT:Tabs wr)(hl:l.length<=9223372036854775807):Calls prog 8 #[.pointer (some ⟨r,0,none⟩),.string (str l)] wr λe w'=>e=.returned (.int .i64 (Mp.addErr P (Wr.readTx l):Int))/\SdSt w w' r m C (Mp.addP P (Wr.readTx l)) Cp.idle:=by
 have hrow:RowR wr r (rcv0 m):=by rcases h.st with⟨_,h⟩|⟨hW,_⟩;exact h;exact absurd rfl hW.some
 refine(add_calls l r m P wr hT hl (hrow.cell 0) h.map hrow.lt h.rm).mono λe w' ⟨he,hM,hb⟩=>⟨he,?_⟩;have h1:=h.bel.size;have h2:=h.mw;exact⟨.inl ⟨rfl,hrow.same (hb.block r hrow.lt h.rm)⟩,hM,h.bel.trans ⟨hb.os,hb.output,hb.size,λk hk=>hb.block k (by omega) (by omega)⟩,addP_tx h.txs l,held_idle,h.rm,h.rw',h.mw,h.rC,h.mC⟩
namespace Sd
def hQM:QM=.seq (cl QM) (cr QM):=rfl
def hQM1:cr QM=.seq (cl (cr QM)) Q1:=rfl
def hQM1l:cl (cr QM)=.seq (cl (cl (cr QM))) (cr (cl (cr QM))):=rfl
def hQM1c:cr (cl (cr QM))=.cond (.tmp 28) (ct (cr (cl (cr QM)))) .skip:=rfl
def hQM1t:ct (cr (cl (cr QM)))=.seq (cl (ct (cr (cl (cr QM))))) (cr (ct (cr (cl (cr QM))))):=rfl
def hQ1:Q1=.seq (cl Q1) Q3:=rfl
def hQ3:Q3=.seq (cl Q3) Q4:=rfl
def hQ3l:cl Q3=.seq (cl (cl Q3)) (cr (cl Q3)):=rfl
def hQ3c:cr (cl Q3)=.cond (.tmp 39) (ct (cr (cl Q3))) .skip:=rfl
def hQ4:Q4=.seq (cl Q4) Q5:=rfl
def hQ5:Q5=.seq (cl Q5) Q6:=rfl
def hQ5l:cl Q5=.seq (cl (cl Q5)) (cr (cl Q5)):=rfl
def hQ5b:cr (cl Q5)=.block 2 (ci (cr (cl Q5))):=rfl
def hQ5o:ci (cr (cl Q5))=.loop QB:=rfl
def hQ6:Q6=.seq (cl Q6) (cr Q6):=rfl
end Sd
def sound_m4(sa ma:Option Addr)(sc mc:Nat)(sl:List Int)(ml:List (List UInt8))(r m C:Nat)(P:List Mp.B)(w w1:World)(hT:Tabs w)(hs:IntsAt w (.slice sa sl.length sc) sl)(hsr:∀j,j<sl.length-> -9223372036854775808<=sl.getD j 0/\sl.getD j 0<=9223372036854775807)(hsl:sl.length<=100) (hm:Texts w (.slice ma ml.length mc) ml) (hml:∀x∈ml,x.length<=9223372036854775807) (hlen:ml.length<=1000) (h:SdSt w w1 r m C P Cp.idle) (x2 x3 x4 x6 x7 x8 x9 x10 x11 x12 x13 x14 x15 x16 x17 x18 x19 x20 x21 x22 x23 x24 x25 x26 x27 x28 x29 x30 x31 x32 x33 x34 x35 x36 x37 x38 x39 x40 x41 x42 x43 x44 x45 x46 x47 x48 x49 x50 x51 x52 x53 x54 x55 x56 x57 x58 x59 x60 x61 x62 x63 x64 x65 x66 x67 x68 x69 x70 x71 x72 x73 x74 x75 x76 x77 x78 x79 x80 x81 x82 x83 x84 x85 x86 x87 x88 x89 x90 x91 x92 x93 x94 x95 x96 x97 x98 x99 x100 x101 x102 x103 x104 x105 x106 x107 x108 x109 x110 x111 x112 x113 x114 x115 x116 x117 x118 x119 x120 x121 x122 x123 x124 x125 x126 x127 x128 x129 x130 x131 x132:Value):Arr prog (BesA prog (Tp.AtRet prog λv' w'=>v'=.bool true/\Ph.Bel w.heap.size w w')) (sfr.at ⟨List.toArray (.slice sa sl.length sc::.slice ma ml.length mc::x2::x3::x4::.pointer (some ⟨r,0,none⟩)::x6::x7::x8::x9::x10::x11::x12::x13::x14::x15::x16::x17::x18::x19::x20::x21::x22::x23::x24::x25::x26::x27::x28::x29::x30::x31::x32::x33::x34::x35::x36::x37::x38::x39::x40::x41::x42::x43::x44::x45::x46::x47::x48::x49::x50::x51::x52::x53::x54::x55::x56::x57::x58::x59::x60::x61::x62::x63::x64::x65::x66::x67::x68::x69::x70::x71::x72::x73::x74::x75::x76::x77::x78::x79::x80::x81::x82::x83::x84::x85::x86::x87::x88::x89::x90::x91::x92::x93::x94::x95::x96::x97::x98::x99::x100::x101::x102::x103::x104::x105::x106::x107::x108::x109::x110::x111::x112::x113::x114::x115::x116::x117::x118::x119::x120::x121::x122::x123::x124::x125::x126::x127::x128::x129::x130::x131::x132::[]),[]⟩ [.code Q4]) [] w1:=by
 have HT:=Lib.hid hT;have HS:=Lib.hid hs;have HSR:=Lib.hid hsr;have HM:=Lib.hid hm;have HL:=Lib.hid hml;have U1:=Lib.hid h;have h1w:=hT.lt;clear hT hs hsr hm hml h;refine arr_seqE hQ4 (arr_wpE (c':=cl Q4) rfl ?_);simp only[Q4,Q3,Q1,QM,Ph.cb,Tryd.f4,Option.getD_some,Ph.cr,Ph.cl];go_wp2_with fail;go_loopw [42] (λcv wx=>∃(k:Nat)(P':List Mp.B),k<=sl.length/\cv=.int .i64 k/\SdSt w wx r m C P' Cp.idle) (λcv _=>sl.length-(intOf cv).toNat);exact⟨0,P,by omega,rfl,U1.out⟩;clear U1;obtain⟨k,P',hk,rfl,hu⟩:=hrel;have U1:=Lib.hid hu;clear hu;by_cases hlt:k<sl.length
 ·have p3:(k:Int)< (sl.length:Int):=by omega
  obtain⟨ab,ao,rfl,hab,hcs⟩:=HS.out.at (by omega);have hc:wr.cell? ⟨ab,ao+k,none⟩=some (.int .i64 (sl.getD k 0)):=by rw[<-hcs k hlt];exact World.cell?_of_block (w:=w) (U1.out.bel.block ab hab)
  have hxr:=HSR.out k hlt;generalize sl.getD k 0=x at hc hxr;have T2:=Lib.hid (λv=>txgen_calls x v (by omega));have RD:=Lib.hid (Keeps.readTx_tx x);generalize Keeps.tx x=t at T2 RD;have htl:=Mp.readTx_short RD.out;clear hcs hxr;have hz:=U1.out.bel.size;have AD:=Lib.hid (λw7 (h7:SdSt w w7 r m C P' Cp.idle)=>h7.add t (HT.out.bel h7.bel h1w) (by omega));go_upto_region 9 with fail;haveI hne:Nonempty (Reg.Of (λ_:World=>True)):=⟨⟨w,trivial⟩⟩;refine Reg.startL [0,1,2,3] 2 mixed (by kernel_rfl) rfl rfl (λc a d v w h=>by cases d<;>exact h) (by as_aux_lemma=>kernel_rfl) rfl (λ_=>True) trivial ?_;show wpQuiet _ _ _ _ [_,_,_,_] _;repeat(go_big_quiet_step (fail))
  refine wpQuiet_nil ?_;refine Reg.one 4 _ (by kernel_rfl) rfl rfl ?_;try go_frame
  go_wp2_with fail;refine(T2.out _).mono ?_;clear T2;rintro e w2⟨rfl,hb2⟩;have U2:=Lib.hid ((show SdSt w wr.drew r m C P' Cp.idle from U1.out.re wr.tape _).below hb2);clear hb2 U1;go_wp2_with fail;refine⟨Reg.cls_mk trivial,?_⟩;refine Reg.one 5 _ (by kernel_rfl) rfl rfl ?_
  try go_frame
  go_wp2_with fail;refine(AD.out _ U2.out).mono ?_;clear AD;rintro e w3⟨rfl,hu3⟩;have U3:=Lib.hid hu3;clear hu3 U2;go_wp2_with fail;refine⟨Reg.cls_mk trivial,?_⟩;refine wpAnyH_done (by kernel_rfl) ?_ 0
  go_wp2_with fail;go_roundw
  ·exact⟨k+1,_,by omega,by go_num,U3.out⟩
  simp[intOf];omega
 obtain rfl:k=sl.length:=by omega
 go_wp2_with fail;show Arr _ _ _ _ _;refine arr_seqE hQ5 (arr_seqE hQ5l (arr_wpE (c':=.region _ _ _) rfl ?_));go_wp2_with fail;show Arr _ _ _ _ _;refine arr_blockE hQ5b (arr_loopE hQ5o (arr_stop (sound_round ma mc ml r m P' w HT.out HM.out HL.out hlen [] _ ?_ ml.length 0 _ C Cp.idle _ _ _ _ _ _ _ _ _ _ _ _ _ _ _ _ _ _ _ _ _ _ _ _ _ _ _ _ _ _ _ _ _ _ _ _ _ _ _ _ _ _ _ _ _ _ _ _ _ _ _ _ _ _ _ _ _ _ _ _ _ _ _ _ _ _ _ _ _ _ _ _ _ _ _ _ _ _ _ _ _ _ _ _ _ _ _ _ _ _ _ _ _ _ _ _ _ _ _ _ _ _ _ _ _ _ _ _ _ _ _ _ _ _ _ _ _ _ _ _ _ _ _ _ _ _ _ _ _ _ (by omega) (by omega) (by go_num) U1.out)))
 intro w' y0 y1 y2 y3 y4 y5 y6 y7 y8 y9 y10 y11 y12 y13 y14 y15 y16 y17 y18 y19 y20 y21 y22 y23 y24 y25 y26 y27 y28 y29 y30 y31 y32 y33 y34 y35 y36 y37 y38 y39 y40 y41 y42 y43 y44 y45 y46 y47 y48 y49 y50 y51 y52 y53 y54 y55 y56 y57 y58 y59 y60 y61 y62 y63 y64 y65 y66 y67 y68 y69 y70 y71 y72 y73 y74 y75 y76 y77 y78 y79 y80 y81 y82 y83 y84 y85 y86 y87 y88 y89 y90 y91 y92 y93 y94 y95 y96 y97 y98 y99 y100 y101 y102 y103 y104 y105 y106 y107 y108 y109 y110 y111 y112 y113 y114 y115 y116 y117 y118 y119 y120 y121 y122 y123 y124 y125 y126 y127 y128 y129 y130 y131 y132 hb;refine arr_seqE hQ6 (arr_wpE (c':=.region _ _ _) rfl ?_);go_wp2_with fail;show Arr _ _ _ _ _;exact arr_retTop rfl fn4 rfl rfl rfl (results_tmp rfl _ _ _) (by kernel_rfl) (λ_ _=>⟨rfl,⟨hb.os,hb.output,hb.size,hb.block⟩⟩)
def enter_sd(v u:Value):Frame.enter prog 4 #[v,u] .normal=sfr.at ⟨List.toArray (v::u::undef::undef::undef::undef::undef::undef::undef::undef::undef::undef::undef::undef::undef::undef::undef::undef::undef::undef::undef::undef::undef::undef::undef::undef::undef::undef::undef::undef::undef::undef::undef::undef::undef::undef::undef::undef::undef::undef::undef::undef::undef::undef::undef::undef::undef::undef::undef::undef::undef::undef::undef::undef::undef::undef::undef::undef::undef::undef::undef::undef::undef::undef::undef::undef::undef::undef::undef::undef::undef::undef::undef::undef::undef::undef::undef::undef::undef::undef::undef::undef::undef::undef::undef::undef::undef::undef::undef::undef::undef::undef::undef::undef::undef::undef::undef::undef::undef::undef::undef::undef::undef::undef::undef::undef::undef::undef::undef::undef::undef::undef::undef::undef::undef::undef::undef::undef::undef::undef::undef::undef::undef::undef::undef::undef::undef::undef::undef::undef::undef::undef::undef::[]),[]⟩ [.code QM]:=by unfold Frame.enter;rw[func4];kernel_rfl
def sound_top(v u:Value)(sl:List Int)(ml:List (List UInt8))(w:World)(hT:Tabs w)(hs:IntsAt w v sl)(hsr:∀j,j<sl.length-> -9223372036854775808<=sl.getD j 0/\sl.getD j 0<=9223372036854775807)(hm:Texts w u ml)(hml:∀x∈ml,x.length<=9223372036854775807):BesA prog (Tp.AtRet prog λv' w'=>v'=.bool true/\Ph.Bel w.heap.size w w') (gor (Frame.enter prog 4 #[v,u] .normal) []) w:=by
 rw[enter_sd];obtain⟨sa,sc,rfl⟩:=hs.form;obtain⟨ma,mc,rfl⟩:∃a c,u=.slice a ml.length c:=by rcases hm with⟨a,c,h1,rfl⟩|⟨b,o,c,h1,_⟩;exact⟨a,c,h1⟩;exact⟨_,c,h1⟩
 have HT:=Lib.hid hT;have HS:=Lib.hid hs;have HSR:=Lib.hid hsr;have HM:=Lib.hid hm;have HL:=Lib.hid hml;have h1w:=hT.lt;clear hT hs hsr hm hml;refine besA_of_runs bodied (runs_of_arr λτ0 n0=>?_);have B0:=Lib.hid (show Ph.Bel w.heap.size w (w.re τ0 n0)from⟨rfl,rfl,Nat.le_refl _,λ_ _=>rfl⟩);generalize w.re τ0 n0=w0 at B0|-;refine arr_seqE hQM (arr_wpE (c':=.region _ _ _) rfl ?_);go_wp2_with fail;show Arr _ _ _ _ _;refine arr_seqE hQM1 (arr_seqE hQM1l (arr_wpE (c':=.region _ _ _) rfl ?_));by_cases h1:sl.length>100
 ·have p1:(sl.length:Int)>100:=by omega
  go_wp2_with fail;show Arr _ _ _ _ _;refine arr_condE (t:=true) hQM1c rfl (arr_seqE hQM1t (arr_wpE (c':=.region _ _ _) rfl ?_));go_wp2_with fail;show Arr _ _ _ _ _;exact arr_retTop rfl fn4 rfl rfl rfl (results_tmp rfl _ _ _) (by kernel_rfl) (λ_ _=>⟨rfl,⟨B0.out.os,B0.out.output,B0.out.size,B0.out.block⟩⟩)
 have p1:¬(sl.length:Int)>100:=by omega
 by_cases h2:ml.length>1000
 ·have p2:(ml.length:Int)>1000:=by omega
  go_wp2_with fail;show Arr _ _ _ _ _;refine arr_condE (t:=true) hQM1c rfl (arr_seqE hQM1t (arr_wpE (c':=.region _ _ _) rfl ?_));go_wp2_with fail;show Arr _ _ _ _ _;exact arr_retTop rfl fn4 rfl rfl rfl (results_tmp rfl _ _ _) (by kernel_rfl) (λ_ _=>⟨rfl,⟨B0.out.os,B0.out.output,B0.out.size,B0.out.block⟩⟩)
 have p2:¬(ml.length:Int)>1000:=by omega
 go_wp2_with fail;show Arr _ _ _ _ _;refine arr_condE (t:=false) hQM1c rfl (arr_skipE rfl ?_);refine arr_seqE hQ1 (arr_wpE (c':=.region _ _ _) rfl ?_);have T1:=Lib.hid (newR_calls w0);go_wp2_with fail;refine T1.out.mono ?_;clear T1;rintro e w1⟨r,m,rfl,hr,hmp,hrw,hmw,hrm,hb1⟩;have hz0:=B0.out.size;have hz1:=hb1.size;have U1:=Lib.hid (show SdSt w w1 r m w1.heap.size [] Cp.idle from⟨.inl ⟨rfl,hr⟩,hmp,B0.out.trans ((Ph.Bel.of hb1).mono hz0),(λt ht=>by cases ht),held_idle,hrm,by omega,by omega,hr.lt,hmp.lt⟩)
 clear hr hmp hrw hmw hrm hb1 B0;go_wp2_with fail;show Arr _ _ _ _ _;have T2:=Lib.hid (λv=>txgen_calls 1 v (by omega));have RD:=Lib.hid (Keeps.readTx_tx 1);generalize Keeps.tx 1=t at T2 RD;have htl:=Mp.readTx_short RD.out;obtain⟨C,hC⟩:∃C,w1.heap.size=C:=⟨_,rfl⟩;rw[hC]at U1;have AD:=Lib.hid (λw7 (h7:SdSt w w7 r m C [] Cp.idle)=>h7.add t (HT.out.bel h7.bel h1w) (by omega));rw[show Mp.addErr [] (Wr.readTx t)=0 by rw[RD.out];rfl]at AD;refine arr_seqE hQ3 (arr_seqE hQ3l (arr_wpE (c':=.region _ _ true) rfl ?_));haveI hne:Nonempty (Reg.Of (λ_:World=>True)):=⟨⟨w,trivial⟩⟩;refine Reg.startL [0,1,2,3,4,5] 4 mixed (by kernel_rfl) rfl rfl (λc a d v w h=>by cases d<;>exact h) (by as_aux_lemma=>kernel_rfl) rfl (λ_=>True) trivial ?_;show wpQuiet _ _ _ _ [_,_,_,_,_,_] _;repeat(go_big_quiet_step (fail))
 refine wpQuiet_nil ?_;refine Reg.oneG 6 _ (by kernel_rfl) rfl (by kernel_rfl) ?_;try go_frame
 go_wp2_with fail;refine(T2.out _).mono ?_;clear T2;rintro e w2⟨rfl,hb2⟩;have U2:=Lib.hid ((show SdSt w w1.drew r m C [] Cp.idle from U1.out.re w1.tape _).below hb2);clear hb2 U1;go_wp2_with fail;refine⟨Reg.cls_mk trivial,?_⟩;refine Reg.oneG 7 _ (by kernel_rfl) rfl (by kernel_rfl) ?_
 try go_frame
 go_wp2_with fail;refine(AD.out _ U2.out).mono ?_;clear AD;rintro e w3⟨rfl,hu3⟩;have U3:=Lib.hid hu3;clear hu3 U2;go_wp2_with fail;refine⟨Reg.cls_mk trivial,?_⟩;refine Reg.oneG 8 _ (by kernel_rfl) rfl (by kernel_rfl) ?_
 try go_frame
 go_wp2_with fail;refine⟨Reg.cls_mk trivial,?_⟩;refine Reg.one 9 _ (by kernel_rfl) rfl rfl ?_
 try go_frame
 go_wp2_with fail;refine⟨Reg.cls_mk trivial,?_⟩;refine wpAnyH_done (by kernel_rfl) ?_ 0
 show Arr _ _ _ _ _;exact arr_condE (t:=false) hQ3c rfl (arr_skipE rfl (sound_m4 sa ma sc mc sl ml r m C _ w w3 HT.out HS.out HSR.out (by omega) HM.out HL.out (by omega) U3.out _ _ _ _ _ _ _ _ _ _ _ _ _ _ _ _ _ _ _ _ _ _ _ _ _ _ _ _ _ _ _ _ _ _ _ _ _ _ _ _ _ _ _ _ _ _ _ _ _ _ _ _ _ _ _ _ _ _ _ _ _ _ _ _ _ _ _ _ _ _ _ _ _ _ _ _ _ _ _ _ _ _ _ _ _ _ _ _ _ _ _ _ _ _ _ _ _ _ _ _ _ _ _ _ _ _ _ _ _ _ _ _ _ _ _ _ _ _ _ _ _ _ _ _ _ _ _ _ _ _))
end
section
open Nums
open Go.ChangeShapes Go.WideShapes Go.ChangeAt Go.RowKit
def Tryd.laidOut':laidOutB prog=true:=by kernel_rfl
def cellsStr:prog.cellsOf 9=1:=by kernel_rfl
end
section
open Nums
open Go.ChangeShapes Go.WideShapes Go.ChangeAt Go.RowKit
open Go.Conc
def Ph.Bel.blind{B:Nat}{w w':World}(h:Ph.Bel B w w'):Below B w.blind w'.blind:=⟨h.os,rfl,h.output,h.size,h.block⟩
def post_of_bel{H:Type}{enc:TypeId×Value->H}{P:Program}{f:Func}{s:ChangeSpec}{apart fresh handsOn:Bool}{W W':World}{args:Array Value}{v:Value}{ds gs:List (DataW H)}{before pa pv:List MemPlace} (hW:DataW.Whole enc P f.params.toList s.vars apart W args.toList ds gs before) (hres:∀(b:Nat)(sp:Nat->Bool)(hd:Bool),DataW.TrodAll enc P W' b sp hd f.resultTypes.toList (v.resultList f.resultTypes.size) (s.fn H (ds++gs)).results []) (hargs:DataW.TrodAll enc P W' 0 (λb=>decide (b<W.heap.size)) true f.params.toList args.toList (s.fn H (ds++gs)).args pa) (hvars:DataW.TrodVars enc P W' (λb=>decide (b<W.heap.size)) s.vars (s.fn H (ds++gs)).vars pv) (hps:before=pa++pv) (hb:Below W.heap.size W W'):s.post enc P f apart fresh handsOn false W args v W':=by refine⟨ds,gs,before,[],pa,pv,hW,hres _ _ _,hargs,hvars,World.keptBut_mono (λp hp=>⟨hp,?_⟩) (hb.frame (·∈before)),λh=>by cases h⟩;rw[hps,List.mem_append]at hp;exact Or.inr hp
def returnsInLeaving_of_row{H:Type}{enc:TypeId×Value->H}{a:Assume}{C:Checked}{os:Os}{f:FuncId}{fn:Func}{s:OpenSpec}{F:Stop.Interp}{conds:List PathCond}{apart fresh handsOn again:Bool}{laid:List (String×DataW Unit)} (own:ownKnob C.prog.godebug=none) (started:os.Started) (hfn:C.prog.funcs[f]? =some fn) (witness:∃(w:World)(tape:Tape)(i:Input),w.os=os/\(w.forCall tape i).Shaped C.prog/\i.vars=[]/\Input.okWide C.prog (w.forCall tape i) .any w.heap.size f i/\s.preRow enc C.prog fn conds apart laid (w.forCall tape i).memory i.args/\a.holds C.prog (lone (Frame.enter C.prog f i.args .normal) [] (w.forCall tape i))) (contract:∀(W:World)(base:Nat)(args:Array Value)(ds gs:List (DataW H))(before:List MemPlace),(∀(j:Nat) t v,fn.params[j]? =some t->args[j]? =some v->Value.okWide C.prog W .any base t v)->DataW.Whole enc C.prog fn.params.toList s.vars apart W args.toList ds gs before->(DataW.weightsEach C.prog (fn.params.toList++s.bare.plain.varTypes C.prog) (ds++gs)).all (·<=reachBytes)=true->laidMetH C.prog laid W->∃R:Value->World->Prop,(∀v w d,R v w->R v (w.at d))/\Tp.BesA C.prog (Tp.AtRet C.prog R) (Tp.gor (Frame.enter C.prog f args .normal) []) W/\∀v W',R v W'->(s.at F).post enc C.prog fn apart fresh handsOn again W.blind args v W'.blind):ReturnsInLeavingWide a C os f .any (s.preRow enc C.prog fn conds apart laid) ((s.at F).post enc C.prog fn apart fresh handsOn again):=by refine returnsInLeavingWide_of_good own started witness ?_;intro w tape i _ hsh _ hok hpre hholds;obtain⟨_,_,_,fn',hfn',_,_,_,_,hval⟩:=hok;have e:fn'=fn:=Option.some.inj (hfn'.symm.trans hfn);subst e;obtain⟨⟨hp,hl⟩,hz⟩:=hpre;obtain⟨ds,gs,before,hw,hc,hk⟩:=OpenSpec.pre_parts hp;have hw':=DataW.Whole.of_heap (w':=w.forCall tape i) (by rfl) hw;obtain⟨R,hR,hb,hpost⟩:=contract (w.forCall tape i) w.heap.size i.args ds gs before hval hw' (hz.weights hw) (hl.of_heap (by rfl));obtain⟨N,last,o,w',t',h1,h2,h3,v,e,hr,hq⟩:=Tp.besA_ends hR hb;exact⟨N,last,o,w',t',h1,h2,h3,v,e,hpost v w' hr,hq⟩
def card_goes(Lk:Looks){p:Pinned}{s:OpenSpec}{c:OpenClaim}(g:Bool)(kinds:List LaidKind)(tests:Bool)(har:Bool×String)(lk:Bool) (hc:c.holds p s) (hw:c.wfByText s=true) (htie:c.laidByTextAt Lk p kinds tests) (hst:c.start=.entering) (hnb:c.noBlocks=false/\c.again=false) (hm:p.checked.prog.mainIs=some (har.1,har.2.toList)) (hn:(!har.1&&har.2.isEmpty&& !lk)=false) (hl:∀f fn,p.checked.prog.funcNamed c.func=some f->p.checked.prog.funcs[f]? =some fn->lk=p.checked.prog.looks []/\∀(j:Nat) t,fn.params[j]? =some t->p.checked.prog.wantsStandIn t=false) (hg:g=c.goesBy p.checked.prog):Claim7.holds p (.plain s) {stood:={row:=c,standIns:=[],harness:=har,looks:=lk},kinds:=[],alts:=[],goes:=g,laidByText:=true,laidKinds:=kinds,laidTests:=tests,laidLooks:=Lk}:=by
 have h6:∀r:OpenClaim,Claim7.isSixth {stood:={row:=r,standIns:=[],harness:=har,looks:=lk},kinds:=[]}=false:=λr=>by simpa[Claim7.isSixth]using hn
 refine⟨(Claim7.holdsOne_goes p (.plain s) {stood:={row:=c,standIns:=[],harness:=har,looks:=lk},kinds:=[],alts:=[],laidByText:=true,laidKinds:=kinds,laidTests:=tests,laidLooks:=Lk} g).2 (Claim7.tied_new_at Lk kinds tests (Claim7.new_of_sixth hc har lk hst hnb hm (h6 c) hl) hw),(λD hD=>by cases hD),htie,(λh=>by cases h),hg⟩
def texts_of_argL{H:Type}{enc:TypeId×Value->H}{W:World}{a0:Option Addr}{n0 c0:Nat}{d:DataW H}{ps:List MemPlace}(h:DataW.Trod enc prog W 0 (λ_=>true) true 25 (.slice a0 n0 c0) d ps):∃ss,Texts W (.slice a0 n0 c0) ss/\∀x∈ss,x.length<=9223372036854775807:=by
 obtain⟨fuel,hf⟩:=h;rcases Deep.open_strs underlying25 underlying9 cellsStr hf with⟨hcs,_⟩|⟨a,len,cap,m,Sx,hcs,_,hl,hcm,hmm,_,hcell⟩;simp[Value.cells]at hcs;obtain⟨rfl,rfl,rfl⟩:=hcs;exact⟨[],.inl ⟨none,0,rfl,rfl⟩,λx hx=>by cases hx⟩;simp[Value.cells]at hcs;obtain⟨rfl,rfl,rfl⟩:=hcs;by_cases h0:n0=0;subst h0;exact⟨[],.inl ⟨some a,_,rfl,rfl⟩,λx hx=>by cases hx⟩;have hlm:n0<=m:=by rw[hmm];simp;exact hl
 obtain⟨b,off,spot⟩:=a;have hspot:spot=none:=by simpa[Addr.add]using World.cell?_spot (hcell 0 (by omega)).1
 subst hspot;refine⟨(List.range n0).map λi=>(Sx i).toList,.inr ⟨b,off,_,by rw[List.length_map,List.length_range],?_,λj hj=>?_⟩,λx hx=>?_⟩;have:=World.block_lt_of_cell? _ _ (hcell 0 (by omega)).1;simpa[Addr.add]using this;have hj':j<n0:=by simpa using hj
 have e:((List.range n0).map λi=>(Sx i).toList).getD j []=(Sx j).toList:=by simp[hj']
 rw[e,str_of,<-Addr.add_lit];exact(hcell j (by omega)).1;obtain⟨i,hi,rfl⟩:=List.mem_map.1 hx;have h1:=(hcell i (by have:=List.mem_range.1 hi;omega)).2;have h2:(Sx i).toList.length=(Sx i).size:=by rw[<-str_size,str_of]
 unfold maxLen at h1;omega
end
