import Derived.Test.YtlpcjiollnnmgabGreatDoorM08
set_option maxRecDepth 100000
set_option maxHeartbeats 8000000
set_option linter.all false
namespace Go.Proofs.YtlpcjiollnnmgabGreatDoor
open Go.Proofs.Tryz
section
open Go.RowKit iz
def aiO b c ds w(hT:km w)(hb:b<w.heap.size)(hd:aib w b ds)(IS:p9 ds)(hn:0<ds.length)(hm:ds.length<=1000):Calls prog 51 #[.slice (some ⟨b,0,none⟩) ds.length c] w λe w'=>e=.returned (.tuple #[.agg (w8 (Mk.root ds false).1).toArray,.bool (Mk.root ds false).2])/\Below w.heap.size w w':=by
 obtain⟨i0,kV,mJ,mC,kS⟩:=fy agR;have h1:=hT.lt;have hR:Row (w.alloc (.cells (w8 (List.replicate 32 0)).toArray 76)) w.heap.size (w8 (List.replicate 32 0)):=Row.new w _ _;have hB:Below w.heap.size w (w.alloc (.cells (w8 (List.replicate 32 0)).toArray 76)):=(Below.refl _ _).alloc ν _;have hZ:(w.alloc (.cells (w8 (List.replicate 32 0)).toArray 76)).heap.size=w.heap.size+1:=ζ;rw[Tryz.xY]at hR hB hZ;have HT:=η hT;have HD:=η hd;have H32:=η IS;clear hT hd IS;go_enter func51,ntmps51;go_wp2_with fail;generalize w.alloc _=w1 at hR hB hZ|-;have A1:=η hR;have A2:=η hB;have hZ':w.heap.size<w1.heap.size:=ω
 clear hR hB hZ;go_loopw [0,3] (λlv mv wr=>∃(g k:Nat)(ls:List (List UInt8)),0<ls.length/\ls.length<=ds.length/\lv=.slice (some ⟨g,0,none⟩) ls.length k/\mv=.bool (bOf mv)/\g<wr.heap.size/\aib wr g ls/\p9 ls/\Mk.root ds false=Mk.root ls (bOf mv)/\Row wr w.heap.size (w8 (List.replicate 32 0))/\g≠w.heap.size/\Below w.heap.size w wr) (λlv _ _=>zi lv);exact⟨b,c,ds,hn,ν,rfl,rfl,by omega,HD.o.below A2.o hb,H32.o,rfl,A1.o,by omega,A2.o⟩;clear A1 A2;obtain⟨g,k,ls,hls,hle,rfl,hmv,hg,hdg,alJ,JQ,hR,iZ,hB⟩:=hrel;obtain⟨m,rfl⟩:∃m,u3=.bool m:=⟨_,hmv⟩;replace JQ:Mk.root ds false=Mk.root ls m:=JQ;clear hmv;by_cases hl1:1<ls.length
 ·have p0:(1:Int)< (ls.length:Int):=by omega
  have B1:=η hdg;have B2:=η alJ;have B3:=η JQ;have B4:=η hR;have B5:=η hB;clear hdg alJ JQ hR hB;go_wp2_with fail;obtain⟨wo,rfl⟩:∃wo:World,wo=wr:=⟨_,rfl⟩;go_loopw [3,4,5] (λmv uv iv wr=>∃(q:Nat)(us:List (List UInt8)),2*q<=ls.length+1/\iv=.int .i64 ((2*q:Nat):Int)/\mv=.bool (bOf mv)/\us.length=q/\p9 us/\wr.ownsRow wo.heap.size 76 32 uv q (w8 us.flatten)/\Mk.up ls=us++Mk.up (ls.drop (2*q))/\(m || Mk.Ik ls)=(bOf mv || Mk.Ik (ls.drop (2*q)))/\Below wo.heap.size wo wr) (λ_ _ iv _=>ls.length+1-(intOf iv).toNat);exact⟨0,[],by omega,rfl,rfl,rfl,λ_ h=>by simp at h,fc _ _ _ _,rfl,rfl,Below.refl _ _⟩;obtain⟨q,us,hq,rfl,hmv,xR,Oy,iB,nU,Zb,hB⟩:=hrel;obtain⟨m',rfl⟩:∃m',u3=.bool m':=⟨_,hmv⟩;replace Zb:(m || Mk.Ik ls)=(m' || Mk.Ik (ls.drop (2*q))):=Zb;clear hmv;by_cases gV:2*q<ls.length
  ·have p1:((2*q:Nat):Int)< (ls.length:Int):=by omega
   have HI:=η kV;clear kV;have G1:=η iB;have G2:=η hB;have G3:=η nU;have G4:=η Zb;have G5:=η Oy;clear iB nU Zb Oy;by_cases aar:2*q+1<ls.length
   ·have rA:wr.rangeAt g (2*q*32) (w8 (ls.getD (2*q) [])):=by rw[br];exact B1.o.below hB hg (2*q) gV
    have rB:wr.rangeAt g ((2*q+1)*32) (w8 (ls.getD (2*q+1) [])):=by rw[br];exact B1.o.below hB hg (2*q+1) aar
    have lA:=B2.o.get (2*q) gV;have lB:=B2.o.get (2*q+1) aar;clear hB;have pZ:=Mk.Km ls (2*q) aar;have ht2:=Mk.XR ls (2*q) aar;generalize ls.getD (2*q) []=A at rA lA pZ ht2;generalize ls.getD (2*q+1) []=B at rB lB pZ ht2;have M1:=η pZ;have M2:=η ht2;clear pZ ht2;have p2:2*(q:Int)< (ls.length:Int):=ω;have p3:(0:Int)<=2*(q:Int):=ω;have p4:¬((ls.length:Int) - 1<2*(q:Int)+1):=ω;have p6:min (2*(q:Int)+1) ((ls.length:Int) - 1)=2*(q:Int)+1:=ω;have p5:2*(q:Int)+1< (ls.length:Int):=ω;go_wp2_with fail;haveI iZ:Nonempty (gI.Of (λu=>u.rangeAt g (2*q*32) (w8 A)/\u.rangeAt g ((2*q+1)*32) (w8 B))):=⟨⟨wr,rA,rB⟩⟩;refine gI.atW 13 4 mixed κ rfl θ ξ rfl (λu=>u.rangeAt g (2*q*32) (w8 A)/\u.rangeAt g ((2*q+1)*32) (w8 B)) ⟨rA,rB⟩ ?_;simp only[aW,bH];iterate 3 (go_big_quiet_step (fail))
    refine oe (o:=⟨some 24,_,_,_,_,_⟩) rfl _ rfl g (2*q*32) A lA rfl (λw' ⟨u,hu⟩=>by rw[hu];exact u.h.1) ?_;go_frame;iterate 8 (go_big_quiet_step (fail))
    refine oe (o:=⟨some 33,_,_,_,_,_⟩) rfl _ rfl g ((2*q+1)*32) B lB rfl (λw' ⟨u,hu⟩=>by rw[hu];exact u.h.2) ?_;go_frame;refine fe ?_;have rA2:wr.drew.rangeAt g (2*q*32) (w8 A):=rA;have rB2:wr.drew.rangeAt g ((2*q+1)*32) (w8 B):=rB;have hwb:Below wo.heap.size wo wr.drew:=G2.o.drew;have hg5:g<wr.drew.heap.size:=ay hg hwb.size;have K0:=G1.o.drew;clear rA rB;generalize wr.drew=w5 at rA2 rB2 hwb hg5 K0|-;refine news 13 14 15 16 6 7 (.tmp 24) (.tmp 33) _ _ _ _ κ κ κ κ κ κ rfl rfl rfl rfl rfl rfl rfl rfl rfl rfl rfl rfl rfl rfl rfl rfl ψ ψ (by exact Nat.le_of_ble_eq_true rfl) (by exact Nat.le_of_ble_eq_true rfl) A B lA lB (λ_ _=>rfl) (λ_ _=>rfl)
     (λw' hw'=>gI.gF ⟨rangeAt_of_block rA2 (hw'.block g ω),rangeAt_of_block rB2 (hw'.block g ω)⟩) ?_
    intro b6 b7 w6 h6 h7 ahp hr6 hr7 hbw;go_frame;have J1:=η hr6;have J2:=η hr7;have J3:=η (hwb.trans (hbw.mono hwb.size));have J4:=η (gM K0 hbw ν);cases hr:(A==B);all_goals
     go_wp2_with (first|(refine aoF (o:=⟨some 40,_,_,_,_,_⟩) rfl _ rfl b6 A lA rfl J1.o ?_)|(refine aoF (o:=⟨some 41,_,_,_,_,_⟩) rfl _ rfl b7 B lB rfl J2.o ?_)|(refine atf (o:=⟨some 42,_,_,_,_,_⟩) rfl _ _ _ rfl A B lA lB rfl rfl _ hr ?_))
     have hcA:=ath w6 b6 A lA J1.o;have hcB:=ath w6 b7 B lB J2.o;refine gI.MK 1 5 mixed ξ rfl rfl θ ?_
     simp only[aW,bH,bg,bB,List.foldl,gI.rQ]
     change wpQuiet _ _ _ _ _ (Act.put _ (some 44) u4)
     go_frame;repeat(go_big_quiet_step (fail))
     refine fe ?_;have K1:=J3.o.drew;have K2:=J4.o.drew;generalize w6.drew=w7 at K1 K2|-;have hz7:=K1.size;have hs8:(w7.alloc (.cells #[.string (str A),.string (str B)] 9)).heap.size=w7.heap.size+1:=ζ
     have hT8:=HT.o.below ((B5.o.trans (K1.mono B5.o.size)).alloc (by have:=B5.o.size;omega) (.cells #[.string (str A),.string (str B)] 9)) h1
     have c80:(w7.alloc (.cells #[.string (str A),.string (str B)] 9)).cell? ⟨w7.heap.size,0,none⟩=some (.string (str A)):=(Row.new w7 [.string (str A),.string (str B)] _).cell 0;have c81:(w7.alloc (.cells #[.string (str A),.string (str B)] 9)).cell? ⟨w7.heap.size,1,none⟩=some (.string (str B)):=(Row.new w7 [.string (str A),.string (str B)] _).cell 1;have K3:=η (K1.alloc K1.size (.cells #[.string (str A),.string (str B)] 9));have K4:=η (K2.alloc (.cells #[.string (str A),.string (str B)] 9));have K5:=η hT8;have K6:=η c80;have K7:=η c81;clear hT8 c80 c81 K1 K2;go_wp2_with fail;refine(akQ w7.heap.size 2 A B _ K5.o K6.o K7.o ω).mono ?_
     rintro e w9⟨rfl,hb9⟩;have K8:=K3.o.trans (hb9.mono K3.o.size);have K9:=gM K4.o hb9 ν;have hz9:wo.heap.size<=w9.heap.size:=K8.size;have lD:=Mk.mS (A++B);have hnw:∀j u,(w8 (Mk.gC (A++B)))[j]? =some u->(w9.alloc (.cells (w8 (Mk.gC (A++B))).toArray 76)).cell? (Addr.add ⟨w9.heap.size,0,none⟩ j)=some u:=λj u hu=>by
      rw[fJ,aC,(Row.new w9 _ _).cell];exact hu
     have L1:=η hnw;have L2:=η (K9.alloc (.cells (w8 (Mk.gC (A++B))).toArray 76));have L3:=η (K8.alloc K8.size (.cells (w8 (Mk.gC (A++B))).toArray 76));clear K3 K4 K5 K6 K7 K8 K9 hnw hb9 hs8;go_wp2_with (first|(refine ZK (o:=⟨some 51,_,_,_,_,_⟩) rfl _ rfl (Mk.gC (A++B)) lD rfl ?_)|(at_builtin;refine wpList_append_own _ rfl _ _ 110 rfl wo.heap.size 76 i0 (.agg (w8 (List.replicate 32 0)).toArray) 32 32 underlying110 HI.o mJ mC kS rfl ψ _ _ _ rfl L2.o ⟨w9.heap.size,0,none⟩ 1 1 (w8 (Mk.gC (A++B))) rfl (by rw[ir,lD]) L1.o (AA _) ι ω χ ?_;intro XO w10 aaa aaf _))
     have N1:=L3.o.trans ((Below.refl wo.heap.size _).grown aaf χ (λk hk=>(L2.o.lt k hk).1))
     rw[Zv]at aaa;have N2:=η aaa;have N3:=η N1;have N4:Hid (Mk.up ls=(us++[Mk.gC (A++B)])++Mk.up (ls.drop (2*(q+1)))):=η (by rw[G3.o,M1.o,aL];rfl)
     have N5:Hid ((m || Mk.Ik ls)=(m' ||(A==B || Mk.Ik (ls.drop (2*(q+1)))))):=η (by rw[G4.o,M2.o];rfl)
     have N6:=η (uB G5.o lD);clear aaa aaf N1 L1 L2 L3;go_roundw
     case rel=>((repeat(apply Exists.intro));(first|refine And.intro ?_ rfl|refine And.intro ?_ ⟨rfl,rfl,rfl⟩);exact⟨q+1,by omega,by go_num,rfl,us++[Mk.gC (A++B)],by rw[ai,xR];rfl,N6.o,N2.o,N4.o,by rw[N5.o,hr];simp[bOf],N3.o⟩)
     case measure=>simp[intOf];omega
   have rA:wr.rangeAt g (2*q*32) (w8 (ls.getD (2*q) [])):=by rw[br];exact B1.o.below hB hg (2*q) gV
   have rB:wr.rangeAt g ((ls.length-1)*32) (w8 (ls.getD (2*q) [])):=by rw[show ls.length-1=2*q by omega];exact rA
   have lA:=B2.o.get (2*q) gV;have lB:=lA;clear hB;have pZ:=Mk.ar5 ls (2*q) ω;have ht2:=Mk.aaP ls (2*q) ω;generalize ls.getD (2*q) []=A at rA lA rB lB pZ;obtain⟨B,hBA⟩:∃B,B=A:=⟨_,rfl⟩;rw[show w8 A=w8 B by rw[hBA]]at rB;rw[<-hBA]at lB;have hu3:Mk.up (ls.drop (2*q))=Mk.gC (A++B)::Mk.up (ls.drop (2*q+2)):=by rw[hBA];exact pZ
   clear pZ hBA;have M1:=η hu3;have M2:=η ht2;clear hu3 ht2;have p2:2*(q:Int)< (ls.length:Int):=ω;have p3:(0:Int)<=2*(q:Int):=ω;have p4:(ls.length:Int) - 1<2*(q:Int)+1:=ω;have p6:min (2*(q:Int)+1) ((ls.length:Int) - 1)=(ls.length:Int) - 1:=ω;have p5:¬(2*(q:Int)+1< (ls.length:Int)):=ω;have p7:(0:Int)<=(ls.length:Int) - 1:=ω;have p8:((ls.length:Int) - 1).toNat=ls.length-1:=ω;go_wp2_with fail;haveI iZ:Nonempty (gI.Of (λu=>u.rangeAt g (2*q*32) (w8 A)/\u.rangeAt g ((ls.length-1)*32) (w8 B))):=⟨⟨wr,rA,rB⟩⟩;refine gI.atW 13 4 mixed κ rfl θ ξ rfl (λu=>u.rangeAt g (2*q*32) (w8 A)/\u.rangeAt g ((ls.length-1)*32) (w8 B)) ⟨rA,rB⟩ ?_;simp only[aW,bH];iterate 3 (go_big_quiet_step (fail))
   refine oe (o:=⟨some 24,_,_,_,_,_⟩) rfl _ rfl g (2*q*32) A lA rfl (λw' ⟨u,hu⟩=>by rw[hu];exact u.h.1) ?_;go_frame;iterate 8 (go_big_quiet_step (fail))
   refine oe (o:=⟨some 33,_,_,_,_,_⟩) rfl _ rfl g ((ls.length-1)*32) B lB rfl (λw' ⟨u,hu⟩=>by rw[hu];exact u.h.2) ?_;go_frame;refine fe ?_;have rA2:wr.drew.rangeAt g (2*q*32) (w8 A):=rA;have rB2:wr.drew.rangeAt g ((ls.length-1)*32) (w8 B):=rB;have hwb:Below wo.heap.size wo wr.drew:=G2.o.drew;have hg5:g<wr.drew.heap.size:=ay hg hwb.size;have K0:=G1.o.drew;clear rA rB;generalize wr.drew=w5 at rA2 rB2 hwb hg5 K0|-;refine news 13 14 15 16 6 7 (.tmp 24) (.tmp 33) _ _ _ _ κ κ κ κ κ κ rfl rfl rfl rfl rfl rfl rfl rfl rfl rfl rfl rfl rfl rfl rfl rfl ψ ψ (by exact Nat.le_of_ble_eq_true rfl) (by exact Nat.le_of_ble_eq_true rfl) A B lA lB (λ_ _=>rfl) (λ_ _=>rfl)
    (λw' hw'=>gI.gF ⟨rangeAt_of_block rA2 (hw'.block g ω),rangeAt_of_block rB2 (hw'.block g ω)⟩) ?_
   intro b6 b7 w6 h6 h7 ahp hr6 hr7 hbw;go_frame;have J1:=η hr6;have J2:=η hr7;have J3:=η (hwb.trans (hbw.mono hwb.size));have J4:=η (gM K0 hbw ν);all_goals
    go_wp2_with fail;have hcA:=ath w6 b6 A lA J1.o;have hcB:=ath w6 b7 B lB J2.o;refine gI.MK 1 5 mixed ξ rfl rfl θ ?_
    simp only[aW,bH,bg,bB,List.foldl,gI.rQ]
    change wpQuiet _ _ _ _ _ (Act.put _ (some 44) u4)
    go_frame;repeat(go_big_quiet_step (fail))
    refine fe ?_;have K1:=J3.o.drew;have K2:=J4.o.drew;generalize w6.drew=w7 at K1 K2|-;have hz7:=K1.size;have hs8:(w7.alloc (.cells #[.string (str A),.string (str B)] 9)).heap.size=w7.heap.size+1:=ζ
    have hT8:=HT.o.below ((B5.o.trans (K1.mono B5.o.size)).alloc (by have:=B5.o.size;omega) (.cells #[.string (str A),.string (str B)] 9)) h1
    have c80:(w7.alloc (.cells #[.string (str A),.string (str B)] 9)).cell? ⟨w7.heap.size,0,none⟩=some (.string (str A)):=(Row.new w7 [.string (str A),.string (str B)] _).cell 0;have c81:(w7.alloc (.cells #[.string (str A),.string (str B)] 9)).cell? ⟨w7.heap.size,1,none⟩=some (.string (str B)):=(Row.new w7 [.string (str A),.string (str B)] _).cell 1;have K3:=η (K1.alloc K1.size (.cells #[.string (str A),.string (str B)] 9));have K4:=η (K2.alloc (.cells #[.string (str A),.string (str B)] 9));have K5:=η hT8;have K6:=η c80;have K7:=η c81;clear hT8 c80 c81 K1 K2;go_wp2_with fail;refine(akQ w7.heap.size 2 A B _ K5.o K6.o K7.o ω).mono ?_
    rintro e w9⟨rfl,hb9⟩;have K8:=K3.o.trans (hb9.mono K3.o.size);have K9:=gM K4.o hb9 ν;have hz9:wo.heap.size<=w9.heap.size:=K8.size;have lD:=Mk.mS (A++B);have hnw:∀j u,(w8 (Mk.gC (A++B)))[j]? =some u->(w9.alloc (.cells (w8 (Mk.gC (A++B))).toArray 76)).cell? (Addr.add ⟨w9.heap.size,0,none⟩ j)=some u:=λj u hu=>by
     rw[fJ,aC,(Row.new w9 _ _).cell];exact hu
    have L1:=η hnw;have L2:=η (K9.alloc (.cells (w8 (Mk.gC (A++B))).toArray 76));have L3:=η (K8.alloc K8.size (.cells (w8 (Mk.gC (A++B))).toArray 76));clear K3 K4 K5 K6 K7 K8 K9 hnw hb9 hs8;go_wp2_with (first|(refine ZK (o:=⟨some 51,_,_,_,_,_⟩) rfl _ rfl (Mk.gC (A++B)) lD rfl ?_)|(at_builtin;refine wpList_append_own _ rfl _ _ 110 rfl wo.heap.size 76 i0 (.agg (w8 (List.replicate 32 0)).toArray) 32 32 underlying110 HI.o mJ mC kS rfl ψ _ _ _ rfl L2.o ⟨w9.heap.size,0,none⟩ 1 1 (w8 (Mk.gC (A++B))) rfl (by rw[ir,lD]) L1.o (AA _) ι ω χ ?_;intro XO w10 aaa aaf _))
    have N1:=L3.o.trans ((Below.refl wo.heap.size _).grown aaf χ (λk hk=>(L2.o.lt k hk).1))
    rw[Zv]at aaa;have N2:=η aaa;have N3:=η N1;have N4:Hid (Mk.up ls=(us++[Mk.gC (A++B)])++Mk.up (ls.drop (2*(q+1)))):=η (by rw[G3.o,M1.o,aL];rfl)
    have N5:Hid ((m || Mk.Ik ls)=m'):=η (by rw[G4.o,M2.o,Bool.or_false])
    have N7:Hid (Mk.Ik (ls.drop (2*(q+1)))=false):=η (Mk.aaP _ _ ω)
    have N6:=η (uB G5.o lD);clear aaa aaf N1 L1 L2 L3;go_roundw
    case rel=>((repeat(apply Exists.intro));(first|refine And.intro ?_ rfl|refine And.intro ?_ ⟨rfl,rfl,rfl⟩);exact⟨q+1,by omega,by go_num,rfl,us++[Mk.gC (A++B)],by rw[ai,xR];rfl,N6.o,N2.o,N4.o,by rw[N5.o,N7.o];simp[bOf],N3.o⟩)
    case measure=>simp[intOf];omega
  have hdn:ls.drop (2*q)=[]:=bj ω;rw[hdn]at nU Zb;have hus:us=Mk.up ls:=by rw[nU];simp[Mk.up]
  have aqX:(m || Mk.Ik ls)=m':=by rw[Zb];simp[Mk.Ik]
  subst hus;have hlen:=Mk.oQ ls;obtain⟨g2,k2,rfl,Th,axc,arL⟩:=abL iB ω xR.symm Oy;have hRl:=B4.o.lt;have OC:Mk.root ds false=Mk.root (Mk.up ls) m':=by rw[B3.o,Mk.KC ls m hl1,aqX]
  have P1:=η arL;have P2:=η OC;have P3:=η (B4.o.below hB hRl);have P4:=η (B5.o.trans (hB.mono B5.o.size));have P5:=η Oy;have hq2:q=(Mk.up ls).length:=xR.symm;subst hq2;clear iB nU Zb hB hdn aqX arL OC Oy xR B1 B2 B3 B4 B5;have p9:¬(2*((Mk.up ls).length:Int)< (ls.length:Int)):=ω;go_wp2_with fail;go_roundw
  exact⟨g2,k2,Mk.up ls,by omega,by omega,rfl,rfl,axc,P1.o,P5.o,P2.o,P3.o,by omega,P4.o⟩
  (simp only[zi];omega)
 obtain⟨d,Tk⟩:=dF.1 (show ls.length=1 by omega);subst Tk;have acL:Mk.root ds false=(d,m):=by rw[JQ,Mk.abh _ _ ζ];rfl
 have B7:=η acL;have lD:=alJ d ζ;have rD:wr.rangeAt g 0 (w8 d):=hdg 0 ζ;have B4:=η hR;have B5:=η hB;have B6:=η rD;clear hdg alJ JQ acL hR hB rD;go_wp2_with (first|(refine agI (o:=⟨some 56,_,_,_,_,_⟩) rfl _ rfl g 0 d lD rfl B6.o ?_)|(with_reducible refine ng (o:=⟨none,_,_,_,_,_⟩) rfl _ _ rfl w.heap.size (List.replicate 32 0) d rfl lD rfl rfl B4.o ?_));have ow:=below_setRow B5.o ν (w8 d).toArray;exact bodyPost_ret (v:=.tuple #[.agg (w8 d).toArray,.bool m]) (aix (fn:=Tryz.f51) rfl _ _ w.heap.size d lD _ rfl rfl (B4.o.setRow (w8 d))) rfl ⟨by rw[B7.o],ow⟩
end
