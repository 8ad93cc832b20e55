import Derived.Below
set_option linter.all false
namespace Go.RowKit
def Hid.o{p:Prop}(h:Hid p):p:=h
end Go.RowKit
namespace Go.Proofs.YtlpcjiollnnmgabGreatDoor
def η{p:Prop}(h:p):RowKit.Hid p:=h
def ν{n:Nat}:n<=n:=Nat.le_refl n
def ab:=@List.getD_eq_getElem?_getD
def ae:=@Array.getElem?_eq_some_iff
def ag:=@List.getElem?_eq_getElem
def ah:=@Array.getElem?_setIfInBounds_ne
def ai:=@List.length_append
def aj:=@Array.getElem?_setIfInBounds_self_of_lt
def ak:=@Nat.le_trans
def aq:=@List.length_cons
def au:=@List.take_of_length_le
def ax:=@List.take_succ_eq_append_getElem
def ay:=@Nat.lt_of_lt_of_le
def az:=@List.size_toArray
def aA:=@Option.some.inj
def aB:=@List.getElem?_eq_some_iff
def aC:=@Nat.zero_add
def aD:=@List.length_drop
def aE:=@List.getElem?_map
def aF:=@List.mem_cons_of_mem
def aG:=@Ne.symm
def aH:=@List.mem_cons_self
def aI:=@Array.getElem?_eq_none
def aJ:=@List.length_take
def aK:=@List.getElem?_append_right
def aL:=@List.append_assoc
def aM:=@List.getElem?_take_of_lt
def aN:=@Array.getD_eq_getD_getElem?
def aO:=@List.append_nil
def aP:=@List.getElem?_append_left
def aQ:=@Bool.not_true
def aR:=@List.eq_nil_of_length_eq_zero
def aS:=@Option.map_eq_some_iff
def aT:=@UInt64.toNat_ofNat'
def aU:=@List.cons_append
def aV:=@Classical.byContradiction
def aW:=@List.take_succ_cons
def aX:=@List.nil_append
def aY:=@List.length_set
def aZ:=@Nat.add_assoc
def bd:=@Array.getElem?_modify
def bg:=@List.drop_succ_cons
def bh:=@Nat.sub_self
def bj:=@List.drop_of_length_le
def bk:=@List.length_map
def bo:=@List.drop_eq_getElem_cons
def bp:=@Nat.mod_eq_of_lt
def bq:=@List.getElem_mem
def br:=@Nat.mul_comm
def bt:=@Array.size_setIfInBounds
def bu:=@Array.getElem?_map
def bx:=@List.mem_append
def bA:=@Array.replicate_succ
def bB:=@List.drop_zero
def bC:=@Nat.lt_succ_self
def bD:=@List.length_replicate
def bE:=@Array.getElem?_toList
def bF:=@List.length_eq_zero_iff
def bG:=@Nat.pow_le_pow_right
def bH:=@List.take_zero
def bI:=@List.pairwise_cons
def bJ:=@Array.replicate_zero
def bL:=@Array.ext_getElem?
def bM:=@Array.empty_append
def bN:=@List.map_toArray
def bP:=@List.map_nil
def bQ:=@Array.getElem?_push_lt
def bR:=@List.append_toArray
def bS:=@Nat.mul_one
def bT:=@List.getElem?_eq_none
def bU:=@Nat.mul_assoc
def bV:=@List.all_cons
def bW:=@List.length_nil
def bX:=@Eq.trans
def bY:=@Option.some.injEq
def bZ:=@List.push_toArray
def b9:=@List.ext_getElem?
def cg:=@UInt8.toNat_inj
def cn:=@List.mem_singleton
def cz:=@Array.append_empty
def cC:=@List.mem_append_left
def cD:=@List.getElem?_of_mem
def cE:=@List.getElem?_replicate
def cF:=@Nat.pow_succ
def cG:=@List.getElem?_set_self
def cH:=@Array.getElem?_append_right
def cI:=@Nat.zero_le
def cJ:=@Nat.add_mul
def cK:=@UInt8.toNat_ofNat'
def cM:=@List.getElem?_drop
def cN:=@List.getElem?_toArray
def cO:=@Nat.min_eq_left
def cP:=@List.map_append
def cQ:=@Bool.eq_iff_iff
def cR:=@List.mem_iff_getElem
def cU:=@Prod.mk.injEq
def cV:=@Option.getD_some
def cW:=@List.getElem?_cons_succ
def cX:=@List.drop_append_of_le_length
def cY:=@Nat.eq_zero_or_pos
def cZ:=@UInt8.lt_iff_toNat_lt
def da:=@List.set_append_right
def db:=@Classical.choose_spec
def dc:=@List.replicate_succ'
def de:=@List.getElem?_set_ne
def df:=@Int.tmod_eq_emod_of_nonneg
def dh:=@Array.mem_push
def dk:=@UInt64.toNat_inj
def dm:=@Nat.shiftLeft_eq
def dn:=@List.lookup_cons
def dp:=@List.pairwise_iff_getElem
def dq:=@Array.mapM_eq_mapM_toList
def dr:=@List.flatten_append
def du:=@Array.getElem?_push
def dw:=@Array.getElem?_push_size
def dx:=@Int.natCast_pow
def dz:=@Bool.or_eq_true
def dA:=@List.set_cons_zero
def dB:=@Int.eq_ofNat_of_zero_le
def dC:=@List.mem_range
def dD:=@List.map_set
def dE:=@List.mapM_cons
def dF:=@List.length_eq_one_iff
def dG:=@List.flatten_cons
def dH:=@List.filter_eq_nil_iff
def dI:=@List.drop_drop
def dJ:=@Int.pow_nonneg
def dK:=@Array.getElem?_append
def dL:=@List.getElem_map
def dM:=@Array.mem_append
def dN:=@UInt32.toNat_or
def dO:=@List.replicate_succ
def dP:=@List.mem_map_of_mem
def dQ:=@List.filter_eq_self
def dR:=@Nat.add_comm
def dS:=@Nat.lt_of_le_of_lt
def dU:=@Bool.not_false
def dV:=@BitVec.toNat_ofInt
def dW:=@Array.getElem?_append_left
def dX:=@List.nodup_append
def dY:=@Option.bind_some
def dZ:=@Nat.min_eq_right
def ec:=@List.take_length
def ed:=@List.countP_cons
def ee:=@List.all_toArray
def ef:=@Int.natCast_emod
def eg:=@Nat.not_lt_zero
def eh:=@Nat.div_le_self
def ei:=@Int.natCast_mul
def en:=@UInt8.toNat_toUInt64
def eo:=@UInt8.toNat_toUInt32
def ep:=@UInt64.toNat_toUInt8
def et:=@Nat.mul_le_mul_right
def eu:=@List.mem_of_mem_take
def ew:=@Array.toArray_toList
def eA:=@List.mergeSort_perm
def eB:=@List.map_congr_left
def eC:=@List.mapM_nil
def eD:=@Nat.mod_lt
def eE:=@List.getElem?_take
def eF:=@List.filter_append
def eG:=@Array.append_assoc
def eH:=@Nat.sub_zero
def eI:=@Nat.lt_or_ge
def eJ:=@Nat.le_of_lt
def eK:=@Nat.le_of_eq
def eL:=@List.getElem?_set
def eM:=@List.getElem?_inj
def eN:=@List.filter_congr
def eO:=@Int.toNat_natCast
def eP:=@UInt32.toNat_and
def eQ:=@Nat.lt_of_not_le
def eR:=@List.drop_length
def eS:=@Nat.zero_lt_one
def eT:=@List.mem_filter
def eU:=@List.forIn_cons
def eV:=@Int.emod_emod
def eW:=@Bool.and_true
def eX:=@Nat.mul_zero
def eY:=@Bool.true_or
def eZ:=@Nat.pow_add
def e9:=@Nat.mul_add
def fh:=@Go.Sem.run_bind
def fi:=@Go.Result.andThen_ok
def fj:=@Go.Sem.run_pure
def ft:=@Go.RowKit.Below.heap_setCell
def fB:=@Go.World.cell?_alloc_lt
def fM:=@Go.RowKit.Below.heap_alloc
def fQ:=@Go.World.block_lt_of_cell?
def ω{p:Prop}(h:p:=by omega):p:=h
def κ{p:Prop}(h:p:=by kernel_rfl):p:=h
def θ{p:Prop}(h:p:=by exact λc a d v w h=>by cases d<;>exact h):p:=h
def ξ{p:Prop}(h:p:=by as_aux_lemma=>kernel_rfl):p:=h
def χ{p:Prop}(h:p:=by rw[World.size_alloc];omega):p:=h
def ψ{p:Prop}(h:p:=by decide):p:=h
def ζ{p:Prop}(h:p:=by simp):p:=h
def ι{p:Prop}(h:p:=by unfold maxLen;omega):p:=h
def μ{p:Prop}(h:p:=by exact λu => by unfold stepG.exec; simp only [vK]):p:=h
def π{p:Prop}(h:p:=by exact λτ n=>by unfold early;simp only[hp,hs,h1,tn,VQ,h3,hk,aQ,Bool.false_eq_true,if_false]<;>rfl):p:=h
def aFJ{p:Prop}(h:p:=by simp;omega):p:=h
def aFK{p:Prop}(h:p:=by decide +kernel):p:=h
def aFL{p:Prop}(h:p:=by unfold early;simp only[hp,hs,h1,h2,h3,hk,aQ,Bool.false_eq_true,if_false]<;>rfl):p:=h
def aFM{p:Prop}(h:p:=by exact λx hx=>by rw[kX _ _ _ (by simp) (by simp)];exact hx):p:=h
def aFN{p:Prop}(h:p:=by exact λτ n=>by rw[Sem.runT];simp only[show(w.re τ n).heap=w.heap from rfl,hh]):p:=h
def aFO{p:Prop}(h:p:=by rw[e1];rfl):p:=h
def aFP{p:Prop}(h:p:=by exact λk hk=>by cases hk):p:=h
def aFQ{p:Prop}(h:p:=by exact λ_ _ _ e=>by cases e):p:=h
def aFR{p:Prop}(h:p:=by simpa using h2):p:=h
def aFS{p:Prop}(h:p:=by exact λc e=>by cases e):p:=h
def aFT{p:Prop}(h:p:=by exact λa e=>by cases e):p:=h
def aFU{p:Prop}(h:p:=by rfl):p:=h
def aFV{p:Prop}(h:p:=by simpa using h1):p:=h
def aFW{p:Prop}(h:p:=by exact λw hw=>by obtain⟨u,rfl⟩:=hw;exact u.h.2):p:=h
def aFX{p:Prop}(h:p:=by rw[ab,ag gV];exact bq gV):p:=h
def aFY{p:Prop}(h:p:=by exact λh=>by omega):p:=h
def aFZ{p:Prop}(h:p:=by exact λop jy=>by obtain⟨e,_,rfl⟩:=Go.Conc.mem_ofEvents jy;rfl):p:=h
def aF0{p:Prop}(h:p:=by simpa using h):p:=h
def aF1{p:Prop}(h:p:=by rw[aJ];omega):p:=h
def aF2{p:Prop}(h:p:=by exact λi hi=>h i (by omega)):p:=h
def aF4{p:Prop}(h:p:=by exact λj v hv=>by rw[aC,hr.cell];exact hv):p:=h
def aF5{p:Prop}(h:p:=by exact λ_ τ n _=>by rw[Sem.runT];simp only[show(w.re τ n).heap=w.heap from rfl,hh];rfl):p:=h
def aF6{p:Prop}(h:p:=by exact λw hw=>by obtain⟨u,rfl⟩:=hw;exact λj v hv=>by rw[u.h.2.cell,aC];exact hv):p:=h
def aF7{p:Prop}(h:p:=by exact λhr => .inr ⟨_, λu => by unfold stepG.exec; simp only [vK, he, hr]; rfl⟩):p:=h
def aF8{p:Prop}(h:p:=by exact λu hu=>by simp at hu;subst hu;rfl):p:=h
def aF9{p:Prop}(h:p:=by exact λh=>h.elim (λh=>by omega) (λh=>h.2.1 rfl)):p:=h
def aGa{p:Prop}(h:p:=by rw[jP P s',hn,Sem.runT];simp only[h2];rfl):p:=h
def aGb{p:Prop}(h:p:=by rw[Sem.runT];simp only[hh]):p:=h
def aGc{p:Prop}(h:p:=by rcases CW with h|h<;>rw[h]at e<;>cases e):p:=h
def aGd{p:Prop}(h:p:=by simpa using hi):p:=h
def aGe{p:Prop}(h:p:=by exact λk hk he=>by have IN:k=w.heap.size:=he;omega):p:=h
def aGf{p:Prop}(h:p:=by exact λe=>absurd e (I.rP hi ig (by simp[pI.role]))):p:=h
def aGg{p:Prop}(h:p:=by exact λ_ h=>by cases h):p:=h
def aGh{p:Prop}(h:p:=by exact λu=>by unfold doReturn;simp only[hk,hi,aQ,Bool.false_eq_true,if_false]):p:=h
def aGi{p:Prop}(h:p:=by simp[World.setCell]):p:=h
def aGj{p:Prop}(h:p:=by exact λc a d v w h=>h):p:=h
def aGk{p:Prop}(h:p:=by exact λkey kl hk=>by obtain⟨d,hd,hv,_⟩:=Lf hk;exact⟨⟨d,hd⟩,hv⟩):p:=h
def aGm{p:Prop}(h:p:=by exact λhr => .inl λu => by unfold stepG.exec; simp only [vK, hr]; rfl):p:=h
def aGo{p:Prop}(h:p:=by rw[touchAt_of wV];exact Au):p:=h
def aGq{p:Prop}(h:p:=by exact λp=>by rw[e1];rfl):p:=h
def aGr{p:Prop}(h:p:=by exact λu=>by unfold doReturn;simp only[hk]):p:=h
def aGs{p:Prop}(h:p:=by exact λop jy=>by simp at jy;subst jy;exact⟨rfl,λm=>by simp⟩):p:=h
def aGt{p:Prop}(h:p:=by exact λl hr u => by unfold stepG.exec; simp only [vK, he, hr]; rfl):p:=h
def aGv{p:Prop}(h:p:=by exact λk hk=>⟨hB k (by simp at hk;omega),by simp at hk;omega⟩):p:=h
def aGw{p:Prop}(h:p:=by exact λk hs hk=>by have:=hS k hs hk;omega):p:=h
def aGx{p:Prop}(h:p:=by simp at hj;omega):p:=h
def aGy{p:Prop}(h:p:=by show w.heap.size<=(w1.heap.setIfInBounds _ _).size;simpa using e3):p:=h
def aGA{p:Prop}(h:p:=by have:=(Row.new w4 [.slice sa c.gA.length sc] 28).cell 0;exact this):p:=h
def aGB{p:Prop}(h:p:=by rw[aD];omega):p:=h
def aGC{p:Prop}(h:p:=by exact λl hr u => by unfold stepG.exec; simp only [vK, hr]; rfl):p:=h
def aGD{p:Prop}(h:p:=by simp[go_sem]):p:=h
def aGE{p:Prop}(h:p:=by rw[Sem.runT];simp only[h1];rfl):p:=h
def aGF{p:Prop}(h:p:=by exact λe=>by cases e):p:=h
def aGG{p:Prop}(h:p:=by simp[pI.role]):p:=h
def aGJ{p:Prop}(h:p:=by unfold Bc;omega):p:=h
def aGK{p:Prop}(h:p:=by rw[gQ]):p:=h
def aGL{p:Prop}(h:p:=by exact λu => by unfold stepG.exec; simp only [vK, he]; rfl):p:=h
def aGM{p:Prop}(h:p:=by exact λl=>(by split<;>first|(rename_i e;subst e;rfl)|rfl)):p:=h
def aGN{p:Prop}(h:p:=by exact λk hk h=>h.elim (λh=>by omega) (λh=>by omega)):p:=h
def aGO{p:Prop}(h:p:=by exact λj hj=>⟨by omega,by rw[aC,ab,ab,aM (by omega)]⟩):p:=h
def aGP{p:Prop}(h:p:=by exact λ_ τ n _=>by rw[Sem.runT];rfl):p:=h
def aGQ{p:Prop}(h:p:=by simp[Region.wanted,pn]):p:=h
def aGT{p:Prop}(h:p:=by exact λu => by unfold stepG.oper; simp only [ho, hr, jy]):p:=h
def aGV{p:Prop}(h:p:=by exact λj v v' h h'=>by rw[h]at h';cases h';exact i j v h):p:=h
def aGW{p:Prop}(h:p:=by rw[Sem.runT]):p:=h
def aGY{p:Prop}(h:p:=by exact λi hi=>by have:=Ks (s i);rwa[h.role i hi]at this):p:=h
def aG0{p:Prop}(h:p:=by exact λc e=>(by cases e)):p:=h
def aG1{p:Prop}(h:p:=by show q<_;omega):p:=h
def aG4{p:Prop}(h:p:=by exact λu => by unfold stepG.exec; simp only [vK]; rfl):p:=h
def aG5{p:Prop}(h:p:=by exact λj hj=>by cases hj;exact oM):p:=h
def aG6{p:Prop}(h:p:=by have:=k.gt;unfold Bc;omega):p:=h
def aG7{p:Prop}(h:p:=by exact λw hw=>by obtain⟨u,rfl⟩:=hw;exact u.h.load):p:=h
def aG8{p:Prop}(h:p:=by exact λu => by unfold stepG.exec; simp only [vK, mm]):p:=h
def aG9{p:Prop}(h:p:=by exact λ_=>by kernel_rfl):p:=h
def aHc{p:Prop}(h:p:=by exact λh=>h.elim (λh=>by omega) (λh=>h.2 rfl)):p:=h
def aHf{p:Prop}(h:p:=by simpa using hs):p:=h
def aHg{p:Prop}(h:p:=by simp only[qO];omega):p:=h
def aHh{p:Prop}(h:p:=by rw[Tryz.Gt,az,ir];exact congrArg some (gP.kI _).symm):p:=h
def aHn{p:Prop}(h:p:=by rcases SX with⟨_,h,_⟩|h<;>rw[h]at e<;>cases e):p:=h
def aHp{p:Prop}(h:p:=by exact λ_ e=>by omega):p:=h
def aHt{p:Prop}(h:p:=by rw[HL.o];omega):p:=h
def aHv{p:Prop}(h:p:=by exact λk hk=>⟨by omega,by omega,by omega⟩):p:=h
def aHx{p:Prop}(h:p:=by have:=Array.mem_of_getElem? hf;simpa using this):p:=h
def aHB{p:Prop}(h:p:=by simpa using he):p:=h
def aHC{p:Prop}(h:p:=by exact λj hj=>⟨by omega,by rw[ab,ab,cM]⟩):p:=h
def aHE{p:Prop}(h:p:=by exact λa' Iu e=>by cases e):p:=h
def aHF{p:Prop}(h:p:=by have:=k.gt;omega):p:=h
def aHI{p:Prop}(h:p:=by exact λij=>by subst ij;rw[ig]at e;cases e):p:=h
def aHO{p:Prop}(h:p:=by simp[Value.oneCell']):p:=h
def aHR{p:Prop}(h:p:=by unfold Tw;omega):p:=h
def aHS{p:Prop}(h:p:=by split<;>first|(rename_i e;subst e;rfl)|rfl):p:=h
def aHT{p:Prop}(h:p:=by exact λg hg=>by cases hg):p:=h
def aHU{p:Prop}(h:p:=by exact λd hd=>by cases hd):p:=h
def aHV{p:Prop}(h:p:=by exact λb hb=>by cases hb):p:=h
def aH2{p:Prop}(h:p:=by rcases SX with h|h<;>rw[h]at e<;>cases e):p:=h
def aH3{p:Prop}(h:p:=by simpa using gV):p:=h
def aH6{p:Prop}(h:p:=by unfold Wr.script;rw[hx,Wr.R.jq,hx2];rfl):p:=h
def aH8{p:Prop}(h:p:=by rw[gQ,je]):p:=h
def aH9{p:Prop}(h:p:=by exact λc hk n e=>by subst e;cases hk):p:=h
def aId{p:Prop}(h:p:=by rw[jw (a:=P) rfl,hi];rfl):p:=h
def aIA{p:Prop}(h:p:=by exact λh=>h.2.1 rfl):p:=h
def aIH{p:Prop}(h:p:=by simp[Region.wanted,hg]):p:=h
def aIN{p:Prop}(h:p:=by show¬_=_;omega):p:=h
def aIO{p:Prop}(h:p:=by rw[Value.cells,az,je]):p:=h
def aIP{p:Prop}(h:p:=by have:=B3.o.size;omega):p:=h
def aIW{p:Prop}(h:p:=by simp[jS];omega):p:=h
def aI3{p:Prop}(h:p:=by rw[hq4];exact hWq.o):p:=h
def aI4{p:Prop}(h:p:=by have:=rE.size;omega):p:=h
def aI5{p:Prop}(h:p:=by have:=I.jU.le;omega):p:=h
def aJd{p:Prop}(h:p:=by simpa using hv):p:=h
def aJe{p:Prop}(h:p:=by simpa using hj):p:=h
end Go.Proofs.YtlpcjiollnnmgabGreatDoor
