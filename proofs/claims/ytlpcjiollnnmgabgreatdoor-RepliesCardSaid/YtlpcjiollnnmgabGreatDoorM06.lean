import Derived.Test.YtlpcjiollnnmgabGreatDoorMZ
import Derived.Lib.Hide
import Derived.WalkSpells
import Derived.WalkLawsBesides
import Derived.Deep.DeepCutAuto
import Derived.Deep.RegionHeld3
import Derived.BigQuiet
import Derived.StillTailTactics
import Derived.Test.YtlpcjiollnnmgabGreatDoorRows
import Derived.Laws.CopyOwn
set_option maxRecDepth 100000
set_option maxHeartbeats 8000000
set_option linter.all false
namespace Go.Proofs.YtlpcjiollnnmgabGreatDoor
open Go.Proofs.Tryz
def fb:=@Go.World.cell?_of_block
def fc:=@Go.World.ownsRow_nil
def fe:=@Go.wpQuiet_nil
def fg:=@Go.wpAnyH_done
def fp:=@Go.Proofs.Tryz.underlying9
def fq:=@Go.Proofs.Tryz.underlying35
def fu:=@Go.Proofs.Tryz.underlying5
def fy:=@Go.info_parts
def fA:=@Go.Proofs.Tryz.underlying76
def fC:=@Go.Proofs.Tryz.underlying25
def fD:=@Go.IntKind.wrap_u64
def fE:=@Go.below_drewN
def fF:=@Go.IntWalk.i64_in
def fG:=@Go.Proofs.Tryz.underlying78
def fH:=@Go.results_cell_row
def fI:=@Go.setRow_other
def fJ:=@Go.Addr.add_lit
def fK:=@Go.Proofs.Tryz.underlying87
def fL:=@Go.Proofs.Tryz.underlying109
def fN:=@Go.results_none
def fO:=@Go.run_underlying
def fP:=@Go.block_lt_of_cell
def fR:=@Go.results_tmp
def fS:=@Go.leaves_cons
def fT:=@Go.Proofs.Tryz.underlying42
def fU:=@Go.Proofs.Tryz.underlying39
def fV:=@Go.run_loadAt_mid
def fW:=@Go.IntKind.wrap_u32'
def fX:=@Go.callsD_of_wpS
def fY:=@Go.wpList_append_own_at
def fZ:=@Go.Proofs.Tryz.underlying22
def gd:=@Go.Proofs.Tryz.func149
def gn:=@Go.IntKind.wrap_u8'
def gq:=@Go.wpS_region
def gr:=@Go.wpList_plain
def gu:=@Go.ownsRow_setCell_other
def gy:=@Go.wpS_of_wp
def gz:=@Go.Proofs.Tryz.func115
def t0125{p:Prop}(h:p:=by rw[bp h,Int.fdiv_eq_ediv_of_nonneg _ (dJ ψ),Int.natCast_ediv,dx];rfl):p:=h
def t0120{p:Prop}(h:p:=by rw[show min y.toNat IntKind.u32.bits=y.toNat from cO (show y.toNat<=32 by omega)]):p:=h
section
def Y(x:UInt8):Int:=(x.toNat:Int)
def V(x:UInt32):Int:=(x.toNat:Int)
def U(x:UInt64):Int:=(x.toNat:Int)
namespace iz
def shl(x:UInt64)(n:Nat):UInt64:=UInt64.ofNat (x.toNat*2^n)
def shr(x:UInt64)(n:Nat):UInt64:=UInt64.ofNat (x.toNat/2^n)
def rotl(x:UInt64)(n:Nat):UInt64:=shl x n ||| shr x (64-n)
def rJ(x:UInt32)(n:Nat):UInt32:=UInt32.ofNat (x.toNat*2^n)
def mA(x:UInt32)(n:Nat):UInt32:=UInt32.ofNat (x.toNat/2^n)
def ku(x:UInt32)(n:Nat):UInt32:=mA x n ||| rJ x (32-n)
def amh x:0<=U x/\U x<18446744073709551616:=by have:=x.toNat_lt;unfold U;omega
def DY x:0<=V x/\V x<4294967296:=by have:=x.toNat_lt;unfold V;omega
def Mf x:0<=Y x/\Y x<256:=by have:=x.toNat_lt;unfold Y;omega
def aep{x y}(h:U x=U y):x=y:=by unfold U at h;exact dk.1 ω
def aji{x y}(h:V x=V y):x=y:=by unfold V at h;exact UInt32.toNat_inj.1 ω
def aem{x y}(h:Y x=Y y):x=y:=by unfold Y at h;exact cg.1 ω
@[go_sem] def az8 x y:(U x==U y)=(x==y):=by rw[cQ];simp only[beq_iff_eq];exact⟨aep,λh=>by rw[h]⟩
@[go_sem] def az3 x y:(Y x==Y y)=(x==y):=by rw[cQ];simp only[beq_iff_eq];exact⟨aem,λh=>by rw[h]⟩
@[go_sem] def az4 x y:(V x==V y)=(x==y):=by rw[cQ];simp only[beq_iff_eq];exact⟨aji,λh=>by rw[h]⟩
@[go_sem] def atm x:((x.toNat:Nat):Int)=Y x:=rfl
def oO n:U (UInt64.ofNat n)=((n % 18446744073709551616:Nat):Int):=by unfold U;rw[aT]
def k6(n:Nat):IntKind.u64.wrap (n:Int)=U (UInt64.ofNat n):=by rw[fD,oO];omega
@[go_sem] def afS x y:IntKind.u64.wrap (U x+U y)=U (x+y):=by rw[fD];unfold U;rw[UInt64.toNat_add];omega
def afR x y:IntKind.u64.wrap (U x*U y)=U (x*y):=by rw[fD];unfold U;rw[UInt64.toNat_mul];omega
@[go_sem] def afO x y:IntKind.u64.wrap (U x-U y)=U (x-y):=by rw[fD];unfold U;rw[UInt64.toNat_sub];have:=x.toNat_lt;have:=y.toNat_lt;omega
@[go_sem] def aaH x y:bits .xor .u64 (U x) (U y)=U (x ^^^ y):=by unfold U;rw[u64_xor_nat _ _ x.toNat_lt y.toNat_lt,UInt64.toNat_xor]
@[go_sem] def afQ x y:bits .or .u64 (U x) (U y)=U (x ||| y):=by unfold U;rw[u64_or_nat _ _ x.toNat_lt y.toNat_lt,UInt64.toNat_or]
@[go_sem] def aaI x y:bits .and .u64 (U x) (U y)=U (x&&&y):=by unfold U;rw[u64_and_nat _ _ x.toNat_lt y.toNat_lt,UInt64.toNat_and]
@[go_sem] def afP x n:IntKind.u64.wrap (U x*2^n)=U (shl x n):=by rw[fD];unfold shl;rw[oO,ef,ei,dx];rfl
def Ux x n:(U x).fdiv (2^n)=U (shr x n):=by unfold shr;rw[oO];unfold U;have h:x.toNat/2^n<18446744073709551616:=dS (eh _ _) x.toNat_lt;exact t0125
@[go_sem] def aod x n:U x/2^n=U (shr x n):=by rw[<-Ux,Int.fdiv_eq_ediv_of_nonneg _ (dJ ψ)]
def UP x n(h:64<=n):shl x n=0:=by
 unfold shl;have:x.toNat*2^n=18446744073709551616*(x.toNat*2^ (n-64)):=by have e:n=64+(n-64):=ω;rw[e,eZ];simp only[Nat.add_sub_cancel_left];show x.toNat*(18446744073709551616*2^ (n-64))=_;rw[Nat.mul_left_comm]
 apply dk.1;rw[aT,this];exact Nat.mul_mod_right _ _
def UO x n(h:64<=n):shr x n=0:=by
 unfold shr;have:x.toNat/2^n=0:=by apply Nat.div_eq_of_lt;exact ay x.toNat_lt (bG ψ h)
 rw[this];rfl
def lO(y:Int):UInt64:=UInt64.ofNat (y % 18446744073709551616).toNat
def rk y:U (lO y)=y % 18446744073709551616:=by unfold lO;rw[oO];omega
@[go_sem] def ax8 x:lO (U x)=x:=by apply aep;rw[rk];have:=amh x;omega
@[go_sem] def ar8 (n:Nat):lO (n:Int)=UInt64.ofNat n:=by apply aep;rw[rk,oO];omega
def YN y:BitVec.ofInt 64 (U (lO y))=BitVec.ofInt 64 y:=by apply BitVec.eq_of_toNat_eq;rw[dV,dV,rk];have e:((2^64:Nat):Int)=18446744073709551616:=rfl;rw[e,eV]
def Hl op x y:bits op .u64 x (U (lO y))=bits op .u64 x y:=by have e':BitVec.ofInt IntKind.u64.bits (U (lO y))=BitVec.ofInt IntKind.u64.bits y:=YN y;unfold bits;rw[e']
section
variable(t:TypeId)(x:UInt64)(y:Int)
@[go_sem high] def aj7:binOp .xor t (.int .u64 (U x)) (.int .u64 y)=pure (.int .u64 (U (x ^^^ lO y))):=by rw[<-aaH,Hl];rfl
@[go_sem high] def am7:binOp .or t (.int .u64 (U x)) (.int .u64 y)=pure (.int .u64 (U (x ||| lO y))):=by rw[<-afQ,Hl];rfl
@[go_sem high] def akc:binOp .and t (.int .u64 (U x)) (.int .u64 y)=pure (.int .u64 (U (x&&&lO y))):=by rw[<-aaI,Hl];rfl
@[go_sem high] def akd:binOp .add t (.int .u64 (U x)) (.int .u64 y)=pure (.int .u64 (U (x+lO y))):=by
 have e:IntKind.u64.wrap (U x+y)=U (x+lO y):=by rw[<-afS,fD,fD,rk];omega
 simp only[binOp,Op.intArith,e];rfl
@[go_sem high] def aj8:binOp .sub t (.int .u64 y) (.int .u64 (U x))=pure (.int .u64 (U (lO y-x))):=by
 have e:IntKind.u64.wrap (y-U x)=U (lO y-x):=by rw[<-afO,fD,fD,rk];omega
 simp only[binOp,Op.intArith,e];rfl
@[go_sem high] def akb:binOp .mul t (.int .u64 (U x)) (.int .u64 y)=pure (.int .u64 (U (x*lO y))):=by
 have e:IntKind.u64.wrap (U x*y)=U (x*lO y):=by rw[<-afR,fD,fD,rk,Int.mul_emod,Int.mul_emod (U x) (y % _),eV]
 simp only[binOp,Op.intArith,e];rfl
@[go_sem high] def aka yk (h:0<=y):binOp .shl t (.int .u64 (U x)) (.int yk y)=pure (.int .u64 (U (shl x y.toNat))):=by simp only[binOp,Op.shift,if_neg (show¬y<0 by omega),afP];by_cases c:y.toNat<=64;rw[show min y.toNat IntKind.u64.bits=y.toNat from cO c];rw[show min y.toNat IntKind.u64.bits=64 from dZ (eJ (eQ c)),UP x 64 ω,UP x y.toNat ω]
@[go_sem high] def aj9 yk (h:0<=y):binOp .shr t (.int .u64 (U x)) (.int yk y)=pure (.int .u64 (U (shr x y.toNat))):=by simp only[binOp,Op.shift,if_neg (show¬y<0 by omega),Ux];by_cases c:y.toNat<=64;rw[show min y.toNat IntKind.u64.bits=y.toNat from cO c];rw[show min y.toNat IntKind.u64.bits=64 from dZ (eJ (eQ c)),UO x 64 ω,UO x y.toNat ω]
end
@[go_sem] def arE x:0<=U x:=(amh x).1
@[go_sem] def arD x:0<=V x:=(DY x).1
@[go_sem] def arC x:0<=Y x:=(Mf x).1
@[go_sem] def ain b:IntKind.u64.wrap (Y b)=U b.toUInt64:=by unfold Y;rw[k6];congr 1;apply dk.1;simp
@[go_sem] def ajG (n:Nat):IntKind.u64.wrap (n:Int)=U (UInt64.ofNat n):=k6 n
@[go_sem low] def ajH y:IntKind.u64.wrap y=U (lO y):=by rw[fD,rk]
@[go_sem] def ajF x:IntKind.u64.wrap (U x)=U x:=by have:=amh x;rw[fD];omega
@[go_sem] def am1 (n:Nat):IntKind.u8.wrap (n:Int)=Y (UInt8.ofNat n):=by rw[gn];unfold Y;rw[cK];omega
@[go_sem] def amZ x:IntKind.u8.wrap (U x)=Y x.toUInt8:=by rw[gn];unfold Y U;rw[ep];omega
@[go_sem] def aoc x:IntKind.u8.wrap (Y x)=Y x:=by have:=Mf x;rw[gn];omega
@[go_sem] def anc x:IntKind.i64.wrap (Y x)=Y x:=by have:=Mf x;exact fF _ ω
def aeo n:V (UInt32.ofNat n)=((n % 4294967296:Nat):Int):=by unfold V;rw[UInt32.toNat_ofNat']
def XS(y:Int):UInt32:=UInt32.ofNat (y % 4294967296).toNat
def aen y:V (XS y)=y % 4294967296:=by unfold XS;rw[aeo];omega
@[go_sem] def ax7 x:XS (V x)=x:=by apply aji;rw[aen];have:=DY x;omega
def Oa y:BitVec.ofInt 32 (V (XS y))=BitVec.ofInt 32 y:=by apply BitVec.eq_of_toNat_eq;rw[dV,dV,aen];have e:((2^32:Nat):Int)=4294967296:=rfl;rw[e,eV]
def Hk op x y:bits op .u32 x (V (XS y))=bits op .u32 x y:=by have e':BitVec.ofInt IntKind.u32.bits (V (XS y))=BitVec.ofInt IntKind.u32.bits y:=Oa y;unfold bits;rw[e']
@[go_sem] def MB x y:bits .xor .u32 (V x) (V y)=V (x ^^^ y):=by unfold V;rw[u32_xor_nat _ _ x.toNat_lt y.toNat_lt,UInt32.toNat_xor]
@[go_sem] def afT x y:bits .or .u32 (V x) (V y)=V (x ||| y):=by unfold V;rw[u32_or_nat _ _ x.toNat_lt y.toNat_lt,dN]
@[go_sem] def aaJ x y:bits .and .u32 (V x) (V y)=V (x&&&y):=by unfold V;rw[u32_and_nat _ _ x.toNat_lt y.toNat_lt,eP]
def Uz x n:IntKind.u32.wrap (V x*2^n)=V (rJ x n):=by rw[fW];unfold rJ;rw[aeo,ef,ei,dx];rfl
def Uy x n:(V x).fdiv (2^n)=V (mA x n):=by unfold mA;rw[aeo];unfold V;have h:x.toNat/2^n<4294967296:=dS (eh _ _) x.toNat_lt;exact t0125
def SH(x:UInt32)(n:Nat):Int:=V x*2^n
def SM:List UInt32->Int
 |[]=>0|x::l=>V x+SM l
def kI:List UInt32->UInt32
 |[]=>0|x::l=>x+kI l
theorem Wm:∀l,0<=SM l/\SM l<=4294967296*(l.length:Int)
 |[]=>by simp[SM]|x::l=>by have:=Wm l;have:=DY x;simp only[SM,aq];omega
def Z0 l m:SM (l++m)=SM l+SM m:=by induction l with|nil=>simp[SM]|cons x l ih=>simp only[aU,SM,ih];omega
theorem aes:∀l,SM l % 4294967296=V (kI l)
 |[]=>rfl|x::l=>by
  have ih:=aes l;have h:V (x+kI l)=(V x+V (kI l)) % 4294967296:=by unfold V;rw[UInt32.toNat_add];omega
  simp only[SM,kI];rw[h,<-ih];omega
section
variable(t:TypeId)(x:UInt32)(y:Int)
@[go_sem high] def ake:binOp .xor t (.int .u32 (V x)) (.int .u32 y)=pure (.int .u32 (V (x ^^^ XS y))):=by rw[<-MB,Hk];rfl
@[go_sem high] def am8:binOp .or t (.int .u32 (V x)) (.int .u32 y)=pure (.int .u32 (V (x ||| XS y))):=by rw[<-afT,Hk];rfl
@[go_sem high] def akh:binOp .and t (.int .u32 (V x)) (.int .u32 y)=pure (.int .u32 (V (x&&&XS y))):=by rw[<-aaJ,Hk];rfl
@[go_sem high] def aki:binOp .add t (.int .u32 (V x)) (.int .u32 y)=pure (.int .u32 (V (x+XS y))):=by
 have e:IntKind.u32.wrap (V x+y)=V (x+XS y):=by
  have h:V (x+XS y)=(V x+V (XS y)) % 4294967296:=by unfold V;rw[UInt32.toNat_add];omega
  rw[h,fW,aen];omega
 simp only[binOp,Op.intArith,e];rfl
@[go_sem high] def akg yk (h:0<=y) (h':y<=32):binOp .shl t (.int .u32 (V x)) (.int yk y)=pure (.int .u32 (V (rJ x y.toNat))):=by simp only[binOp,Op.shift,if_neg (show¬y<0 by omega),Uz];exact t0120
@[go_sem high] def akf yk (h:0<=y) (h':y<=32):binOp .shr t (.int .u32 (V x)) (.int yk y)=pure (.int .u32 (V (mA x y.toNat))):=by simp only[binOp,Op.shift,if_neg (show¬y<0 by omega),Uy];exact t0120
def qF x:(BitVec.ofInt 64 (V x)).toNat=x.toNat:=by unfold V;rw[BitVec.ofInt_natCast,BitVec.toNat_ofNat];exact bp (by have:=x.toNat_lt;omega)
def Ez x:IntKind.i64.wrap (x.toNat:Int)=V x:=by have:=x.toNat_lt;exact fF _ ω
@[go_sem] def aoP x y:bits .xor .i64 (V x) (V y)=V (x ^^^ y):=by show IntKind.i64.wrap ((BitVec.ofInt 64 (V x) ^^^ BitVec.ofInt 64 (V y)).toNat:Int)=_;rw[BitVec.toNat_xor,qF,qF,<-UInt32.toNat_xor,Ez]
@[go_sem] def asn x y:bits .or .i64 (V x) (V y)=V (x ||| y):=by show IntKind.i64.wrap ((BitVec.ofInt 64 (V x) ||| BitVec.ofInt 64 (V y)).toNat:Int)=_;rw[BitVec.toNat_or,qF,qF,<-dN,Ez]
@[go_sem] def acv x y:bits .and .i64 (V x) (V y)=V (x&&&y):=by show IntKind.i64.wrap ((BitVec.ofInt 64 (V x)&&&BitVec.ofInt 64 (V y)).toNat:Int)=_;rw[BitVec.toNat_and,qF,qF,<-eP,Ez]
@[go_sem] def aoQ x:bits .and .i64 (V x) 4294967295=V x:=by have h:=acv x 4294967295;have e:V 4294967295=4294967295:=rfl;rw[e]at h;rw[h];congr 1;apply UInt32.toNat_inj.1;rw[eP];have:=x.toNat_lt;exact Nat.and_two_pow_sub_one_of_lt_two_pow (n:=32) this
@[go_sem high] def akl yk (h:0<=y) (h':y<=32):binOp .shr t (.int .i64 (V x)) (.int yk y)=pure (.int .i64 (V (mA x y.toNat))):=by simp only[binOp,Op.shift,if_neg (show¬y<0 by omega),Uy];rw[show min y.toNat IntKind.i64.bits=y.toNat from cO (show y.toNat<=64 by omega)]
@[go_sem high] def akm yk (h:0<=y) (h':y<=30):binOp .shl t (.int .i64 (V x)) (.int yk y)=pure (.int .i64 (SH x y.toNat)):=by
 simp only[binOp,Op.shift,if_neg (show¬y<0 by omega)];rw[show min y.toNat IntKind.i64.bits=y.toNat from cO (show y.toNat<=64 by omega)];have hb:V x*2^y.toNat<=4294967296*1073741824:=by
  have h1:=DY x;have h2:(2:Int)^y.toNat<=1073741824:=by have:(2:Nat)^y.toNat<=2^30:=bG ψ ω;have h3:((2^y.toNat:Nat):Int)<=((2^30:Nat):Int):=Int.ofNat_le.2 this;rw[dx]at h3;exact h3
  exact Int.mul_le_mul ω h2 (dJ ψ) ψ
 have h0:0<=V x*2^y.toNat:=Int.mul_nonneg (DY x).1 (dJ ψ);rw[fF _ ω];rfl
@[go_sem high] def agu n:binOp .rem t (.int .i64 (SH x n)) (.int .i64 4294967296)=pure (.int .i64 (V (rJ x n))):=by
 have h0:0<=SH x n:=Int.mul_nonneg (DY x).1 (dJ ψ);have e:(SH x n).tmod 4294967296=V (rJ x n):=by rw[df h0,<-Uz,fW];rfl
 simp only[binOp,Op.intDiv,e];rfl
@[go_sem high] def aiD x y:binOp .add t (.int .i64 (V x)) (.int .i64 (V y))=pure (.int .i64 (SM [x,y])):=by
 have e:IntKind.i64.wrap (V x+V y)=SM [x,y]:=by have:=DY x;have:=DY y;simp only[SM];rw[fF _ ω];omega
 simp only[binOp,Op.intArith,e];rfl
@[go_sem high] def aiC l y (h:l.length<=1000):binOp .add t (.int .i64 (SM l)) (.int .i64 (V y))=pure (.int .i64 (SM (l++[y]))):=by
 have e:IntKind.i64.wrap (SM l+V y)=SM (l++[y]):=by have:=Wm l;have:=DY y;rw[Z0];simp only[SM];rw[fF _ ω];omega
 simp only[binOp,Op.intArith,e];rfl
@[go_sem high] def aiB l y (h:l.length<=1000):binOp .add t (.int .i64 (V y)) (.int .i64 (SM l))=pure (.int .i64 (SM (y::l))):=by
 have e:IntKind.i64.wrap (V y+SM l)=SM (y::l):=by have:=Wm l;have:=DY y;simp only[SM];rw[fF _ ω]
 simp only[binOp,Op.intArith,e];rfl
@[go_sem high] def agt l:binOp .rem t (.int .i64 (SM l)) (.int .i64 4294967296)=pure (.int .i64 (V (kI l))):=by
 have e:(SM l).tmod 4294967296=V (kI l):=by rw[df (Wm l).1,aes]
 simp only[binOp,Op.intDiv,e];rfl
@[go_sem high] def akn:binOp .sub t (.int .i64 4294967295) (.int .i64 (V x))=pure (.int .i64 (V (~~~x))):=by
 have e:IntKind.i64.wrap (4294967295-V x)=V (~~~x):=by have:=DY x;rw[fF _ ω];unfold V;rw[UInt32.toNat_not];have:=x.toNat_lt;have hs:UInt32.size=4294967296:=rfl;omega
 simp only[binOp,Op.intArith,e];rfl
def abP x:(4294967295:UInt32) ^^^ x= ~~~x:=by rw[show(4294967295:UInt32)= -1 from rfl,UInt32.neg_one_xor]
@[go_sem high] def ar6:Op.unary .xor (.int .u32 (V x))=pure (.int .u32 (V (~~~x))):=by rw[<-abP,<-MB];rfl
end
@[go_sem] def aio b:IntKind.u32.wrap (Y b)=V b.toUInt32:=by have:=b.toNat_lt;rw[fW];unfold Y V;rw[eo];omega
@[go_sem] def ajI x:IntKind.u32.wrap (V x)=V x:=by have:=DY x;rw[fW];omega
@[go_sem] def am0 x:IntKind.u8.wrap (V x)=Y x.toUInt8:=by rw[gn];unfold Y V;rw[UInt32.toNat_toUInt8];omega
def Cv{P id Q a w}{l:List Oper} n(hm:P.follows .mixedOrders=true)(hB:Region.lexTailB .any l.toArray n=true) (h:wpStill P l.toArray w.drew (λa'=>wpList P l.toArray Q (l.drop n) a' w.drew) (l.take n) a):(Code.region id l.toArray true).wp P Q a w:=wp_region_still_tail n hm hB h
def om(a:Act) n v(h:n<a.tmps.size):(a.put (some n) v).eval (.tmp n)=v:=by simp[Act.put,Act.eval,h]
def oS(a:Act) n m v(h:n≠m):(a.put (some n) v).eval (.tmp m)=a.eval (.tmp m):=by simp[Act.put,Act.eval,h]
def qO(a:Act) n v:(a.put (some n) v).tmps.size=a.tmps.size:=by simp[Act.put]
section
variable{P:Program}{ops:Array Oper}{w:World}{Q:Act->Prop}{a:Act}{o:Oper}{rest:List Oper}
def qz(hg:o.guard=none){v}(hr:(execOp a.eval o).run P w=.ok (.value v) w)(h:wpStill P ops w Q rest (a.put o.dst v)):wpStill P ops w Q (o::rest) a:=by unfold wpStill;rw[if_pos aIH];unfold Oper.still;rw[hr];exact⟨rfl,h⟩
def MP(hg:o.guard=none){v f args}(hr:(execOp a.eval o).run P w=.ok (.enter f args) w) (hc:Calls P f args w λe tK=>e=.returned v/\tK=w) (h:wpStill P ops w Q rest (a.put o.dst v)):wpStill P ops w Q (o::rest) a:=by unfold wpStill;rw[if_pos aIH];unfold Oper.still;rw[hr];exact⟨rfl,v,hc,h⟩
def qV{ops Q w'}(hg:o.guard=none){v}(hr:(execOp a.eval o).run P w=.ok (.value v) w')(h:wpList P ops Q rest (a.put o.dst v) w'):wpList P ops Q (o::rest) a w:=by refine gr hg λK hK=>?_;unfold Oper.wp;rw[hr];exact hK _ _ h
def JL{ops Q w'}(hg:o.guard=none)(hr:(execOp a.eval o).run P w=.ok .skip w')(h:wpList P ops Q rest (a.put o.dst undef) w'):wpList P ops Q (o::rest) a w:=by refine gr hg λK hK=>?_;unfold Oper.wp;rw[hr];exact hK _ _ h
end
def str(l:List UInt8):ByteArray:=⟨l.toArray⟩
def nth(l:List UInt8)(i:Nat):UInt8:=l.getD i 0
@[go_sem] def am3 l:ByteArray.mk l.toArray=str l:=rfl
@[go_sem] def EK l:(str l).toList=l:=ByteArray.toList_mk l
@[go_sem] def nf l:(str l).size=l.length:=by simp[str,ByteArray.size]
def af0 l i(h:i< (str l).size):(str l)[i]=nth l i:=by
 have h':i<l.length:=by rw[nf]at h;exact h
 unfold nth;rw[ab,ag h'];rfl
def QP a b:str a++str b=str (a++b):=ByteArray.mk_append_mk a b
def vg l a b:(str l).extract a b=str ((l.drop a).take (b-a)):=ByteArray.extract_mk l a b
section
variable{P:Program}(w:World)
@[go_sem high] def ags t l k i (h:P.underlying t=some .string):(Instr.index t (.string (str l)) (.int k i)).run P w =if 0<=i/\i< (l.length:Int)then .ok (.int .u8 (Y (nth l i.toNat))) w else(boundsPanic k i l.length .index).run P w:=by rw[run_index_string w t _ k i h];simp only[nf];split;rename_i hi;rw[af0];rfl;rfl
@[go_sem high] def aiA t l k i (h:P.underlying t=some .string):(Instr.slice t (.string (str l)) (some (.int k i)) none none).run P w =if 0<=i/\i<=(l.length:Int)then .ok (.string (str (l.drop i.toNat))) w else((boundsPanic k i l.length .sliceB:Sem Nat).run P w).andThen λa w'=>.ok (.string (str (l.drop a))) w':=by rw[run_slice_string_from_if w t _ k i h];simp only[nf,vg];have e:∀a,(l.drop a).take (l.length-a)=l.drop a:=λa=>au ζ;simp only[e]
@[go_sem high] def am9 t l k j (h:P.underlying t=some .string):(Instr.slice t (.string (str l)) none (some (.int k j)) none).run P w =if 0<=j/\j<=(l.length:Int)then .ok (.string (str (l.take j.toNat))) w else((boundsPanic k j l.length .sliceAlen:Sem Nat).run P w).andThen λa w'=>.ok (.string (str (l.take a))) w':=by rw[run_slice_string_to_if w t _ k j h];simp only[nf,vg,bB,eH]
@[go_sem high] def akj t l k k' i j (h:P.underlying t=some .string) :
  (Instr.slice t (.string (str l)) (some (.int k i)) (some (.int k' j)) none).run P w =
   if 0<=j/\j<=(l.length:Int)then
    (if 0<=i/\i<=j then .ok (.string (str ((l.drop i.toNat).take (j.toNat-i.toNat)))) w
     else((boundsPanic k i j.toNat .sliceB:Sem Nat).run P w).andThen λa w'=>.ok (.string (str ((l.drop a).take (j.toNat-a)))) w')
   else((boundsPanic k' j l.length .sliceAlen:Sem Nat).run P w).andThen λb w'=>
    ((Instr.sliceBound (.int k i) b .sliceB).run P w').andThen λa tK=>.ok (.string (str ((l.drop a).take (b-a)))) tK:=by
 rw[run_slice_string_if w t _ k k' i j h];simp only[nf,vg]
@[go_sem high] def akk a b:(Op.stringOp .add (str a) (str b)).run P w =if a.length+b.length>9223372036854775807 then .halt (.unsupported (.resourceLimit "string concatenation: a sum of the lengths that is no int")) w else .ok (.string (str (a++b))) w:=by rw[run_string_add_if];simp only[nf,QP]
end
def oZ{P} w src dst e b o cap l(hs:P.underlying src=some (.slice e))(he:P.underlying e=some (.int .u8))(hd:P.underlying dst=some .string) (hc:∀j,j<l.length->w.cell? ⟨b,o+j,none⟩=some (.int .u8 (Y (nth l j)))):(convert src dst (.slice (some ⟨b,o,none⟩) l.length cap)).run P w=.ok (.string (str l)) w:=by refine run_convert_bytes_back w src dst e _ cap l hs he hd λj hj=>?_;rw[fJ,hc j hj];unfold nth;rw[ab,ag hj];rfl
@[go_sem high] def adQ {P} (w:World) src dst e x (hs:P.underlying src=some (.slice e)) (he:P.underlying e=some (.int .u8)) (hd:P.underlying dst=some .string):(convert src dst (.slice (some ⟨w.heap.size,0,none⟩) 1 1)).run P (w.alloc (.cells #[.int .u8 (Y x)] e))=.ok (.string (str [x])) (w.alloc (.cells #[.int .u8 (Y x)] e)):=oZ _ src dst e _ 0 1 [x] hs he hd λj hj=>by obtain rfl:j=0:=aGx;rw[World.cell?_alloc_new];rfl
end iz
def Vo:∀(fn:Fn)(first cap:Array Value)(w:World),(Instr.makeFunc fn first cap).run prog w=.ok (.func fn first cap) w:=λ_ _ _ _=>rfl
end
def t064{p:Prop}(h:p:=by intro hr;rw[fh]at hr;cases hs:s.run P w with|ok v w1=>rw[hs]at hr;exact h v w1 hr|halt x w1=>rw[hs]at hr;simp[Result.andThen]at hr):p:=h
def t059{p:Prop}(h:p:=by intro h;rw[fh]at h;cases hr:s.run P w with|ok v w1=>rw[hr]at h;simp[Result.andThen,fj]at h|halt x w1=>rw[hr]at h;simp[Result.andThen]at h):p:=h
section
open iz
namespace gI
def plain:Op->Bool
 |.move _|.assign _|.load _ _|.binOp _ _ _ _ _|.unOp _ _ _|.convert _ _ _|.fieldAddr _ _ _|.indexAddr _ _ _|.index _ _ _|.nilCheck _|.slice _ _ _ _ _|.build _ _=>true|_=>false
def ab4{P w w' s f args}:(s >>= λv=>pure (Next.value v):Sem Next).run P w≠.ok (.enter f args) w':=by exact t059
def LK{α P w w' s}{g:α->Sem Next}{f args}(h:∀v w1,(g v).run P w1≠.ok (.enter f args) w'):(s >>= g).run P w≠.ok (.enter f args) w':=by exact t064
def wH{P w w' v f args}:(pure (Next.value v):Sem Next).run P w≠.ok (.enter f args) w':=by simp[fj]
def akr{P w w' x f args o y ev}(ho:o.op=.nilCheck y)(hx:ev y=x):(execOp ev o).run P w≠.ok (.enter f args) w':=by intro hr;unfold execOp at hr;simp only[ho,hx]at hr;split at hr;simp[runtimePanic]at hr;simp[runtimePanic]at hr;simp[runtimePanic]at hr;split at hr;simp[runtimePanic]at hr;refine LK (λv w1=>?_) hr;refine LK (λv2 w2=>?_);split;exact LK (λv3 w3=>wH);exact wH;exact wH hr;exact wH hr
def NK{P ev o w w' f args}(h:plain o.op=true):(execOp ev o).run P w≠.ok (.enter f args) w':=by
 cases ho:o.op<;>rw[ho]at h<;>simp only[plain,Bool.false_eq_true]at h;case nilCheck x=>exact akr ho rfl
 all_goals (unfold execOp;simp only[ho];first|exact wH|exact ab4)
def EL{P}{o:Oper}{a C w K}(hp:plain o.op=true)(hC:C w)(h:o.quiet P a C K):o.still P a w K:=by
 obtain⟨v,h1,h2⟩:=h;have h3:=h1 w hC;unfold Oper.quietAt at h3;unfold Oper.still;have iZ:=λf args w'=>NK (P:=P) (ev:=a.eval) (o:=o) (w:=w) (w':=w') (f:=f) (args:=args) hp;generalize(execOp a.eval o).run P w=r at *;cases r with
 |ok n w'=>
 cases n<;>simp only[Oper.quietUpon]at h3<;>simp only[Oper.stillUpon];case value u=>obtain⟨e1,rfl⟩:=h3;exact⟨e1,h2⟩
 case skip=>obtain⟨e1,rfl⟩:=h3;exact⟨e1,h2⟩
 case enter f args=>exact absurd rfl (iZ f args w')
 |halt x w'=>simp only[Oper.quietUpon]at h3
theorem lz{P ops C w Q}(hC:C w):∀l a,l.all (λo=>plain o.op)=true->wpQuiet P ops C Q l a->wpStill P ops w Q l a
 |[],_,_,h=>h|o::l,a,hp,h=>by simp only[bV,Bool.and_eq_true]at hp;unfold wpQuiet at h;unfold wpStill;split;rename_i hw;rw[if_pos hw]at h;exact Oper.still_mono (λa' h'=>lz hC l a' hp.2 h') (EL hp.1 hC h);rename_i hw;rw[if_neg hw]at h;exact lz hC l _ hp.2 h
def tail{P id Q a w}{l:List Oper} n(hm:P.follows .mixedOrders=true)(hB:Region.lexTailB .any l.toArray n=true) (hp:(l.take n).all (λo=>plain o.op)=true) (h:wpQuiet P l.toArray (λw'=>∃m,w'=w.drewN m) (λa'=>wpList P l.toArray Q (l.drop n) a' w.drew) (l.take n) a):(Code.region id l.toArray true).wp P Q a w:=Cv n hm hB (lz ⟨1,rfl⟩ _ _ hp h)
end gI
def jg{P f args}{w:World}{a n v} (h:Calls P f args (w.drewN (a+n)) λe w'=>e=.returned v/\w.drewN (a+n)=w'):Calls P f args (w.drewN (a+n)) λe tK=>e=.returned v/\∃m,tK=w.drewN (a+m):=h.mono λ_ _ ⟨he,hm⟩=>⟨he,n,hm.symm⟩
end
section
open iz
namespace gP
structure H8 where
 (a b c d e f g h:UInt32)
def begin:H8:=⟨1779033703,3144134277,1013904242,2773480762,1359893119,2600822924,528734635,1541459225⟩
def rounds:List UInt32:=[1116352408,1899447441,3049323471,3921009573,961987163,1508970993,2453635748,2870763221,3624381080,310598401,607225278,1426881987,1925078388,2162078206,2614888103,3248222580,3835390401,4022224774,264347078,604807628,770255983,1249150122,1555081692,1996064986,2554220882,2821834349,2952996808,3210313671,3336571891,3584528711,113926993,338241895,666307205,773529912,1294757372,1396182291,1695183700,1986661051,2177026350,2456956037,2730485921,2820302411,3259730800,3345764771,3516065817,3600352804,4094571909,275423344,430227734,506948616,659060556,883997877,958139571,1322822218,1537002063,1747873779,1955562222,2024104815,2227730452,2361852424,2428436474,2756734187,3204031479,3329325298]
def nw(l:List UInt32)(i:Nat):UInt32:=l.getD i 0
def s0(x:UInt32):UInt32:=ku x 7 ^^^ ku x 18 ^^^ mA x 3
def s1(x:UInt32):UInt32:=ku x 17 ^^^ ku x 19 ^^^ mA x 10
def S0(x:UInt32):UInt32:=ku x 2 ^^^ ku x 13 ^^^ ku x 22
def S1(x:UInt32):UInt32:=ku x 6 ^^^ ku x 11 ^^^ ku x 25
def ch(e f g:UInt32):UInt32:=e&&&f ^^^ ~~~e&&&g
def maj(a b c:UInt32):UInt32:=a&&&b ^^^ a&&&c ^^^ b&&&c
def Mw(b:List UInt8)(i:Nat):UInt32:=rJ (nth b (4*i)).toUInt32 24 ||| rJ (nth b (4*i+1)).toUInt32 16 ||| rJ (nth b (4*i+2)).toUInt32 8 |||(nth b (4*i+3)).toUInt32
def first(b:List UInt8):Nat->List UInt32
 |0=>[]|n+1=>first b n++[Mw b n]
def next(w:List UInt32):UInt32:=nw w (w.length-16)+s0 (nw w (w.length-15))+nw w (w.length-7)+s1 (nw w (w.length-2))
def sched(b:List UInt8):Nat->List UInt32
 |0=>first b 16
 |n+1=>sched b n++[next (sched b n)]
def qo b n:(first b n).length=n:=by induction n with|zero=>rfl|succ n ih=>simp[first,ih]
def qc b n:(sched b n).length=16+n:=by induction n with|zero=>exact qo b 16|succ n ih=>simp[sched,ih];omega
def rnd(s:H8)(k w:UInt32):H8:=
 let t:=s.h+S1 s.e+ch s.e s.f s.g+k+w;let u:=S0 s.a+maj s.a s.b s.c
 ⟨t+u,s.a,s.b,s.c,s.d+t,s.e,s.f,s.g⟩
def E0(ws:List UInt32)(s:H8):Nat->H8
 |0=>s|n+1=>rnd (E0 ws s n) (nw rounds n) (nw ws n)
def plus(s t:H8):H8:=⟨s.a+t.a,s.b+t.b,s.c+t.c,s.d+t.d,s.e+t.e,s.f+t.f,s.g+t.g,s.h+t.h⟩
def block(s:H8)(b:List UInt8):H8:=plus s (E0 (sched b 48) s 64)
def blocks:Nat->H8->List UInt8->H8
 |0,s,_=>s|n+1,s,l=>block (blocks n s l) ((l.drop (64*n)).take 64)
def be4(x:UInt32):List UInt8:=[(mA x 24).toUInt8,(mA x 16).toUInt8,(mA x 8).toUInt8,x.toUInt8]
def out(s:H8):List UInt8:=be4 s.a++be4 s.b++be4 s.c++be4 s.d++be4 s.e++be4 s.f++be4 s.g++be4 s.h
def Kc(x:UInt64):List UInt8:=[(shr x 56).toUInt8,(shr x 48).toUInt8,(shr x 40).toUInt8,(shr x 32).toUInt8,(shr x 24).toUInt8,(shr x 16).toUInt8,(shr x 8).toUInt8,(shr x 0).toUInt8]
def lr(n:Nat):Nat:=(119-n % 64) % 64
def pad(l:List UInt8):List UInt8:=l++[128]++List.replicate (lr l.length) 0++Kc (UInt64.ofNat (8*l.length))
def sum(l:List UInt8):List UInt8:=out (blocks ((pad l).length/64) begin (pad l))
def nJ s:(out s).length=32:=rfl
def RV l:(pad l).length % 64=0:=by simp[pad,Kc,lr];omega
def IY n s l m(h:64*n<=l.length):blocks n s (l++m)=blocks n s l:=by induction n with|zero=>rfl|succ n ih=>rw[blocks,blocks,ih ω,cX ω,List.take_append_of_le_length aGB]
def YP l m j(h:j<l.length):nw (l++m) j=nw l j:=by unfold nw;rw[ab,ab,aP h]
def agy l i(h:i<l.length):l.drop i=nw l i::l.drop (i+1):=by rw[bo h];unfold nw;rw[ab,ag h];rfl
def Vh l i(h:i<l.length):l.take (i+1)=l.take i++[nw l i]:=by rw[ax h];unfold nw;rw[ab,ag h];rfl
def Vq(p s:List UInt32) i(hp:i<p.length):nw (p.take i++s.drop i) i=nw s i:=by have e:(p.take i).length=i:=aF1;unfold nw;rw[ab,aK ω,e,bh,cM,ab];rfl
def Vp(p s:List UInt32) i(hp:i<p.length)(hs:i<s.length):(p.take i++s.drop i).set i (nw p i)=p.take (i+1)++s.drop (i+1):=by have e:(p.take i).length=i:=aF1;rw[da _ _ ω,e,bh,agy s i hs,dA,Vh p i hp,aL];rfl
def MW{l i n m}{x:UInt32}(h:l.length=i)(hn:n=m+1):(l++List.replicate n 0).set i x=(l++[x])++List.replicate m 0:=by subst h hn;rw[da _ _ ν,bh,dO,dA,aL];rfl
def arq e f g:e&&&f ||| ~~~e&&&g=ch e f g:=by unfold ch;apply UInt32.eq_of_toBitVec_eq;simp only[UInt32.toBitVec_or,UInt32.toBitVec_and,UInt32.toBitVec_xor,UInt32.toBitVec_not];apply BitVec.eq_of_getLsbD_eq;intro i hi;simp only[BitVec.getLsbD_or,BitVec.getLsbD_and,BitVec.getLsbD_xor,BitVec.getLsbD_not,hi,decide_true,Bool.true_and];cases e.toBitVec.getLsbD i<;>cases f.toBitVec.getLsbD i<;>cases g.toBitVec.getLsbD i<;>rfl
def akx a b c:a&&&b ||| a&&&c ||| b&&&c=maj a b c:=by unfold maj;apply UInt32.eq_of_toBitVec_eq;simp only[UInt32.toBitVec_or,UInt32.toBitVec_and,UInt32.toBitVec_xor];apply BitVec.eq_of_getLsbD_eq;intro i hi;simp only[BitVec.getLsbD_or,BitVec.getLsbD_and,BitVec.getLsbD_xor];cases a.toBitVec.getLsbD i<;>cases b.toBitVec.getLsbD i<;>cases c.toBitVec.getLsbD i<;>rfl
end gP
end
def t029{p:Prop}(h:p:=by obtain⟨T,h⟩:=h;exact⟨T,by simp[World.setCell,bd,h]⟩):p:=h
section
open iz Go.RowKit
def Row(w:World)(b:Nat)(l:List Value):Prop:=∃T,w.heap[b]? =some (.cells l.toArray T)
namespace Row
variable{w:World}{b:Nat}{l:List Value}
def cell(h:Row w b l) i:w.cell? ⟨b,i,none⟩=l[i]?:=by obtain⟨T,h⟩:=h;simp[World.cell?,h]
def free(h:Row w b l) i:w.frozen? ⟨b,i,none⟩=false:=by obtain⟨T,h⟩:=h;simp[World.frozen?,h]
def set(h:Row w b l) i v:Row (w.setCell ⟨b,i,none⟩ v) b (l.set i v):=by exact t029
def other(h:Row w b l){a}(ha:a.block≠b) v:Row (w.setCell a v) b l:=by obtain⟨T,h⟩:=h;exact⟨T,by rw[ft _ _ _ _ (aG ha)];exact h⟩
def drew(h:Row w b l):Row w.drew b l:=h
def drewN(h:Row w b l) n:Row (w.drewN n) b l:=h
def lt(h:Row w b l):b<w.heap.size:=by obtain⟨T,h⟩:=h;exact(ae.1 h).1
def alloc(h:Row w b l) o:Row (w.alloc o) b l:=by have hl:=h.lt;obtain⟨T,h⟩:=h;exact⟨T,by rw[fM _ _ _ hl];exact h⟩
def below{B w'}(h:Row w b l)(hb:Below B w w')(hB:b<B):Row w' b l:=by obtain⟨T,h⟩:=h;exact⟨T,by rw[hb.block b hB];exact h⟩
def new(w:World) l T:Row (w.alloc (.cells l.toArray T)) w.heap.size l:=⟨T,by show(w.heap.push _)[w.heap.size]? =_;rw[dw]⟩
end Row
def nP(l:List UInt32):List Value:=l.map λx=>.int .u32 (V x)
def wA l i(h:i<l.length):(nP l)[i]? =some (.int .u32 (V (gP.nw l i))):=by unfold nP gP.nw;rw[aE,ab,ag h];rfl
def Kk l i x:(nP l).set i (.int .u32 (V x))=nP (l.set i x):=by unfold nP;rw[dD]
def Row.word{w b l}(h:Row w b (nP l)) i(hi:i<l.length):w.cell? ⟨b,i,none⟩=some (.int .u32 (V (gP.nw l i))):=by rw[h.cell,wA l i hi]
def w8(l:List UInt8):List Value:=l.map λx=>.int .u8 (Y x)
def pO l i(h:i<l.length):(w8 l)[i]? =some (.int .u8 (Y (nth l i))):=by unfold w8 nth;rw[aE,ab,ag h];rfl
def yq l i x:(w8 l).set i (.int .u8 (Y x))=w8 (l.set i x):=by unfold w8;rw[dD]
def Bytes(w:World)(b o:Nat)(l:List UInt8):Prop:=∀j,j<l.length->w.cell? ⟨b,o+j,none⟩=some (.int .u8 (Y (nth l j)))
structure iL(B S:Nat)(w w':World):Prop where
 os:w'.os=w.os
 tape:w'.tape=w.tape
 output:w'.output=w.output
 size:w.heap.size<=w'.heap.size
 block:∀k,k<B->k≠S->w'.heap[k]? =w.heap[k]?
namespace iL
variable{B S:Nat}{w w':World}
def refl B S w:iL B S w w:=⟨rfl,rfl,rfl,ν,λ_ _ _=>rfl⟩
theorem trans{tK}(h:iL B S w w')(k:iL B S w' tK):iL B S w tK:=⟨k.os.trans h.os,k.tape.trans h.tape,k.output.trans h.output,ak h.size k.size,λi hi hs=>(k.block i hi hs).trans (h.block i hi hs)⟩
def gL(h:Below B w w'):iL B S w w':=⟨h.os,h.tape,h.output,h.size,λk hk _=>h.block k hk⟩
theorem alloc(h:iL B S w w')(hB:B<=w'.heap.size) o:iL B S w (w'.alloc o):=h.trans (gL ((Below.refl _ _).alloc hB o))
theorem drew(h:iL B S w w'):iL B S w w'.drew:=h.trans (gL (Below.refl _ _).drew)
def drewN(h:iL B S w w') n:iL B S w (w'.drewN n):=h.trans (gL (fE (Below.refl _ _) n))
def jI(h:iL B S w w') i v:iL B S w (w'.setCell ⟨S,i,none⟩ v):=h.trans ⟨rfl,rfl,rfl,by simp[World.setCell],λk _ hs=>ft _ _ _ _ hs⟩
def mono{B'}(h:iL B S w w')(hB:B'<=B):iL B' S w w':=⟨h.os,h.tape,h.output,h.size,λk hk hs=>h.block k ω hs⟩
def row{b l}(h:iL B S w w')(hr:Row w b l)(hb:b<B)(hs:b≠S):Row w' b l:=by obtain⟨T,hr⟩:=hr;exact⟨T,by rw[h.block b hb hs];exact hr⟩
def bytes{b o l}(h:iL B S w w')(hr:Bytes w b o l)(hb:b<B)(hs:b≠S):Bytes w' b o l:=λj hj=>by rw[<-hr j hj];exact fb (w:=w) (h.block b hb hs)
def below(h:iL B S w w')(hS:B<=S):Below B w w':=⟨h.os,h.tape,h.output,h.size,λk hk=>h.block k hk ω⟩
end iL
def Bytes.below{B b o l w w'}(hr:Bytes w b o l)(h:Below B w w')(hb:b<B):Bytes w' b o l:=λj hj=>by rw[<-hr j hj];exact fb (w:=w) (h.block b hb)
end
section
open Go.RowKit iz
def mixed:prog.follows .mixedOrders=true:=κ
def Yi x k z n(hk:lO k&&&lO 31=z)(h1:U z=((32-n:Nat):Int))(h2:U (lO 32-z)=(n:Int))(hn:n<=32) w:Calls prog 153 #[.int .u32 (V x),.int .i64 k] w λe w'=>e=.returned (.int .u32 (V (ku x n)))/\w=w':=by
 have e1:=η h1;have e2:=η h2;have l1:U z<=32:=ω;have l2:U (lO 32-z)<=32:=ω;clear h1 h2;go_enter func153,ntmps153;go_wp2;go_ret;refine⟨?_,rfl⟩;have h1:=e1.o;have h2:=e2.o;have f1:(U z).toNat=32-n:=ω;have f2:(U (lO 32-z)).toNat=n:=ω;unfold ku;rw[UInt32.or_comm];rw[<-f1];conv=>rhs;rw[<-f2]
 rfl
def m6 x k n(h:(n=2/\k= -2)∨(n=6/\k= -6)∨(n=7/\k= -7)∨(n=11/\k= -11)∨(n=13/\k= -13)∨(n=17/\k= -17)∨(n=18/\k= -18)∨(n=19/\k= -19)∨(n=22/\k= -22)∨(n=25/\k= -25)) w:Calls prog 153 #[.int .u32 (V x),.int .i64 k] w λe w'=>e=.returned (.int .u32 (V (ku x n)))/\w=w':=by rcases h with⟨rfl,rfl⟩|⟨rfl,rfl⟩|⟨rfl,rfl⟩|⟨rfl,rfl⟩|⟨rfl,rfl⟩|⟨rfl,rfl⟩|⟨rfl,rfl⟩|⟨rfl,rfl⟩|⟨rfl,rfl⟩|⟨rfl,rfl⟩<;>exact Yi x _ _ _ rfl rfl rfl ψ w
def jS(s:gP.H8):List UInt32:=[s.a,s.b,s.c,s.d,s.e,s.f,s.g,s.h]
def PX S g o cap s rv nv b(hb:b.length=64) w(Zm:1<w.heap.size) (jb:Row w S (nP (jS s)++[rv,nv])) (hg:g<w.heap.size) (rC:Bytes w g o b) (hK:Row w 1 (nP gP.rounds)):Calls prog 136 #[.pointer (some ⟨S,0,none⟩),.slice (some ⟨g,o,none⟩) 64 cap] w λe w'=>e=.returned (.tuple #[])/\Row w' S (nP (jS (gP.block s b))++[rv,nv])/\iL w.heap.size S w w':=by
 go_enter func136,ntmps136;go_wp2;have hz:Row (w.alloc (.cells (nP (List.replicate 64 0)).toArray 209)) w.heap.size (nP (List.replicate 64 0)):=Row.new w _ _;have hk0:Below w.heap.size w (w.alloc (.cells (nP (List.replicate 64 0)).toArray 209)):=(Below.refl _ _).alloc ν _;have e0:(nP (List.replicate 64 0)).toArray=#[.int .u32 0,.int .u32 0,.int .u32 0,.int .u32 0,.int .u32 0,.int .u32 0,.int .u32 0,.int .u32 0,.int .u32 0,.int .u32 0,.int .u32 0,.int .u32 0,.int .u32 0,.int .u32 0,.int .u32 0,.int .u32 0,.int .u32 0,.int .u32 0,.int .u32 0,.int .u32 0,.int .u32 0,.int .u32 0,.int .u32 0,.int .u32 0,.int .u32 0,.int .u32 0,.int .u32 0,.int .u32 0,.int .u32 0,.int .u32 0,.int .u32 0,.int .u32 0,.int .u32 0,.int .u32 0,.int .u32 0,.int .u32 0,.int .u32 0,.int .u32 0,.int .u32 0,.int .u32 0,.int .u32 0,.int .u32 0,.int .u32 0,.int .u32 0,.int .u32 0,.int .u32 0,.int .u32 0,.int .u32 0,.int .u32 0,.int .u32 0,.int .u32 0,.int .u32 0,.int .u32 0,.int .u32 0,.int .u32 0,.int .u32 0,.int .u32 0,.int .u32 0,.int .u32 0,.int .u32 0,.int .u32 0,.int .u32 0,.int .u32 0,.int .u32 0]:=κ;rw[e0]at hz hk0;have hSA:S≠w.heap.size:=by have:=jb.lt;omega
 have VY:w.heap.size< (w.alloc (.cells #[.int .u32 0,.int .u32 0,.int .u32 0,.int .u32 0,.int .u32 0,.int .u32 0,.int .u32 0,.int .u32 0,.int .u32 0,.int .u32 0,.int .u32 0,.int .u32 0,.int .u32 0,.int .u32 0,.int .u32 0,.int .u32 0,.int .u32 0,.int .u32 0,.int .u32 0,.int .u32 0,.int .u32 0,.int .u32 0,.int .u32 0,.int .u32 0,.int .u32 0,.int .u32 0,.int .u32 0,.int .u32 0,.int .u32 0,.int .u32 0,.int .u32 0,.int .u32 0,.int .u32 0,.int .u32 0,.int .u32 0,.int .u32 0,.int .u32 0,.int .u32 0,.int .u32 0,.int .u32 0,.int .u32 0,.int .u32 0,.int .u32 0,.int .u32 0,.int .u32 0,.int .u32 0,.int .u32 0,.int .u32 0,.int .u32 0,.int .u32 0,.int .u32 0,.int .u32 0,.int .u32 0,.int .u32 0,.int .u32 0,.int .u32 0,.int .u32 0,.int .u32 0,.int .u32 0,.int .u32 0,.int .u32 0,.int .u32 0,.int .u32 0,.int .u32 0] 209)).heap.size:=ζ;clear e0;generalize w.alloc _=w1 at hz hk0 VY|-;have hSl:=jb.lt;generalize hA:w.heap.size=A at hz hk0 VY hSA Zm hg hSl|-;have hA':=η hA;clear hA;have ajc:=η jb;have aht:=η rC;have hHK:=η hK;clear jb rC hK;go_loopw [18] (λv wr=>∃i:Nat,i<=16/\v=.int .i64 i/\Row wr A (nP (gP.first b i++List.replicate (64-i) 0))/\Below A w wr/\A<wr.heap.size) (λv _=>16-(intOf v).toNat);exact⟨0,by omega,rfl,hz,hk0,VY⟩;clear hz hk0 VY;obtain⟨i,hi,rfl,hz,hk,VY⟩:=hrel;by_cases gV:i<16
 ·have b0:=(aht.o.below hk hg) (4*i) ω;have b1:=(aht.o.below hk hg) (4*i+1) ω;have b2:=(aht.o.below hk hg) (4*i+2) ω;have b3:=(aht.o.below hk hg) (4*i+3) ω;have Lo:=gP.qo b i;have Hz:(nP (gP.first b i++List.replicate (64-i) 0)).length=64:=by simp[nP,Lo];omega
  have cw:∃v,wr.cell? ⟨A,i,none⟩=some v:=⟨_,by rw[hz.cell];exact ag ω⟩;obtain⟨u,cu⟩:=cw;have fz:=hz.free i;clear Lo Hz;have p0:(0:Int)<=4*(i:Int):=ω;have p1:4*(i:Int)<64:=ω;have p2:4*(i:Int)+1<64:=ω;have p3:4*(i:Int)+2<64:=ω;have p4:4*(i:Int)+3<64:=ω;have p5:(i:Int)<64:=ω;go_wp2_with fail;refine gI.tail 35 mixed ξ rfl ?_
  simp only[aW,bH,bg,bB];repeat(go_big_quiet_step (fail))
  refine fe ?_;go_wp2_with fail;go_roundw
  ·refine⟨i+1,by omega,by go_num,?_,(hk.setCell (p:=⟨A,i,none⟩) ν _).drew,by simpa[World.setCell]using VY⟩;have:=(hz.set i (.int .u32 (V (gP.Mw b i)))).drew;rw[Kk,gP.MW (m:=64-(i+1)) (gP.qo b i) ω]at this;exact this
  simp[intOf];omega
 obtain rfl:i=16:=by omega
 have Ox:Row wr A (nP (gP.sched b 0++List.replicate 48 0)):=hz;clear hz;rw[show((16:Nat):Int)=16 from rfl];go_wp2_with fail;obtain⟨wq,rfl⟩:∃wq:World,wq=wr:=⟨_,rfl⟩;go_loopw [6] (λv wr=>∃n:Nat,16<=n/\n<=64/\v=.int .i64 n/\Row wr A (nP (gP.sched b (n-16)++List.replicate (64-n) 0))/\Below A w wr/\A<wr.heap.size) (λv _=>64-(intOf v).toNat);exact⟨16,by omega,by omega,rfl,Ox,hk,VY⟩;clear Ox hk VY;obtain⟨n,GA,aCh,rfl,hz,hk,VY⟩:=hrel;by_cases gV:n<64
 ·have BJ:=gP.qc b (n-16);have ak1:(gP.sched b (n-16)).length=n:=by omega
  have hg:∀j,j<n->wr.cell? ⟨A,j,none⟩=some (.int .u32 (V (gP.nw (gP.sched b (n-16)) j))):=λj hj=>by rw[hz.word j aFJ,gP.YP _ _ _ ω]
  have g15:=hg (n-15) ω;have g2:=hg (n-2) ω;have g16:=hg (n-16) ω;have g7:=hg (n-7) ω;have cw:∃v,wr.cell? ⟨A,n,none⟩=some v:=⟨_,hz.word n aFJ⟩;obtain⟨u,cu⟩:=cw;have fz:=hz.free n;have Ax:gP.next (gP.sched b (n-16))=gP.nw (gP.sched b (n-16)) (n-16)+gP.s0 (gP.nw (gP.sched b (n-16)) (n-15))+gP.nw (gP.sched b (n-16)) (n-7)+gP.s1 (gP.nw (gP.sched b (n-16)) (n-2)):=by unfold gP.next;rw[ak1]
  have hNX:=η Ax;have hSL:=η ak1;clear Ax BJ ak1 hg;generalize gP.nw (gP.sched b (n-16)) (n-15)=m9 at g15 hNX;generalize gP.nw (gP.sched b (n-16)) (n-2)=x2 at g2 hNX;generalize gP.nw (gP.sched b (n-16)) (n-16)=m4 at g16 hNX;generalize gP.nw (gP.sched b (n-16)) (n-7)=x7 at g7 hNX;have p0:(0:Int)<=(n:Int) - 15:=ω;have p1:(n:Int) - 15<64:=ω;have p2:(0:Int)<=(n:Int) - 2:=ω;have p3:(n:Int) - 2<64:=ω;have p4:(0:Int)<=(n:Int) - 16:=ω;have p5:(n:Int) - 16<64:=ω;have p6:(0:Int)<=(n:Int) - 7:=ω;have p7:(n:Int) - 7<64:=ω;have p8:(n:Int)<64:=ω;go_wp2_with fail;go_quiet (fail)
  go_wp2_with (go_at_call 153;(first|refine(m6 _ _ 7 ω _).mono ?_|refine(m6 _ _ 18 ω _).mono ?_|refine(m6 _ _ 17 ω _).mono ?_|refine(m6 _ _ 19 ω _).mono ?_);rintro e w' ⟨rfl,rfl⟩)
  refine gI.tail 15 mixed ξ rfl ?_;simp only[aW,bH,bg,bB];repeat(go_big_quiet_step (fail))
  refine fe ?_;go_wp2_with fail;go_roundw
  ·have e1:gP.sched b (n+1-16)=gP.sched b (n-16)++[gP.next (gP.sched b (n-16))]:=by rw[show n+1-16=(n-16)+1 by omega];rfl
   refine⟨n+1,by omega,by omega,by go_num,?_,?_,by simpa[World.setCell]using VY⟩;have:=hz.set n (.int .u32 (V (gP.next (gP.sched b (n-16)))));rw[Kk,gP.MW (m:=64-(n+1)) hSL.o ω,<-e1,hNX.o]at this;exact this;exact(fE hk _).setCell (p:=⟨A,n,none⟩) ν _
  simp[intOf];omega
 obtain rfl:n=64:=by omega
 replace hz:Row wr A (nP (gP.sched b 48)):=by simpa using hz
 rw[show((64:Nat):Int)=64 from rfl];have hr:=ajc.o.below hk hSl;have vM:∀j,j<8->wr.cell? ⟨S,j,none⟩=some (.int .u32 (V (gP.nw (jS s) j))):=λj hj=>by rw[hr.cell,aP (by simp[nP,jS];omega),wA _ _ aIW]
 have c0:=vM 0 ω;have c1:=vM 1 ω;have c2:=vM 2 ω;have c3:=vM 3 ω;have c4:=vM 4 ω;have c5:=vM 5 ω;have c6:=vM 6 ω;have c7:=vM 7 ω;simp only[show gP.nw (jS s) 0=s.a from rfl,show gP.nw (jS s) 1=s.b from rfl,show gP.nw (jS s) 2=s.c from rfl,show gP.nw (jS s) 3=s.d from rfl,show gP.nw (jS s) 4=s.e from rfl,show gP.nw (jS s) 5=s.f from rfl,show gP.nw (jS s) 6=s.g from rfl,show gP.nw (jS s) 7=s.h from rfl]at c0 c1 c2 c3 c4 c5 c6 c7;clear vM;go_wp2_with fail;have rn:Row (wr.alloc (.cells (nP (jS s)).toArray 169)) wr.heap.size (nP (jS s)):=Row.new wr _ _;have II:Below A w (wr.alloc (.cells (nP (jS s)).toArray 169)):=hk.alloc ω _;have hw3:Row (wr.alloc (.cells (nP (jS s)).toArray 169)) A (nP (gP.sched b 48)):=hz.alloc _;have e3:(nP (jS s)).toArray=#[.int .u32 (V s.a),.int .u32 (V s.b),.int .u32 (V s.c),.int .u32 (V s.d),.int .u32 (V s.e),.int .u32 (V s.f),.int .u32 (V s.g),.int .u32 (V s.h)]:=rfl;rw[e3]at rn II hw3;clear e3 hz hk c0 c1 c2 c3 c4 c5 c6 c7 hr;generalize wr.alloc _=w3 at rn II hw3|-;generalize wr.heap.size=Hb at rn VY|-;have hwl:(gP.sched b 48).length=64:=gP.qc b 48;generalize yT:gP.sched b 48=ws at hw3 hwl;have hWS:=η yT;have hWL:=η hwl;clear yT hwl;have hHs:Hb<w3.heap.size:=rn.lt;obtain⟨wp,rfl⟩:∃wp:World,wp=wr:=⟨_,rfl⟩;go_loopw [104] (λv wr=>∃i:Nat,i<=64/\v=.int .i64 i/\Row wr Hb (nP (jS (gP.E0 ws s i)))/\Row wr A (nP ws)/\Below A w wr) (λv _=>64-(intOf v).toNat);exact⟨0,by omega,rfl,rn,hw3,II⟩;clear rn hw3 II hHs;obtain⟨i,avn,rfl,hz,hw,hk⟩:=hrel;generalize ig:gP.E0 ws s i=st at hz;have hST:=η ig;clear ig;obtain⟨a1,b1,c1,d1,e1,f1,g1,h1⟩:=st;by_cases gV:i<64
 ·have xC:∀j,j<8->wr.cell? ⟨Hb,j,none⟩=some (.int .u32 (V (gP.nw (jS ⟨a1,b1,c1,d1,e1,f1,g1,h1⟩) j))):=λj hj=>hz.word j aIW;have x0:wr.cell? ⟨Hb,0,none⟩=some (.int .u32 (V a1)):=xC 0 ω;have x1:wr.cell? ⟨Hb,1,none⟩=some (.int .u32 (V b1)):=xC 1 ω;have x2:wr.cell? ⟨Hb,2,none⟩=some (.int .u32 (V c1)):=xC 2 ω;have x3:wr.cell? ⟨Hb,3,none⟩=some (.int .u32 (V d1)):=xC 3 ω;have x4:wr.cell? ⟨Hb,4,none⟩=some (.int .u32 (V e1)):=xC 4 ω;have x5:wr.cell? ⟨Hb,5,none⟩=some (.int .u32 (V f1)):=xC 5 ω;have x6:wr.cell? ⟨Hb,6,none⟩=some (.int .u32 (V g1)):=xC 6 ω;have x7:wr.cell? ⟨Hb,7,none⟩=some (.int .u32 (V h1)):=xC 7 ω;have xw:=hw.word i (by have:=hWL.o;omega);have xk:=(hHK.o.below hk Zm).word i gV;have p0:(i:Int)<64:=ω;clear xC;generalize OW:gP.nw gP.rounds i=kk at xk;have hKK:=η OW;generalize hwk:gP.nw ws i=wk at xw;have hWK:=η hwk;clear OW hwk;go_wp2_with fail;go_quiet (fail)
  obtain⟨q1,rfl⟩:∃q1:Nat,q1=nq:=⟨_,rfl⟩;go_wp2_with fail;go_quiet ((go_at_call 153;first|(exact jg (m6 _ _ 6 ω _))|(exact jg (m6 _ _ 11 ω _))|(exact jg (m6 _ _ 25 ω _))|(exact jg (m6 _ _ 2 ω _))|(exact jg (m6 _ _ 13 ω _))|(exact jg (m6 _ _ 22 ω _))))
  obtain⟨q2,rfl⟩:∃q2:Nat,q2=nq:=⟨_,rfl⟩;go_wp2_with fail;go_quiet ((go_at_call 153;first|(exact jg (m6 _ _ 6 ω _))|(exact jg (m6 _ _ 11 ω _))|(exact jg (m6 _ _ 25 ω _))|(exact jg (m6 _ _ 2 ω _))|(exact jg (m6 _ _ 13 ω _))|(exact jg (m6 _ _ 22 ω _))))
  obtain⟨q3,rfl⟩:∃q3:Nat,q3=nq:=⟨_,rfl⟩;go_wp2_with fail;generalize htt:h1+(ku e1 6 ^^^ ku e1 11 ^^^ ku e1 25)+(e1&&&f1 ^^^ ~~~e1&&&g1)+kk+wk=tt;have hTT:=η htt;clear htt;generalize huu:(ku a1 2 ^^^ ku a1 13 ^^^ ku a1 22)+(a1&&&b1 ^^^ a1&&&c1 ^^^ b1&&&c1)=uu;have hUU:=η huu;clear huu x0 x1 x2 x3 x4 x5 x6 x7 xw xk;replace hz:=((hz.drewN q1).drewN q2).drewN q3;replace hw:=((hw.drewN q1).drewN q2).drewN q3;replace hk:=fE (fE (fE hk q1) q2) q3;generalize((wr.drewN q1).drewN q2).drewN q3=wg at hz hw hk|-;refine gI.tail 2 mixed ξ rfl ?_;simp only[aW,bH,bg,bB];repeat(go_big_quiet_step (fail))
  refine fe ?_;replace hz:=hz.drew;replace hw:=hw.drew;replace hk:=hk.drew;generalize wg.drew=wd at hz hw hk|-;obtain⟨T,hT⟩:=hz;have kC:∀(j:Nat)(v:Value),(nP [a1,b1,c1,d1,e1,f1,g1])[j]? =some v->wd.cell? (Addr.add ⟨Hb,0,none⟩ j)=some v:=λj v hj=>by
   rw[fJ,aC,Row.cell ⟨T,hT⟩,<-hj];match j with
   |0|1|2|3|4|5|6=>rfl
   |j+7=>simp[nP]at hj
  refine wpList_copy_splice rfl _ _ _ _ rfl 168 underlying211 κ _ _ 7 7 7 8 rfl rfl Hb 1 (nP (jS ⟨a1,b1,c1,d1,e1,f1,g1,h1⟩)) T hT (nP [a1,b1,c1,d1,e1,f1,g1]) rfl (λ_=>⟨rfl,_,rfl,kC⟩) (by simp[nP,jS]) ?_ Hb wd (Below.refl _ _) ν ?_;intro v hv;obtain⟨x,_,rfl⟩:=List.mem_map.1 hv;rfl;intro w' hw' sB;have hz':Row w' Hb (nP [a1,a1,b1,c1,d1,e1,f1,g1]):=⟨T,hw'.o⟩;replace hw:=hw.below sB VY;replace hk:=hk.trans (sB.mono (eJ VY));clear hw' sB hT kC;have y0:w'.cell? ⟨Hb,0,none⟩=some (.int .u32 (V a1)):=hz'.word 0 ζ;have y4:w'.cell? ⟨Hb,4,none⟩=some (.int .u32 (V d1)):=hz'.word 4 ζ;have z0:=hz'.free 0;have z4:=hz'.free 4;go_wp2_with fail;go_roundw
  ·have hkA:A<=Hb:=eJ VY;refine⟨i+1,by omega,by go_num,?_,(hw.other (a:=⟨Hb,4,none⟩) (show Hb≠A by omega) _).other (a:=⟨Hb,0,none⟩) (show Hb≠A by omega) _,(hk.setCell (p:=⟨Hb,4,none⟩) hkA _).setCell (p:=⟨Hb,0,none⟩) hkA _⟩;have e:jS (gP.E0 ws s (i+1))=[tt+uu,a1,b1,c1,d1+tt,e1,f1,g1]:=by show jS (gP.rnd (gP.E0 ws s i) (gP.nw gP.rounds i) (gP.nw ws i))=_;rw[hST.o,hKK.o,hWK.o,<-hTT.o,<-hUU.o];rfl
   rw[e];have:=(hz'.set 4 (.int .u32 (V (d1+tt)))).set 0 (.int .u32 (V (tt+uu)));exact this
  simp[intOf];omega
 obtain rfl:i=64:=by omega
 have hr:=ajc.o.below hk hSl;rw[show((64:Nat):Int)=64 from rfl];go_wp2_with fail;obtain⟨wt,rfl⟩:∃wt:World,wt=wr:=⟨_,rfl⟩;generalize ow:(⟨a1,b1,c1,d1,e1,f1,g1,h1⟩:gP.H8)=fin at hz hST;have aDW:=η ow;clear ow;have hP8:(jS (gP.plus s fin)).length=8:=rfl;have hS8:(jS s).length=8:=rfl;have hF8:(jS fin).length=8:=rfl;have hPL:=η hP8;have hSL:=η hS8;have hFL:=η hF8;have hHS:Hb≠S:=ω;clear hP8 hS8 hF8;go_loopw [178] (λv wr=>∃i:Nat,i<=8/\v=.int .i64 i/\Row wr S (nP ((jS (gP.plus s fin)).take i++(jS s).drop i)++[rv,nv])/\Row wr Hb (nP (jS fin))/\iL A S w wr) (λv _=>8-(intOf v).toNat);exact⟨0,by omega,rfl,hr,hz,iL.gL hk⟩;clear hr hz hk hw;obtain⟨i,hi8,rfl,hr,hz,hk⟩:=hrel;have Ay:(nP ((jS (gP.plus s fin)).take i++(jS s).drop i)).length=8:=by simp[nP,hPL.o,hSL.o];omega
 by_cases gV:i<8
 ·have cs:wr.cell? ⟨S,i,none⟩=some (.int .u32 (V (gP.nw (jS s) i))):=by rw[hr.cell,aP ω,wA _ _ (by simpa[nP]using(by omega:i< (nP ((jS (gP.plus s fin)).take i++(jS s).drop i)).length)),gP.Vq _ _ _ (by rw[hPL.o];omega)]
  have cf:=hz.word i (by rw[hFL.o];omega);have fz:=hr.free i;have VM:gP.nw (jS (gP.plus s fin)) i=gP.nw (jS s) i+gP.nw (jS fin) i:=by
   match i,gV with
   |0,_|1,_|2,_|3,_|4,_|5,_|6,_|7,_=>rfl
  have hPP:=η VM;have hML:=η Ay;clear VM Ay;have p0:(i:Int)<8:=ω;go_wp2_with fail;refine gI.tail 13 mixed ξ rfl ?_
  simp only[aW,bH,bg,bB];repeat(go_big_quiet_step (fail))
  refine fe ?_;go_wp2_with fail;go_roundw
  ·refine⟨i+1,by omega,by go_num,?_,(hz.other (a:=⟨S,i,none⟩) (show S≠Hb by omega) _).drew,(hk.jI i _).drew⟩;have:=(hr.set i (.int .u32 (V (gP.nw (jS (gP.plus s fin)) i)))).drew;rw[List.set_append_left _ _ (by rw[hML.o];omega),Kk,gP.Vp _ _ _ (by rw[hPL.o];omega) (by rw[hSL.o];omega),hPP.o]at this;exact this
  simp[intOf];omega
 obtain rfl:i=8:=by omega
 go_wp2_with fail;go_end0;have e8:(jS (gP.plus s fin)).take 8++(jS s).drop 8=jS (gP.block s b):=by
  have:gP.block s b=gP.plus s fin:=by unfold gP.block;rw[hWS.o,hST.o]
  rw[this];rfl
 rw[e8]at hr;exact⟨rfl,hr,by rw[hA'.o];exact hk⟩
end
def t083{p:Prop}(h:p:=by intro u hu;obtain⟨x,_,rfl⟩:=List.mem_map.1 hu;rfl):p:=h
section
open iz Go.RowKit
structure ik(O:Nat->Prop)(w w':World):Prop where
 os:w'.os=w.os
 tape:w'.tape=w.tape
 output:w'.output=w.output
 size:w.heap.size<=w'.heap.size
 block:∀k,k<w.heap.size->¬O k->w'.heap[k]? =w.heap[k]?
namespace ik
variable{O O':Nat->Prop}{w w' tK:World}
def refl O w:ik O w w:=⟨rfl,rfl,rfl,ν,λ_ _ _=>rfl⟩
theorem trans(h:ik O w w')(k:ik O w' tK):ik O w tK:=⟨k.os.trans h.os,k.tape.trans h.tape,k.output.trans h.output,ak h.size k.size,λi hi ho=>(k.block i (ay hi h.size) ho).trans (h.block i hi ho)⟩
def weaken(h:ik O w w')(ho:∀k,k<w.heap.size->O k->O' k):ik O' w w':=⟨h.os,h.tape,h.output,h.size,λk hk hn=>h.block k hk λhh=>hn (ho k hk hh)⟩
def gL(h:Below w.heap.size w w'):ik O w w':=⟨h.os,h.tape,h.output,h.size,λk hk _=>h.block k hk⟩
def lG{S}(h:iL w.heap.size S w w')(hS:O S):ik O w w':=⟨h.os,h.tape,h.output,h.size,λk hk ho=>h.block k hk λhe=>ho (he▸hS)⟩
def set(h:ik O w w') a v(ho:O a.block):ik O w (w'.setCell a v):=⟨h.os,h.tape,h.output,by have:=h.size;simp[World.setCell];omega,λk hk hn=>(ft _ _ _ _ (by intro he;apply hn;first|rw[he];exact ho|rw[<-he];exact ho)).trans (h.block k hk hn)⟩
theorem alloc(h:ik O w w') o:ik O w (w'.alloc o):=h.trans (gL ((Below.refl _ _).alloc ν o))
theorem drew(h:ik O w w'):ik O w w'.drew:=h.trans (gL (Below.refl _ _).drew)
def drewN(h:ik O w w') n:ik O w (w'.drewN n):=h.trans (gL (fE (Below.refl _ _) n))
def row{b l}(h:ik O w w')(hr:Row w b l)(hb:¬O b):Row w' b l:=by obtain⟨T,hT⟩:=hr;exact⟨T,by rw[h.block b (ae.1 hT).1 hb,hT]⟩
def but{B S}(h:ik (λk=>k=S∨O k) w w')(hB:B<=w.heap.size)(ho:∀k,O k->B<=k):iL B S w w':=⟨h.os,h.tape,h.output,h.size,λk hk hs=>h.block k ω λhh=>hh.elim hs λhO=>by have:=ho k hO;omega⟩
end ik
def xX(w:World)(O:Nat->Prop)(rv:Value)(l:List UInt8):Prop:=(rv=.slice none 0 0/\l=[])∨∃g off cap,rv=.slice (some ⟨g,off,none⟩) l.length cap/\l.length<=cap/\O g/\g<w.heap.size/\Bytes w g off l/\∀j,j<cap->(w.cell? ⟨g,off+j,none⟩).isSome=true/\w.frozen? ⟨g,off+j,none⟩=false
namespace xX
variable{w w':World}{O:Nat->Prop}{rv:Value}{l:List UInt8}
def nil w O:xX w O (.slice none 0 0) []:=.inl ⟨rfl,rfl⟩
def same(h:xX w O rv l)(hs:w.heap.size<=w'.heap.size)(hk:∀k,O k->k<w.heap.size->w'.heap[k]? =w.heap[k]?):xX w' O rv l:=by rcases h with h|⟨g,off,cap,h1,h2,h3,h4,h5,h6⟩;exact .inl h;have hb:=hk g h3 h4;refine .inr ⟨g,off,cap,h1,h2,h3,by omega,λj hj=>?_,λj hj=>?_⟩;rw[<-h5 j hj];exact fb (w:=w) hb;rw[fb (w:=w) (w':=w') (a:=⟨g,off+j,none⟩) hb,World.frozen?_of_block (w:=w) (w':=w') (a:=⟨g,off+j,none⟩) hb];exact h6 j hj
def alloc(h:xX w O rv l) o:xX (w.alloc o) O rv l:=h.same ζ λk _ hk=>fM _ _ _ hk
def drew(h:xX w O rv l):xX w.drew O rv l:=h
def drewN(h:xX w O rv l) n:xX (w.drewN n) O rv l:=h
def other(h:xX w O rv l){a}(ha:¬O a.block) v:xX (w.setCell a v) O rv l:=h.same aGi λk hk _=>ft _ _ _ _ (λhe=>ha (he▸hk))
def but{S}(h:xX w O rv l)(hb:iL w.heap.size S w w')(hS:¬O S):xX w' O rv l:=h.same hb.size λk hk hl=>hb.block k hl (λhe=>hS (he▸hk))
def len(h:xX w O rv l):∃a cap,rv=.slice a l.length cap/\l.length<=cap:=by rcases h with⟨h,rfl⟩|⟨g,off,cap,h1,h2,_⟩;exact⟨none,0,h,by simp⟩;exact⟨_,cap,h1,h2⟩
end xX
def ir l:(w8 l).length=l.length:=by simp[w8]
def AA l:∀u∈w8 l,u.oneCell'=true:=by exact t083
def uI l m j(h:j<l.length):nth (l++m) j=nth l j:=by unfold nth;rw[ab,ab,aP h]
def s9 l m j(h:l.length<=j):nth (l++m) j=nth m (j-l.length):=by unfold nth;rw[ab,ab,aK h]
theorem xH b:∀vs o (w:World),(w.setCells b o vs).heap.size=w.heap.size/\(∀k,k≠b->(w.setCells b o vs).heap[k]? =w.heap[k]?)/\(w.setCells b o vs).os=w.os/\(w.setCells b o vs).tape=w.tape/\(w.setCells b o vs).output=w.output
 |[],_,_=>⟨rfl,λ_ _=>rfl,rfl,rfl,rfl⟩|v::r,o,w=>by obtain⟨h1,h2,h3,h4,h5⟩:=xH b r (o+1) (w.setCell ⟨b,o,none⟩ v);rw[World.setCells];exact⟨by rw[h1];simp[World.setCell],λk hk=>by rw[h2 k hk];exact ft _ _ _ _ hk,h3,h4,h5⟩
def yY{P} w{ops rest o a Q} (hg:o.guard=none) s x t (jy:o.op=Op.call {callee:=Callee.builtin Builtin.append,args:=#[s,x],argTypes:=#[t,t]}) e i (h1:P.underlying t=some (.slice e)) (h2:P.info? e=some i) (h3:i.zero=some (.int .u8 0)) (h4:i.size=1) (h5:i.bytes=1) O rv l b (hs:a.eval s=rv) (IP:xX w O rv l) (hB:∀k,w.heap.size<=k->O k) gb ob c (hx:a.eval x=.slice (some ⟨gb,ob,none⟩) b.length c) (rC:Bytes w gb ob b) (hm:l.length+b.length<=140737488355328) (hK:∀v' w',xX w' O v' (l++b)->ik O w w'->wpList P ops Q rest (a.put o.dst v') w'):wpList P ops Q (o::rest) a w:=by
 have apP:l.length+b.length<=maxLen:=ι;have aiT:∀(j:Nat)(u:Value),(w8 b)[j]? =some u->w.cell? (Addr.add ⟨gb,ob,none⟩ j)=some u:=λj u hu=>by
  have hj:j<b.length:=by have:=(aB.1 hu).1;rwa[ir]at this
  rw[fJ,rC j hj,<-hu,pO b j hj]
 have ac0:∀v' w',w'.ownsRow w.heap.size e 1 v' (l.length+b.length) (w8 l++w8 b)->w.grownBy w' none->0<l.length+b.length->xX w' O v' (l++b)/\ik O w w':=by
  intro v' w' iB oX pT;obtain⟨hlen,hor⟩:=iB;rcases hor with⟨_,h0⟩|⟨g,cap,cur,rfl,hgg,Pc,To,_,kC,ape⟩;omega;refine⟨.inr ⟨g,0,cap,by rw[ai],by rw[ai];exact To,hB _ ω,(ae.1 Pc).1,λj hj=>?_,λj hj=>?_⟩,ik.gL ((Below.refl w.heap.size w).grown oX ν aFP)⟩;rw[aC];have Qm:j<l.length+b.length:=by rw[ai]at hj;exact hj
  have e1:(w8 (l++b))[j]? =some (.int .u8 (Y (nth (l++b) j))):=pO _ j hj;have e2:w8 (l++b)=w8 l++w8 b:=by simp[w8]
  rw[e2,<-ape,bS,aM Qm]at e1;simpa[World.cell?,Pc]using e1;have Qm:j<cur.size:=by rw[kC];omega
  simp[World.cell?,World.frozen?,Pc,Qm]
 rcases IP with⟨rfl,rfl⟩|⟨g,off,cap,rfl,To,hgB,DN,hold,Gy⟩;by_cases Ms:b=[];subst Ms;refine gr hg λK hK'=>?_;have jm:(Builtin.append_ #[t,t] o.type #[.slice none 0 0,.slice (some ⟨gb,ob,none⟩) 0 c]).run P w=.ok (.slice none 0 0) w:=by have hfc:=run_firstCells_some (P:=P) w i.size 0 ⟨gb,ob,none⟩ 0 c [] ζ ζ;simp[Builtin.append_,fO h1,sizeOf,typeInfo,h2,Builtin.lenOf,hfc]
 unfold Oper.wp;have wV:a.eval x=.slice (some ⟨gb,ob,none⟩) 0 c:=hx;simp[execOp,jy,resolve,invoke,builtin,hs,wV,jm,Result.andThen];exact hK' _ _ (hK _ _ (xX.nil w O) (ik.refl O w));have pT:0<b.length:=List.length_pos_iff.2 Ms;refine wpList_append_grows w hg s x t jy e i _ 1 1 h1 h2 h3 h4 h5 rfl ψ none 0 0 [] hs (λ_=>⟨rfl,rfl⟩) rfl aGg ⟨gb,ob,none⟩ b.length c (w8 b) hx (by rw[ir,bS]) aiT (AA b) ω (by simpa using apP) (by simp at hm|-;omega) ?_;intro v' w' iB oX;have:=ac0 v' w' (by simpa[w8]using iB) oX aFJ;exact hK v' w' this.1 this.2;refine wpList_append_arg w hg s x t jy e i _ 1 1 h1 h2 h3 h4 h5 rfl ψ g off l.length cap (w8 l) hs (by rw[ir,bS]) (λj u hu=>?_) ⟨gb,ob,none⟩ b.length c (w8 b) hx (by rw[ir,bS]) aiT (AA b) (λahh j hj=>?_) apP ω (λahh=>?_) (λxS v' w' iB oX=>?_);have hj:j<l.length:=by have:=(aB.1 hu).1;rwa[ir]at this
 rw[hold j hj,<-hu,pO l j hj];rw[ir]at hj;rw[bS,aZ];exact Gy _ ω;rw[bS];have apo:∀j,j< (w8 b).length->(w.cell? ⟨g,off+l.length+j,none⟩).isSome=true:=λj hj=>by rw[ir]at hj;rw[aZ];exact(Gy _ ω).1
 have hin:=World.cell?_setCells_in g (w8 b) (off+l.length) w apo;have uo:=World.cell?_setCells_out g (w8 b) (off+l.length) w;have mD:=World.frozen?_setCells g (w8 b) (off+l.length) w;obtain⟨k1,k2,k3,k4,k5⟩:=xH g (w8 b) (off+l.length) w;generalize w.setCells g (off+l.length) (w8 b)=w' at hin uo mD k1 k2 k3 k4 k5|-;have hlo:∀j,j<l.length->w'.cell? ⟨g,off+j,none⟩=w.cell? ⟨g,off+j,none⟩:=λj hj=>uo _ (λ_ _=>Or.inl (by show off+j<off+l.length;omega));have hhi:∀j,l.length<=j->j<l.length+b.length->w'.cell? ⟨g,off+j,none⟩=some (.int .u8 (Y (nth b (j-l.length)))):=λj h1 h2=>by
  have hj:j-l.length< (w8 b).length:=by rw[ir];omega
  have:=hin (j-l.length) hj;rw[show off+l.length+(j-l.length)=off+j by omega]at this;rw[this];have e:=pO b (j-l.length) ω;rw[ag hj]at e;exact e
 refine hK _ w' (.inr ⟨g,off,cap,by rw[ai],by rw[ai];omega,hgB,by omega,λj hj=>?_,λj hj=>?_⟩) ⟨k3,k4,k5,by omega,λk _ hn=>k2 k (λhe=>hn (he▸hgB))⟩;rw[ai]at hj;by_cases hl:j<l.length;rw[hlo j hl,uI _ _ _ hl];exact hold j hl;rw[hhi j ω hj,s9 _ _ _ ω];refine⟨?_,by rw[mD];exact(Gy j hj).2⟩;by_cases hl:j<l.length;rw[hlo j hl];exact(Gy j hj).1;by_cases h2:j<l.length+b.length;rw[hhi j ω h2];rfl;rw[uo ⟨g,off+j,none⟩ (λ_ _=>Or.inr (by show off+l.length+(w8 b).length<=off+j;rw[ir];omega))];exact(Gy j hj).1;have:=ac0 v' w' iB oX ω;exact hK v' w' this.1 this.2
end
def t0121{p:Prop}(h:p:=by rw[jb.cell,aK (by rw[Hz];decide),Hz];rfl):p:=h
def t034{p:Prop}(h:p:=by rw[aD]at hn;go_roundg (gk-1);exact⟨k+1,_,by omega,by omega,hn,(IQ.trans (ik.lG B2.o (.inl rfl))).set ⟨S,8,none⟩ _ (.inl rfl),by have:=B2.o.size;simp[World.setCell];omega⟩;omega):p:=h
section
open Go.RowKit iz
def StH(w:World)(S:Nat)(O:Nat->Prop)(k:Nat)(L:List UInt8)(rv:Value):Prop:=Row w S (nP (jS (gP.blocks k gP.begin L))++[rv,.int .u64 (U (UInt64.ofNat L.length))])/\xX w O rv (L.drop (64*k))
def St(w:World)(S:Nat)(O:Nat->Prop)(L:List UInt8):Prop:=∃rv,StH w S O (L.length/64) L rv
def Tryz.aoO:(prog.info? 5).map (λi=>(i.zero,i.size,i.bytes))=some (some (.int .u8 0),1,1):=κ
def xX.adF{w O g off cap l}(h:xX w O (.slice (some ⟨g,off,none⟩) l.length cap) l)(hl:64<=l.length):(cap=64->xX w O (.slice (some ⟨g,off,none⟩) (l.length-64) 0) (l.drop 64))/\(cap≠64->xX w O (.slice (some ⟨g,off+64,none⟩) (l.length-64) (cap-64)) (l.drop 64)):=by rcases h with⟨_,h1⟩|⟨g',akp,Cc,h1,h2,h3,h4,h5,h6⟩;exact absurd hl (by rw[h1];decide);simp only[Value.slice.injEq,bY,Addr.mk.injEq]at h1;obtain⟨⟨rfl,rfl,-⟩,-,rfl⟩:=h1;have hd:(l.drop 64).length=l.length-64:=aD;refine⟨λhc=>.inr ⟨_,_,0,by rw[hd],by omega,h3,h4,λj hj=>by omega,λj hj=>by omega⟩,λhc=>.inr ⟨_,_,_,by rw[hd],by omega,h3,h4,λj hj=>?_,λj hj=>?_⟩⟩;rw[aZ,h5 (64+j) ω];simp[nth,ab];rw[aZ];exact h6 _ ω
def StH.next{w S O k M rv rv' n} (hr:Row w S (nP (jS (gP.block (gP.blocks k gP.begin M) ((M.drop (64*k)).take 64)))++[rv,n])) (hb:xX w O rv' ((M.drop (64*k)).drop 64)) (hn:n=.int .u64 (U (UInt64.ofNat M.length))) (Az:¬O S):StH (w.setCell ⟨S,8,none⟩ rv') S O (k+1) M rv':=by subst hn;refine⟨?_,?_⟩;exact hr.set 8 rv';rw[dI]at hb;exact hb.other (a:=⟨S,8,none⟩) Az _
def rH S O L b gb ob c w(ig:St w S O L)(Az:¬O S)(Zm:S≠1)(h1B:¬O 1)(hB:∀k,w.heap.size<=k->O k)(hgS:gb≠S)(rC:Bytes w gb ob b) (hm:L.length+b.length<=70368744177664) (hK:Row w 1 (nP gP.rounds)):Calls prog 107 #[.pointer (some ⟨S,0,none⟩),.slice (some ⟨gb,ob,none⟩) b.length c] w λe w'=>e=.returned (.tuple #[])/\St w' S O (L++b)/\ik (λk=>k=S∨O k) w w':=by
 obtain⟨i0,kV,mJ,mC,kS⟩:=fy Tryz.aoO;obtain⟨rv,jb,IP⟩:=ig;have Hz:(nP (jS (gP.blocks (L.length/64) gP.begin L))).length=8:=rfl;have c9:w.cell? ⟨S,9,none⟩=some (.int .u64 (U (UInt64.ofNat L.length))):=by exact t0121
 have c8:w.cell? ⟨S,8,none⟩=some rv:=by exact t0121
 have z8:=jb.free 8;have z9:=jb.free 9;have hbw:=IP.other (a:=⟨S,9,none⟩) Az (.int .u64 (U (UInt64.ofNat L.length+UInt64.ofNat b.length)));have Qh:(L.drop (64*(L.length/64))).length<=L.length:=aGB;obtain⟨ra,Fq,hrv,apx⟩:=IP.len;subst hrv;have acK:=jb.set 9 (.int .u64 (U (UInt64.ofNat L.length+UInt64.ofNat b.length)));have acE:(w.setCell ⟨S,9,none⟩ (.int .u64 (U (UInt64.ofNat L.length+UInt64.ofNat b.length)))).heap.size=w.heap.size:=aGi;have aqr:=(ik.refl (λk=>k=S∨O k) w).set ⟨S,9,none⟩ (.int .u64 (U (UInt64.ofNat L.length+UInt64.ofNat b.length))) (.inl rfl);have aqo:Bytes (w.setCell ⟨S,9,none⟩ (.int .u64 (U (UInt64.ofNat L.length+UInt64.ofNat b.length)))) gb ob b:=λj hj=>by rw[fb (ft _ _ _ _ (show gb≠S from hgS))];exact rC j hj
 generalize hrr:L.drop (64*(L.length/64))=r at hbw Qh apx c8 acK jb;have hRR:=η hrr;have H1:=η jb;have H2:=η IP;have H3:=η acK;have H4:=η hbw;have H5:=η aqo;have H6:=η aqr;have H7:=η Hz;have H8:=η acE;have H9:=η hK;have H10:=η rC;clear hrr jb IP acK hbw aqo aqr Hz acE hK rC;go_enter func107,ntmps107;go_wp2_with (at_builtin;refine yY _ rfl _ _ _ rfl 5 i0 fq kV mJ mC kS O _ r b rfl H4.o (λk hk=>hB k (by rw[<-H8.o];exact hk)) gb ob c rfl H5.o ω ?_;intro v' w1 ac7 VW;obtain⟨ra1,NH,JO,aB1⟩:=ac7.len;subst JO;have alD:=η ac7;have ac8:=η VW;have y8:w1.cell? ⟨S,8,none⟩=some (.slice ra r.length Fq):=(((VW.row H3.o Az).cell 8).trans rfl);have y8f:w1.frozen? ⟨S,8,none⟩=false:=((VW.row H3.o Az).free 8);clear ac7 VW)
 have hSA:StH (w1.setCell ⟨S,8,none⟩ (.slice ra1 (r++b).length NH)) S O (L.length/64) (L++b) (.slice ra1 (r++b).length NH):=by
  have Mo:=(ac8.o.row H3.o Az).set 8 (.slice ra1 (r++b).length NH);refine⟨?_,?_⟩;rw[gP.IY _ _ _ _ ω];have e:UInt64.ofNat (L++b).length=UInt64.ofNat L.length+UInt64.ofNat b.length:=by rw[ai,UInt64.ofNat_add]
  rw[e];exact Mo;rw[cX ω,hRR.o];exact alD.o.other (a:=⟨S,8,none⟩) Az _
 have hBA:ik (λk=>k=S∨O k) w (w1.setCell ⟨S,8,none⟩ (.slice ra1 (r++b).length NH)):=(H6.o.trans (ac8.o.weaken λ_ _ h=>.inr h)).set ⟨S,8,none⟩ _ (.inl rfl);have hML:(L++b).length=L.length+b.length:=ai;have VK:(r++b).length=r.length+b.length:=ai;rw[<-VK];clear c8 c9 y8 y8f z8 z9 VK;have hZ:w.heap.size<=(w1.setCell ⟨S,8,none⟩ (.slice ra1 (r++b).length NH)).heap.size:=by exact hBA.size
 generalize(r++b).length=zz at hSA hBA hZ|-;generalize w1.setCell _ _=w2 at hSA hBA hZ|-;have hq:64*(L.length/64)<=(L++b).length:=ω;generalize hM:L++b=M at hSA hML hq;have hM':=η hM;have Ay:M.length<=70368744177664:=ω;have aDz:=η hML;clear hM hML;generalize L.length/64=q at hSA hq;have awg:=η hSA;have awY:=η hBA;clear hSA hBA;go_loopg [] (M.length) (λn wr=>∃(k:Nat)(rv:Value),64*k<=M.length/\M.length-64*k<=n/\StH wr S O k M rv/\ik (λk=>k=S∨O k) w wr/\w.heap.size<=wr.heap.size);exact⟨q,_,hq,by omega,awg.o,awY.o,hZ⟩;obtain⟨k,rv,hk,hkn,ig,IQ,hz⟩:=hrel;obtain⟨jb,IP⟩:=ig;have Hz:(nP (jS (gP.blocks k gP.begin M))).length=8:=rfl;have c8:wr.cell? ⟨S,8,none⟩=some rv:=by exact t0121
 have z8:=jb.free 8;obtain⟨ra,Fq,hrv,apx⟩:=IP.len;subst hrv;have H1:=η jb;have H2:=η IP;clear jb IP Hz;by_cases gV:M.length-64*k<64
 ·have Tg:k=M.length/64:=by omega
  go_wp2_with fail;go_end0;rw[hM'.o];refine⟨rfl,?_,IQ⟩;unfold St;rw[<-Tg];exact⟨_,H1.o,H2.o⟩
 rcases H2.o with⟨_,h1⟩|⟨g,off,cap,h1,h2,h3,h4,h5,h6⟩;exact absurd (by rw[<-aD,h1];decide) gV;simp only[Value.slice.injEq]at h1;obtain⟨rfl,-,rfl⟩:=h1;have To:64<=Fq:=by rw[aD]at h2;omega
 have H5:=η h5;have H6:=η h6;clear h5 h6;go_wp2_with fail;have aqu:((M.drop (64*k)).take 64).length=64:=by rw[aJ,aD];omega
 have Qo:Bytes wr g off ((M.drop (64*k)).take 64):=λj hj=>by rw[aqu]at hj;rw[H5.o j aGB];simp[nth,ab,hj]
 refine(PX S g off Fq _ _ _ _ aqu wr (IQ.row H9.o (λh=>h.elim (λh=>Zm h.symm) h1B)).lt H1.o h4 Qo (IQ.row H9.o (λh=>h.elim (λh=>Zm h.symm) h1B))).mono ?_;rintro e tK⟨rfl,uJ,ac6⟩;have y8:tK.cell? ⟨S,8,none⟩=some (.slice (some ⟨g,off,none⟩) (M.drop (64*k)).length Fq):=by rw[uJ.cell,aK (by show 8<=8;decide)];rfl
 have y8f:=uJ.free 8;have ai7:=η (H2.o.but ac6 Az);have R2:=η uJ;have B2:=η ac6;clear uJ ac6 c8 z8;have aqT:64<=(M.drop (64*k)).length:=aGB;by_cases hc:Fq=64
 ·subst hc;go_wp2_with fail;have hn:=StH.next (k:=k) R2.o ((xX.adF ai7.o aqT).1 rfl) rfl Az;exact t034
 go_wp2_with fail;have hn:=StH.next (k:=k) R2.o ((xX.adF ai7.o aqT).2 hc) rfl Az
 exact t034
end
section
open Go.RowKit iz
def xX.weaken{w O O' rv l}(h:xX w O rv l)(ho:∀k,k<w.heap.size->O k->O' k):xX w O' rv l:=by rcases h with h|⟨g,off,cap,h1,h2,h3,h4,h5,h6⟩;exact .inl h;exact .inr ⟨g,off,cap,h1,h2,ho _ h4 h3,h4,h5,h6⟩
def St.weaken{w S O O' L}(h:St w S O L)(ho:∀k,k<w.heap.size->O k->O' k):St w S O' L:=by obtain⟨rv,h1,h2⟩:=h;exact⟨rv,h1,h2.weaken ho⟩
def St.alloc{w S O L}(h:St w S O L) o:St (w.alloc o) S O L:=by obtain⟨rv,h1,h2⟩:=h;exact⟨rv,h1.alloc o,h2.alloc o⟩
def St.lt{w S O L}(h:St w S O L):S<w.heap.size:=by obtain⟨rv,h1,_⟩:=h;exact h1.lt
def St.ars{w S O L}(h:St w S O L):w.cell? ⟨S,9,none⟩=some (.int .u64 (U (UInt64.ofNat L.length))):=by obtain⟨rv,h1,_⟩:=h;have Hz:(nP (jS (gP.blocks (L.length/64) gP.begin L))).length=8:=rfl;rw[h1.cell,aK (by rw[Hz];decide),Hz];rfl
def St.art{w S O L}(h:St w S O L):∃ra Fq,w.cell? ⟨S,8,none⟩=some (.slice ra (L.length % 64) Fq):=by obtain⟨rv,h1,h2⟩:=h;have Hz:(nP (jS (gP.blocks (L.length/64) gP.begin L))).length=8:=rfl;obtain⟨ra,Fq,h3,_⟩:=h2.len;have e:(L.drop (64*(L.length/64))).length=L.length % 64:=aGB;rw[e]at h3;exact⟨ra,Fq,by rw[h1.cell,aK (by rw[Hz];decide),Hz,h3];rfl⟩
def Bytes.one(w:World) x v(hv:v=Y x) T:Bytes (w.alloc (.cells #[.int .u8 v] T)) w.heap.size 0 [x]:=λj hj=>by obtain rfl:j=0:=aGx;subst hv;exact(Row.new w [.int .u8 (Y x)] T).cell 0
def Bytes.at5(w:World) o x v(hv:v=Y x) T:Bytes ((w.alloc o).alloc (.cells #[.int .u8 v] T)) (w.heap.size+1) 0 [x]:=by have:=Bytes.one (w.alloc o) x v hv T;rw[World.size_alloc]at this;exact this
def St.keep{w w' S O P L}(h:St w S O L)(hk:ik P w w')(hS:¬P S)(hO:∀k,O k->¬P k):St w' S O L:=by obtain⟨rv,h1,h2⟩:=h;exact⟨rv,hk.row h1 hS,h2.same hk.size λk ho hl=>hk.block k hl (hO k ho)⟩
def gP.LN N i(h:i<8):nth (gP.Kc N) i=(shr N (56-8*i)).toUInt8:=by
 match i,h with
 |0,_=>rfl
 |1,_=>rfl
 |2,_=>rfl
 |3,_=>rfl
 |4,_=>rfl
 |5,_=>rfl
 |6,_=>rfl
 |7,_=>rfl
def tE l i m(h:i<l.length):(l.take i++List.replicate (m+1) 0).set i (nth l i)=l.take (i+1)++List.replicate m 0:=by
 have hl:(l.take i).length=i:=aF1;rw[da _ _ ω,hl,bh,dO,dA];have e:nth l i=l[i]:=by simp[nth,h]
 rw[e,<-List.take_concat_get h,List.concat_eq_append,aL,List.singleton_append]
def Ip{P} t e(n:Nat) cs k(i:Int)(h:P.underlying t=some (.array n e)) v(h0:0<=i)(hi:i<n)(hv:cs[i.toNat]? =some v)(hs:∀w,(sizeOf e).run P w=.ok 1 w)(ha:∀w,(isAgg e).run P w=.ok false w) w:(Instr.index t (.agg cs) (.int k i)).run P w=.ok v w:=by simp[Instr.index,fO h,asIntOf,h0,hi,hs,ha,hv,part,go_sem]
def gP.agr s i(h:i<8):nth (gP.out s) (4*i)=(mA (gP.nw (jS s) i) 24).toUInt8/\nth (gP.out s) (4*i+1)=(mA (gP.nw (jS s) i) 16).toUInt8/\nth (gP.out s) (4*i+2)=(mA (gP.nw (jS s) i) 8).toUInt8/\nth (gP.out s) (4*i+3)=(gP.nw (jS s) i).toUInt8:=by
 match i,h with
 |0,_=>exact⟨rfl,rfl,rfl,rfl⟩
 |1,_=>exact⟨rfl,rfl,rfl,rfl⟩
 |2,_=>exact⟨rfl,rfl,rfl,rfl⟩
 |3,_=>exact⟨rfl,rfl,rfl,rfl⟩
 |4,_=>exact⟨rfl,rfl,rfl,rfl⟩
 |5,_=>exact⟨rfl,rfl,rfl,rfl⟩
 |6,_=>exact⟨rfl,rfl,rfl,rfl⟩
 |7,_=>exact⟨rfl,rfl,rfl,rfl⟩
def arl l i(h:i<8)(hl:l.length=32) a b c d(ha:nth l (4*i)=a)(hb:nth l (4*i+1)=b)(hc:nth l (4*i+2)=c)(hd:nth l (4*i+3)=d):((((w8 (l.take (4*i)++List.replicate (32-4*i) 0)).set (4*i) (.int .u8 (Y a))).set (4*i+1) (.int .u8 (Y b))).set (4*i+2) (.int .u8 (Y c))).set (4*i+3) (.int .u8 (Y d)) =w8 (l.take (4*(i+1))++List.replicate (32-4*(i+1)) 0):=by subst ha hb hc hd;rw[show 32-4*i=(32-4*(i+1))+1+1+1+1 by omega];rw[yq,tE _ _ _ ω,yq,tE _ _ _ ω,yq,tE _ _ _ ω,yq,tE _ _ _ ω];rfl
def Tryz.Gt:(prog.info? 76).map (λi=>i.size)=some 32:=κ
def Row.setRow{w b l}(h:Row w b l) m:Row (w.setRow b m.toArray) b m:=by obtain⟨T,h⟩:=h;exact⟨T,setRow_heap w b _ _ T _ h⟩
def Row.gX{w b g l}(h:Row w b l)(hb:b≠g) m:Row (w.setRow g m) b l:=by obtain⟨T,h⟩:=h;exact⟨T,by rw[fI w g b m hb];exact h⟩
theorem ik.setRow{O w w'}(h:ik O w w') g m(hg:O g):ik O w (w'.setRow g m):=⟨h.os,h.tape,h.output,by rw[setRow_size];exact h.size,λk hk hn=>(fI w' g k m (λhe=>hn (he▸hg))).trans (h.block k hk hn)⟩
def agH{ops rest o a w Q}(pn:o.guard=none) x(ho:o.op=.load 76 x) g l (hl:l.length=32) (hx:a.eval x=.pointer (some ⟨g,0,none⟩)) (hr:Row w g (w8 l)) (h:wpList prog ops Q rest (a.put o.dst (.agg (w8 l).toArray)) w):wpList prog ops Q (o::rest) a w:=by obtain⟨T,hT⟩:=hr;exact wpList_load_row pn _ x ho g hx T _ (0,0) _ hT fA rfl (by rw[Tryz.Gt,az,ir,hl]) h
def ng{ops rest o a w Q}(pn:o.guard=none) x y(ho:o.op=.store 76 x y) g l m (hl:l.length=32) (hm:m.length=32) (hx:a.eval x=.pointer (some ⟨g,0,none⟩)) (hy:a.eval y=.agg (w8 m).toArray) (hr:Row w g (w8 l)) (h:wpList prog ops Q rest (a.put o.dst undef) (w.setRow g (w8 m).toArray)):wpList prog ops Q (o::rest) a w:=by obtain⟨T,hT⟩:=hr;refine wpList_store_row pn _ x y ho g _ hx hy T _ hT (by rw[Tryz.Gt,az,ir,hm]) (by rw[az,az,ir,ir,hl,hm]) ?_ h;rw[ee];exact List.all_eq_true.2 (AA m)
def XW S O L w(ig:St w S O L)(Az:¬O S)(Zm:S≠1)(h1B:¬O 1)(hB:∀k,w.heap.size<=k->O k) (hm:L.length<=35184372088832) (hK:Row w 1 (nP gP.rounds)):Calls prog 108 #[.pointer (some ⟨S,0,none⟩)] w λe w'=>e=.returned (.agg (w8 (gP.sum L)).toArray)/\ik (λk=>k=S∨O k) w w':=by
 have c9:∀o,(w.alloc o).cell? ⟨S,9,none⟩=some (.int .u64 (U (UInt64.ofNat L.length))):=λo=>(ig.alloc o).ars;have hSl:=ig.lt;have hKl:=hK.lt;have HST:=η ig;have H9:=η hK;clear hK ig;go_enter func108,ntmps108;go_wp2_with fail;refine(rH S (λk=>O k/\k≠w.heap.size) L [128] (w.heap.size+1) 0 1 _ (((HST.o.weaken λk hk ho=>⟨ho,by omega⟩).alloc _).alloc _) (λh=>Az h.1) Zm (λh=>h1B h.1) aGv ω ?_ aFJ ((H9.o.alloc _).alloc _)).mono ?_
 exact Bytes.at5 w _ 128 128 rfl _;rintro e w2⟨rfl,qm,BN⟩;have OW:ik (λk=>k=S∨O k) w w2:=(((ik.refl _ w).alloc _).alloc _).trans (BN.weaken λk _ h=>h.imp id (λh=>h.1));have JV:=BN.row ((Row.new w (w8 (List.replicate 32 0)) _).alloc _) (λh=>h.elim aFY (λh=>h.2 rfl));have zU:w.heap.size+2<=w2.heap.size:=by have:=BN.size;simpa using this
 clear BN c9;have K2:=η OW;have R2:=η JV;have S2:=η qm;clear OW JV qm;go_wp2_with fail;go_loopg [] (gP.lr L.length) (λn wr=>∃j:Nat,j<=gP.lr L.length/\gP.lr L.length-j<=n/\St wr S (λk=>O k/\k≠w.heap.size) (L++[128]++List.replicate j 0)/\ik (λk=>k=S∨O k) w wr/\Row wr w.heap.size (w8 (List.replicate 32 0))/\w.heap.size+2<=wr.heap.size);exact⟨0,by omega,by omega,by rw[List.replicate_zero,aO];exact S2.o,K2.o,R2.o,zU⟩;obtain⟨j,hj,hjn,ig,hk,hR,hz⟩:=hrel;obtain⟨ra,Fq,c8⟩:=ig.art;have hM:(L++[128]++List.replicate j (0:UInt8)).length=L.length+1+j:=aFJ;rw[hM]at c8;have Zg:(L.length+1+j) % 64=56↔j=gP.lr L.length:=by unfold gP.lr at hj|-;omega
 have HS:=η ig;have HK:=η hk;have HR:=η hR;clear ig hk hR;by_cases hjz:j=gP.lr L.length
 ·have he:=Zg.2 hjz;go_wp2_with fail;have hAR:Row (wr.alloc (.cells (w8 (List.replicate 8 0)).toArray 195)) wr.heap.size (w8 (List.replicate 8 0)):=Row.new wr _ _;have acH:=(HS.o.weaken (O':=λk=>O k/\k≠w.heap.size/\k≠wr.heap.size) (λk hk ho=>⟨ho.1,ho.2,by omega⟩)).alloc (.cells (w8 (List.replicate 8 0)).toArray 195);have DM:=HK.o.alloc (.cells (w8 (List.replicate 8 0)).toArray 195);have hR1:=HR.o.alloc (.cells (w8 (List.replicate 8 0)).toArray 195);have hN:UInt64.ofNat L.length*lO 8=UInt64.ofNat (8*L.length):=by rw[show lO 8=UInt64.ofNat 8 from rfl,<-UInt64.ofNat_mul,br]
  rw[hN];have e8:(w8 (List.replicate 8 0)).toArray=#[.int .u8 0,.int .u8 0,.int .u8 0,.int .u8 0,.int .u8 0,.int .u8 0,.int .u8 0,.int .u8 0]:=κ;rw[e8]at hAR acH DM hR1;have Zp:wr.heap.size< (wr.alloc (.cells #[.int .u8 0,.int .u8 0,.int .u8 0,.int .u8 0,.int .u8 0,.int .u8 0,.int .u8 0,.int .u8 0] 195)).heap.size:=ζ;generalize hNe:UInt64.ofNat (8*L.length)=N;have hNN:=η hNe;clear hNe;generalize wr.alloc _=wa at hAR acH DM hR1 Zp|-;generalize hA:wr.heap.size=A at hAR acH Zp|-;have q1:=η hAR;have q2:=η acH;have q3:=η DM;have q4:=η hR1;have q5:=η hA;have hzA:w.heap.size+2<=A:=ω;clear hAR acH DM hR1 hA c8;obtain⟨wq,rfl⟩:∃wq:World,wq=wr:=⟨_,rfl⟩;go_loopw [26] (λv wl=>∃i:Nat,i<=8/\v=.int .i64 i/\Row wl A (w8 ((gP.Kc N).take i++List.replicate (8-i) 0))/\ik (λk=>k=A) wa wl) (λv _=>8-(intOf v).toNat);exact⟨0,by omega,rfl,q1.o,ik.refl _ _⟩;obtain⟨i,hi,rfl,jb,hk⟩:=hrel;by_cases gV:i<8
  ·have Hz:(w8 ((gP.Kc N).take i++List.replicate (8-i) 0)).length=8:=by simp[w8,gP.Kc];omega
   have cw:∃v,wr.cell? ⟨A,i,none⟩=some v:=⟨_,by rw[jb.cell];exact ag ω⟩;obtain⟨u,cu⟩:=cw;have fz:=jb.free i;have g1:=η jb;have g2:=η hk;clear jb hk Hz;have p0:(0:Int)<=56-8*(i:Int):=ω;have p1:(i:Int)<8:=ω;go_wp2_with fail;refine⟨⟨i+1,by omega,by go_num,?_,g2.o.set ⟨A,i,none⟩ _ rfl⟩,by simp[intOf];omega⟩
   have:=g1.o.set i (.int .u8 (Y (shr N (56-8*i)).toUInt8));rw[show 8-i=(8-(i+1))+1 by omega,yq,<-gP.LN N i gV,tE _ _ _ (by show i<8;exact gV)]at this;rw[gP.LN N i gV]at this;exact this
  obtain rfl:i=8:=by omega
  rw[show((8:Nat):Int)=8 from rfl];have ek:ik (λk=>k=S∨O k) w wr:=q3.o.trans (hk.weaken λk _ h=>.inr (hB k (by have h':k=A:=h;omega)));have es:St wr S (λk=>O k/\k≠w.heap.size/\k≠A) (L++[128]++List.replicate j 0):=q2.o.keep hk (λh:S=A=>by omega) (λk h=>h.2.2);have er:Row wr w.heap.size (w8 (List.replicate 32 0)):=hk.row q4.o (λh:w.heap.size=A=>by omega);have ea:Bytes wr A 0 (gP.Kc N):=λj hj=>by have:=jb.cell j;rw[au (Nat.le_refl 8),bh,List.replicate_zero,aO]at this;rw[aC,this];exact pO _ j hj
  have ez:=hk.size;have acS:L++[128]++List.replicate j (0:UInt8)++gP.Kc N=gP.pad L:=by rw[hjz,<-hNN.o];rfl
  have Ox:gP.lr L.length<64:=by unfold gP.lr;omega
  have VM:(L++[128]++List.replicate j (0:UInt8)).length+(gP.Kc N).length<=70368744177664:=by rw[hM];show _+8<=_;omega
  have hw0:w.heap.size<A:=ω;have hpa:=η acS;have BJ:=es.lt;have E1:=η ek;have E2:=η er;have E3:=η es;have E4:=η ea;clear ek er es ea acS jb hk;go_wp2_with fail;refine(rH S (λk=>O k/\k≠w.heap.size/\k≠A) _ (gP.Kc N) A 0 8 wr E3.o (λh=>Az h.1) Zm (λh=>h1B h.1) (λk hk=>⟨hB k ω,by omega,by omega⟩) ω E4.o VM (E1.o.row H9.o (λh=>h.elim (λh=>Zm h.symm) h1B))).mono ?_;rintro e w4⟨rfl,apl,hk4⟩;rw[hpa.o]at apl;have er4:=hk4.row E2.o (λh=>h.elim aFY aIA);have ek4:ik (λk=>k=S∨O k) w w4:=E1.o.trans (hk4.weaken λk _ h=>h.imp id (λh=>h.1));have ez4:wr.heap.size<=w4.heap.size:=hk4.size;obtain⟨rv4,hs4,_⟩:=apl;have vM:∀j,j<8->w4.cell? ⟨S,j,none⟩=some (.int .u32 (V (gP.nw (jS (gP.blocks ((gP.pad L).length/64) gP.begin (gP.pad L))) j))):=λj hj=>by rw[hs4.cell,aP (by simp[nP,jS];omega),wA _ _ aIW]
  generalize VI:gP.blocks ((gP.pad L).length/64) gP.begin (gP.pad L)=s at hs4 vM;have api:Hid (gP.sum L=gP.out s):=η (by rw[<-VI];rfl);clear VI;have c0:=vM 0 ω;have c1:=vM 1 ω;have c2:=vM 2 ω;have c3:=vM 3 ω;have c4:=vM 4 ω;have c5:=vM 5 ω;have c6:=vM 6 ω;have c7:=vM 7 ω;simp only[show gP.nw (jS s) 0=s.a from rfl,show gP.nw (jS s) 1=s.b from rfl,show gP.nw (jS s) 2=s.c from rfl,show gP.nw (jS s) 3=s.d from rfl,show gP.nw (jS s) 4=s.e from rfl,show gP.nw (jS s) 5=s.f from rfl,show gP.nw (jS s) 6=s.g from rfl,show gP.nw (jS s) 7=s.h from rfl]at c0 c1 c2 c3 c4 c5 c6 c7;have aBY:=hs4.lt;have F1:=η er4;have F2:=η ek4;clear vM hs4 er4 ek4 hk4;go_wp2_with fail;have hD:Row (w4.alloc (.cells (w8 (List.replicate 32 0)).toArray 76)) w4.heap.size (w8 (List.replicate 32 0)):=Row.new w4 _ _;have hk5:=F2.o.alloc (.cells (w8 (List.replicate 32 0)).toArray 76);have hR5:=F1.o.alloc (.cells (w8 (List.replicate 32 0)).toArray 76);have e32:(w8 (List.replicate 32 0)).toArray=#[.int .u8 0,.int .u8 0,.int .u8 0,.int .u8 0,.int .u8 0,.int .u8 0,.int .u8 0,.int .u8 0,.int .u8 0,.int .u8 0,.int .u8 0,.int .u8 0,.int .u8 0,.int .u8 0,.int .u8 0,.int .u8 0,.int .u8 0,.int .u8 0,.int .u8 0,.int .u8 0,.int .u8 0,.int .u8 0,.int .u8 0,.int .u8 0,.int .u8 0,.int .u8 0,.int .u8 0,.int .u8 0,.int .u8 0,.int .u8 0,.int .u8 0,.int .u8 0]:=κ;rw[e32]at hD hk5 hR5;clear e32;generalize w4.alloc _=w5 at hD hk5 hR5|-;have hRD:w.heap.size<w4.heap.size:=ω;have hDB:w.heap.size<=w4.heap.size:=ω;generalize w4.heap.size=D at hD hRD hDB|-;clear c0 c1 c2 c3 c4 c5 c6 c7;have kC:#[Value.int .u32 (V s.a),.int .u32 (V s.b),.int .u32 (V s.c),.int .u32 (V s.d),.int .u32 (V s.e),.int .u32 (V s.f),.int .u32 (V s.g),.int .u32 (V s.h)]=(nP (jS s)).toArray:=rfl;have apY:∀i:Nat,i<8->∀w':World,(Instr.index 169 (.agg #[Value.int .u32 (V s.a),.int .u32 (V s.b),.int .u32 (V s.c),.int .u32 (V s.d),.int .u32 (V s.e),.int .u32 (V s.f),.int .u32 (V s.g),.int .u32 (V s.h)]) (.int .i64 (i:Int))).run prog w'=.ok (.int .u32 (V (gP.nw (jS s) i))) w':=λi hi w'=>Ip _ 168 8 _ _ _ underlying169 _ ω ω (by rw[kC,eO,cN];exact wA _ _ hi) aG9 aG9 _;have axS:=η apY;have P1:=η hD;have P2:=η hk5;have P3:=η hR5;clear apY kC hD hk5 hR5;obtain⟨wp,rfl⟩:∃wp:World,wp=wr:=⟨_,rfl⟩;go_loopw [45] (λv wl=>∃i:Nat,i<=8/\v=.int .i64 i/\Row wl D (w8 ((gP.out s).take (4*i)++List.replicate (32-4*i) 0))/\ik (λk=>k=D) w5 wl) (λv _=>8-(intOf v).toNat);exact⟨0,by omega,rfl,P1.o,ik.refl _ _⟩;obtain⟨i,hi,rfl,jb,hk⟩:=hrel;by_cases gV:i<8
  ·have hx:=axS.o i gV;have g1:=η jb;have g2:=η hk;have Hz:(w8 ((gP.out s).take (4*i)++List.replicate (32-4*i) 0)).length=32:=by simp[w8,gP.nJ];omega
   have cw:∀j,j<32->∃v,wr.cell? ⟨D,j,none⟩=some v:=λj hj=>⟨_,by rw[jb.cell];exact ag ω⟩;obtain⟨u0,d0⟩:=cw (4*i) ω;obtain⟨u1,d1⟩:=cw (4*i+1) ω;obtain⟨u2,d2⟩:=cw (4*i+2) ω;obtain⟨u3,d3⟩:=cw (4*i+3) ω;have z0:=jb.free (4*i);have z1:=jb.free (4*i+1);have z2:=jb.free (4*i+2);have z3:=jb.free (4*i+3);clear jb hk Hz cw;have p0:(0:Int)<=4*(i:Int):=ω;have p1:4*(i:Int)<32:=ω;have p2:4*(i:Int)+1<32:=ω;have p3:4*(i:Int)+2<32:=ω;have p4:4*(i:Int)+3<32:=ω;go_wp2_with fail;refine⟨⟨i+1,by omega,by go_num,?_,(((g2.o.set ⟨D,4*i,none⟩ _ rfl).set ⟨D,4*i+1,none⟩ _ rfl).set ⟨D,4*i+2,none⟩ _ rfl).set ⟨D,4*i+3,none⟩ _ rfl⟩,by simp[intOf];omega⟩
   obtain⟨q0,q1,q2,q3⟩:=gP.agr s i gV;have:=(((g1.o.set (4*i) (.int .u8 (Y (mA (gP.nw (jS s) i) 24).toUInt8))).set (4*i+1) (.int .u8 (Y (mA (gP.nw (jS s) i) 16).toUInt8))).set (4*i+2) (.int .u8 (Y (mA (gP.nw (jS s) i) 8).toUInt8))).set (4*i+3) (.int .u8 (Y (gP.nw (jS s) i).toUInt8));rw[arl _ i gV (gP.nJ s) _ _ _ _ q0 q1 q2 q3]at this;exact this
  obtain rfl:i=8:=by omega
  rw[show((8:Nat):Int)=8 from rfl];have uW:Row wr D (w8 (gP.out s)):=by have:=jb;rw[au (by rw[gP.nJ];decide)]at this;simpa using this
  have SZ:=hk.row P3.o (λh:w.heap.size=D=>by omega);go_wp2_with (first|(with_reducible refine agH (o:=⟨some 76,_,_,_,_,_⟩) rfl _ rfl D (gP.out s) (gP.nJ s) rfl uW ?_)|(with_reducible refine ng (o:=⟨none,_,_,_,_,_⟩) rfl _ _ rfl w.heap.size (List.replicate 32 0) (gP.out s) rfl (gP.nJ s) rfl rfl SZ ?_))
  rw[api.o];have OW:=(P2.o.trans (hk.weaken λk hk he=>.inr (hB k (by have IN:k=D:=he;omega)))).setRow w.heap.size (w8 (gP.out s)).toArray (.inr (hB _ ν));obtain⟨T2,GH⟩:=SZ.setRow (w8 (gP.out s));exact bodyPost_ret (v:=.agg (w8 (gP.out s)).toArray) (fH (fn:=Tryz.f108) rfl _ _ w.heap.size T2 _ (0,0) _ rfl GH fA rfl (by rw[Tryz.Gt,az,ir,gP.nJ])) rfl ⟨rfl,OW⟩
 have he:(L.length+1+j) % 64≠56:=λh=>hjz (Zg.1 h);have Ox:gP.lr L.length<64:=by unfold gP.lr;omega
 go_wp2_with fail;refine(rH S (λk=>O k/\k≠w.heap.size) _ [0] wr.heap.size 0 1 _ (HS.o.alloc _) (λh=>Az h.1) Zm (λh=>h1B h.1) aGv ω (Bytes.one wr 0 0 rfl _) (by rw[hM];simp;omega) ((HK.o.row H9.o (λh=>h.elim (λh=>Zm h.symm) h1B)).alloc _)).mono ?_
 rintro e w3⟨rfl,akW,II⟩;have hs3:wr.heap.size+1<=w3.heap.size:=by have:=II.size;simpa using this
 have DT:=II.row (HR.o.alloc _) (λh=>h.elim aFY (λh=>h.2 rfl));have hK3:ik (λk=>k=S∨O k) w w3:=(HK.o.alloc _).trans (II.weaken λk _ h=>h.imp id (λh=>h.1));have e3:L++[128]++List.replicate j (0:UInt8)++[0]=L++[128]++List.replicate (j+1) 0:=by rw[aL,dc]
 rw[e3]at akW;have A3:=η akW;have B3:=η DT;have C3:=η hK3;clear akW DT hK3 II c8;go_wp2_with fail;go_roundg (gk-1);exact⟨j+1,by omega,by omega,A3.o,C3.o,B3.o,by omega⟩;omega
def tF{P ops rest o a w Q}(pn:o.guard=none) src dst e x(ho:o.op=.convert src dst x) g off n cap l (hl:l.length=n) (hx:a.eval x=.slice (some ⟨g,off,none⟩) n cap) (hs:P.underlying src=some (.slice e)) (he:P.underlying e=some (.int .u8)) (hd:P.underlying dst=some .string) (hb:Bytes w g off l) (h:wpList P ops Q rest (a.put o.dst (.string (str l))) w):wpList P ops Q (o::rest) a w:=by subst hl;refine qV pn ?_ h;unfold execOp;simp only[ho,hx];rw[fh,oZ w src dst e g off cap l hs he hd hb];rfl
def Row.bytes{w b l}(h:Row w b (w8 l)):Bytes w b 0 l:=λj hj=>by rw[aC,h.cell,pO l j hj]
def gP.kI l:(gP.sum l).length=32:=gP.nJ _
def Ai{P} w src dst e l(hs:P.underlying src=some .string)(hd:P.underlying dst=some (.slice e))(he:P.underlying e=some (.int .u8)):∃cap w',(convert src dst (.string (str l))).run P w=.ok (.slice (some ⟨w.heap.size,0,none⟩) l.length cap) w'/\Below w.heap.size w w'/\Bytes w' w.heap.size 0 l/\w'.heap.size=w.heap.size+1:=by
 refine⟨_,_,(by have:=run_bytes_of_string w src dst e (str l) hs hd he;rw[nf]at this;exact this),((Below.refl _ _).drew).alloc ν _,λj hj=>?_,by simp⟩;have e1:∀(C:Array Value)(fr:Nat×Nat),(w.drew.alloc (.cells C e fr)).heap[w.heap.size]? =some (.cells C e fr):=λC fr=>by show(w.heap.push _)[w.heap.size]? =_;rw[dw]
 simp only[World.cell?,e1,aC,bytesRow];rw[dW (by simp[str];exact hj)];simp[str,nth,hj,Y]
def uL(w:World)(b o:Nat)(ps:List (List UInt8)):Prop:=∀j,j<ps.length->w.cell? ⟨b,o+j,none⟩=some (.string (str (ps.getD j [])))
def uL.below{B b o ps w w'}(hr:uL w b o ps)(h:Below B w w')(hb:b<B):uL w' b o ps:=λj hj=>by rw[<-hr j hj];exact fb (w:=w) (h.block b hb)
def join(ps:List (List UInt8)):List UInt8:=ps.flatten
def Y6(ps:List (List UInt8)) i(h:i<ps.length):join (ps.take (i+1))=join (ps.take i)++ps.getD i []:=by unfold join;rw[ax h,dr,ab,ag h];simp
def join_le ps i:(join (ps.take i)).length<=(join ps).length:=by
 have:join ps=join (ps.take i)++join (ps.drop i):=by unfold join;rw[<-dr,List.take_append_drop]
 rw[this,ai];omega
def km(w:World):Prop:=Row w 0 (nP (jS gP.begin))/\Row w 1 (nP gP.rounds)
theorem km.below{B w w'}(h:km w)(hb:Below B w w')(hB:1<B):km w':=⟨h.1.below hb ω,h.2.below hb hB⟩
theorem km.lt{w}(h:km w):1<w.heap.size:=h.2.lt
def ik.below{O w w'}(h:ik O w w') B(hB:B<=w.heap.size)(ho:∀k,k<B->¬O k):Below B w w':=⟨h.os,h.tape,h.output,h.size,λk hk=>h.block k ω (ho k hk)⟩
def yK b o c ps w(hT:km w)(hb:b<w.heap.size)(hp:uL w b o ps)(hm:(join ps).length<=35184372088832)(hn:ps.length<=9223372036854775807):Calls prog 66 #[.slice (some ⟨b,o,none⟩) ps.length c] w λe w'=>e=.returned (.agg (w8 (gP.sum (join ps))).toArray)/\Below w.heap.size w w':=by
 have h1:=hT.lt;have vM:∀j,j<8->(w.alloc (.cells (w8 (List.replicate 32 0)).toArray 76)).cell? ⟨0,j,none⟩=some (.int .u32 (V (gP.nw (jS gP.begin) j))):=λj hj=>by rw[(hT.1.alloc _).cell,wA _ _ aIW]
 have e32:(w8 (List.replicate 32 0)).toArray=#[.int .u8 0,.int .u8 0,.int .u8 0,.int .u8 0,.int .u8 0,.int .u8 0,.int .u8 0,.int .u8 0,.int .u8 0,.int .u8 0,.int .u8 0,.int .u8 0,.int .u8 0,.int .u8 0,.int .u8 0,.int .u8 0,.int .u8 0,.int .u8 0,.int .u8 0,.int .u8 0,.int .u8 0,.int .u8 0,.int .u8 0,.int .u8 0,.int .u8 0,.int .u8 0,.int .u8 0,.int .u8 0,.int .u8 0,.int .u8 0,.int .u8 0,.int .u8 0]:=κ;rw[e32]at vM;have c0:=vM 0 ω;have c1:=vM 1 ω;have c2:=vM 2 ω;have c3:=vM 3 ω;have c4:=vM 4 ω;have c5:=vM 5 ω;have c6:=vM 6 ω;have c7:=vM 7 ω;have HT:=η hT;have HP:=η hp;clear hT hp vM e32;go_enter func66,ntmps66;go_wp2_with fail;have hW:∀(o1:Obj)(T:TypeId),Row ((w.alloc o1).alloc (.cells (nP (jS gP.begin)++[Value.slice none 0 0,Value.int .u64 (U (UInt64.ofNat 0))]).toArray T)) (w.heap.size+1) (nP (jS gP.begin)++[Value.slice none 0 0,Value.int .u64 (U (UInt64.ofNat 0))]):=λo1 T=>by have:=Row.new (w.alloc o1) (nP (jS gP.begin)++[Value.slice none 0 0,Value.int .u64 (U (UInt64.ofNat 0))]) T;rwa[World.size_alloc]at this
 have hS:=hW (.cells (w8 (List.replicate 32 0)).toArray 76) 171;have hR:Row ((w.alloc (.cells (w8 (List.replicate 32 0)).toArray 76)).alloc (.cells (nP (jS gP.begin)++[Value.slice none 0 0,Value.int .u64 (U (UInt64.ofNat 0))]).toArray 171)) w.heap.size (w8 (List.replicate 32 0)):=(Row.new w _ _).alloc _;have hB:Below w.heap.size w ((w.alloc (.cells (w8 (List.replicate 32 0)).toArray 76)).alloc (.cells (nP (jS gP.begin)++[Value.slice none 0 0,Value.int .u64 (U (UInt64.ofNat 0))]).toArray 171)):=((Below.refl _ _).alloc ν _).alloc ζ _;have hZ:((w.alloc (.cells (w8 (List.replicate 32 0)).toArray 76)).alloc (.cells (nP (jS gP.begin)++[Value.slice none 0 0,Value.int .u64 (U (UInt64.ofNat 0))]).toArray 171)).heap.size=w.heap.size+2:=ζ;have ea:(.cells (w8 (List.replicate 32 0)).toArray 76:Obj)=.cells #[.int .u8 0,.int .u8 0,.int .u8 0,.int .u8 0,.int .u8 0,.int .u8 0,.int .u8 0,.int .u8 0,.int .u8 0,.int .u8 0,.int .u8 0,.int .u8 0,.int .u8 0,.int .u8 0,.int .u8 0,.int .u8 0,.int .u8 0,.int .u8 0,.int .u8 0,.int .u8 0,.int .u8 0,.int .u8 0,.int .u8 0,.int .u8 0,.int .u8 0,.int .u8 0,.int .u8 0,.int .u8 0,.int .u8 0,.int .u8 0,.int .u8 0,.int .u8 0] 76:=κ;have eb:(.cells (nP (jS gP.begin)++[Value.slice none 0 0,Value.int .u64 (U (UInt64.ofNat 0))]).toArray 171:Obj)=.cells #[.int .u32 (V (gP.nw (jS gP.begin) 0)),.int .u32 (V (gP.nw (jS gP.begin) 1)),.int .u32 (V (gP.nw (jS gP.begin) 2)),.int .u32 (V (gP.nw (jS gP.begin) 3)),.int .u32 (V (gP.nw (jS gP.begin) 4)),.int .u32 (V (gP.nw (jS gP.begin) 5)),.int .u32 (V (gP.nw (jS gP.begin) 6)),.int .u32 (V (gP.nw (jS gP.begin) 7)),.slice none 0 0,.int .u64 0] 171:=rfl;rw[ea,eb]at hS hR hB hZ;clear hW ea eb c0 c1 c2 c3 c4 c5 c6 c7;generalize(w.alloc _).alloc _=w1 at hS hR hB hZ|-;have ig:St w1 (w.heap.size+1) (λk=>w.heap.size<=k/\k≠w.heap.size/\k≠w.heap.size+1) []:=⟨_,hS,xX.nil w1 _⟩;have A1:=η ig;have A2:=η hR;have A3:=η hB;have hZ':w.heap.size+2<=w1.heap.size:=ω;clear ig hS hR hB hZ;go_loopw [11] (λv wr=>∃i:Nat,i<=ps.length/\v=.int .i64 i/\St wr (w.heap.size+1) (λk=>w.heap.size<=k/\k≠w.heap.size/\k≠w.heap.size+1) (join (ps.take i))/\Row wr w.heap.size (w8 (List.replicate 32 0))/\Below w.heap.size w wr/\w.heap.size+2<=wr.heap.size) (λv _=>ps.length-(intOf v).toNat);exact⟨0,by omega,rfl,A1.o,A2.o,A3.o,hZ'⟩;obtain⟨i,hi,rfl,ig,hR,hB,hz⟩:=hrel;by_cases gV:i<ps.length
 ·have cp:=(HP.o.below hB hb) i gV;have IJ:=Y6 ps i gV;obtain⟨p,hp⟩:∃p,p=ps.getD i []:=⟨_,rfl⟩;rw[<-hp]at cp IJ;clear hp;obtain⟨cap,wc,uK,tz,rC,pL⟩:=Ai (P:=prog) wr 9 35 5 p fp fq fu;have B1:=η ig;have B2:=η hR;have B3:=η hB;have B4:=η tz;have B5:=η rC;have aBS:wr.heap.size<wc.heap.size:=by omega
  have hjm:=join_le ps (i+1);rw[IJ,ai]at hjm;have B6:=η IJ;clear ig hR hB tz rC pL IJ;go_wp2_with fail;refine(rH (w.heap.size+1) (λk=>w.heap.size<=k/\k≠w.heap.size/\k≠w.heap.size+1) (join (ps.take i)) p wr.heap.size 0 cap wc (B1.o.keep (ik.gL B4.o) (λh=>h) (λ_ _ h=>h)) (λh=>h.2.2 rfl) ω (λh=>by have:=h.1;omega) aHv ω B5.o ω ((HT.o.below B3.o ω).2.below B4.o ω)).mono ?_;rintro e w2⟨rfl,qm,BN⟩;have pW:Below w.heap.size w w2:=(B3.o.trans (B4.o.mono ω)).trans (BN.below _ ω (λk hk h=>h.elim aFY aFY));have JV:=BN.row (B2.o.below B4.o ω) (λh=>h.elim aFY aIA);have zU:w.heap.size+2<=w2.heap.size:=by have:=BN.size;omega
  rw[<-B6.o]at qm;go_wp2_with fail;go_roundw
  ·exact⟨i+1,by omega,by go_num,qm,JV,pW,zU⟩
  simp[intOf];omega
 obtain rfl:i=ps.length:=by omega
 rw[au ν]at ig;have B1:=η ig;have B2:=η hR;have B3:=η hB;have hz':=hz;clear ig hR hB;go_wp2_with fail;refine(XW (w.heap.size+1) (λk=>w.heap.size<=k/\k≠w.heap.size/\k≠w.heap.size+1) (join ps) wr B1.o (λh=>h.2.2 rfl) ω (λh=>by have:=h.1;omega) aHv hm (HT.o.below B3.o ω).2).mono ?_;rintro e w2⟨rfl,BN⟩;have pW:Below w.heap.size w w2:=B3.o.trans (BN.below _ ω (λk hk h=>h.elim aFY aFY));have JV:=BN.row B2.o (λh=>h.elim aFY aIA);have C1:=η pW;clear BN pW;go_wp2_with (with_reducible refine ng (o:=⟨none,_,_,_,_,_⟩) rfl _ _ rfl w.heap.size (List.replicate 32 0) (gP.sum (join ps)) rfl (gP.kI _) rfl rfl JV ?_);obtain⟨T2,GH⟩:=JV.setRow (w8 (gP.sum (join ps)));have ow:Below w.heap.size w (w2.setRow w.heap.size (w8 (gP.sum (join ps))).toArray):=
  C1.o.trans (((ik.refl (λk=>k=w.heap.size) w2).setRow w.heap.size _ rfl).below _ (by have:=C1.o.size;omega) aGe)
 exact bodyPost_ret (v:=.agg (w8 (gP.sum (join ps))).toArray) (fH (fn:=Tryz.f66) rfl _ _ w.heap.size T2 _ (0,0) _ rfl GH fA rfl aHh) rfl ⟨rfl,ow⟩
def zL l:join [l]=l:=by simp[join]
def zK l m:join [l,m]=l++m:=by simp[join]
def acG b c l w(hT:km w)(hc:w.cell? ⟨b,0,none⟩=some (.string (str l)))(hm:l.length<=35184372088832):Calls prog 66 #[.slice (some ⟨b,0,none⟩) 1 c] w λe w'=>e=.returned (.agg (w8 (gP.sum l)).toArray)/\Below w.heap.size w w':=by have:=yK b 0 c [l] w hT (fP hc) (λj hj=>by have Qm:j=0:=aGx;subst Qm;exact hc) (by rw[zL];exact hm) ζ;rw[zL]at this;exact this
def acF b c l m w(hT:km w)(hc:w.cell? ⟨b,0,none⟩=some (.string (str l)))(hd:w.cell? ⟨b,1,none⟩=some (.string (str m)))(hm:l.length+m.length<=35184372088832):Calls prog 66 #[.slice (some ⟨b,0,none⟩) 2 c] w λe w'=>e=.returned (.agg (w8 (gP.sum (l++m))).toArray)/\Below w.heap.size w w':=by have:=yK b 0 c [l,m] w hT (fP hc) (λj hj=>by have Qm:j=0∨j=1:=aGx;rcases Qm with rfl|rfl;exact hc;exact hd) (by rw[zK,ai];exact hm) ζ;rw[zK]at this;exact this
def Tryz.xY:(w8 (List.replicate 32 0)).toArray=#[Value.int .u8 0,.int .u8 0,.int .u8 0,.int .u8 0,.int .u8 0,.int .u8 0,.int .u8 0,.int .u8 0,.int .u8 0,.int .u8 0,.int .u8 0,.int .u8 0,.int .u8 0,.int .u8 0,.int .u8 0,.int .u8 0,.int .u8 0,.int .u8 0,.int .u8 0,.int .u8 0,.int .u8 0,.int .u8 0,.int .u8 0,.int .u8 0,.int .u8 0,.int .u8 0,.int .u8 0,.int .u8 0,.int .u8 0,.int .u8 0,.int .u8 0,.int .u8 0]:=κ
def Mk.gC(l:List UInt8):List UInt8:=gP.sum (gP.sum l)
def zS b o c ps w(hT:km w)(hb:b<w.heap.size)(hp:uL w b o ps)(hm:(join ps).length<=35184372088832)(hn:ps.length<=9223372036854775807):Calls prog 90 #[.slice (some ⟨b,o,none⟩) ps.length c] w λe w'=>e=.returned (.agg (w8 (Mk.gC (join ps))).toArray)/\Below w.heap.size w w':=by
 have h1:=hT.lt;have HT:=η hT;have HP:=η hp;clear hT hp;go_enter func90,ntmps90;go_wp2_with fail;have hR:Row (w.alloc (.cells (w8 (List.replicate 32 0)).toArray 76)) w.heap.size (w8 (List.replicate 32 0)):=Row.new w _ _;have hB:Below w.heap.size w (w.alloc (.cells (w8 (List.replicate 32 0)).toArray 76)):=(Below.refl _ _).alloc ν _;have hZ:(w.alloc (.cells (w8 (List.replicate 32 0)).toArray 76)).heap.size=w.heap.size+1:=ζ
 rw[Tryz.xY]at hR hB hZ;generalize w.alloc _=w1 at hR hB hZ|-;have B1:=η hR;have B2:=η hB;have hZ':w.heap.size+1<=w1.heap.size:=ω;clear hR hB hZ;refine(yK b o c ps w1 (HT.o.below B2.o ω) ω (HP.o.below B2.o ω) hm hn).mono ?_;rintro e w2⟨rfl,pW⟩;have kS:=pW.size;have DT:Row (w2.alloc (.cells (w8 (List.replicate 32 0)).toArray 76)) w2.heap.size (w8 (List.replicate 32 0)):=Row.new w2 _ _;have Da:Below w2.heap.size w2 ((w2.alloc (.cells (w8 (List.replicate 32 0)).toArray 76)).setRow w2.heap.size (w8 (gP.sum (join ps))).toArray):=below_setRow ((Below.refl _ _).alloc ν _) ν _;have rn:((w2.alloc (.cells (w8 (List.replicate 32 0)).toArray 76)).setRow w2.heap.size (w8 (gP.sum (join ps))).toArray).heap.size=w2.heap.size+1:=ζ;have Ic:=DT.setRow (w8 (gP.sum (join ps)));rw[Tryz.xY]at DT Da rn Ic;go_wp2_with (first|(with_reducible refine ng (o:=⟨none,_,_,_,_,_⟩) rfl _ _ rfl w2.heap.size (List.replicate 32 0) (gP.sum (join ps)) rfl (gP.kI _) rfl rfl DT ?_)|(with_reducible refine tF (o:=⟨some 7,_,_,_,_,_⟩) rfl _ _ _ _ rfl w2.heap.size 0 32 32 (gP.sum (join ps)) (gP.kI _) rfl fq fu fp Ic.bytes ?_));clear DT Ic;generalize World.setRow _ _ _=w3 at Da rn|-;have z7:=Row.new w3 [.string (str (gP.sum (join ps)))] 9;rw[rn]at z7;have hB4:Below w.heap.size w w3:=(B2.o.trans (pW.mono ω)).trans (Da.mono ω);refine(acG (w2.heap.size+1) 1 (gP.sum (join ps)) _ (HT.o.below (hB4.alloc ω _) ω) (z7.cell 0) (by rw[gP.kI];decide)).mono ?_;rintro e w5⟨rfl,hB5⟩;have SQ:=hB5.size;rw[World.size_alloc]at SQ;have hBB:Below w.heap.size w w5:=(hB4.alloc ω _).trans (hB5.mono χ);have hRR:Row w5 w.heap.size (w8 (List.replicate 32 0)):=((((B1.o.below pW ω).below Da ω).alloc _).below hB5 χ);clear z7 hB4 hB5 Da pW;have C1:=η hBB;clear hBB;go_wp2_with (with_reducible refine ng (o:=⟨none,_,_,_,_,_⟩) rfl _ _ rfl w.heap.size (List.replicate 32 0) (gP.sum (gP.sum (join ps))) rfl (gP.kI _) rfl rfl hRR ?_);obtain⟨T2,GH⟩:=hRR.setRow (w8 (gP.sum (gP.sum (join ps))));have ow:Below w.heap.size w (w5.setRow w.heap.size (w8 (gP.sum (gP.sum (join ps)))).toArray):=below_setRow C1.o ν _;exact bodyPost_ret (v:=.agg (w8 (gP.sum (gP.sum (join ps)))).toArray) (fH (fn:=Tryz.f90) rfl _ _ w.heap.size T2 _ (0,0) _ rfl GH fA rfl aHh) rfl ⟨rfl,ow⟩
def Gw b c l w(hT:km w)(hc:w.cell? ⟨b,0,none⟩=some (.string (str l)))(hm:l.length<=35184372088832):Calls prog 90 #[.slice (some ⟨b,0,none⟩) 1 c] w λe w'=>e=.returned (.agg (w8 (Mk.gC l)).toArray)/\Below w.heap.size w w':=by have:=zS b 0 c [l] w hT (fP hc) (λj hj=>by have Qm:j=0:=aGx;subst Qm;exact hc) (by rw[zL];exact hm) ζ;rw[zL]at this;exact this
def akQ b c l m w(hT:km w)(hc:w.cell? ⟨b,0,none⟩=some (.string (str l)))(hd:w.cell? ⟨b,1,none⟩=some (.string (str m)))(hm:l.length+m.length<=35184372088832):Calls prog 90 #[.slice (some ⟨b,0,none⟩) 2 c] w λe w'=>e=.returned (.agg (w8 (Mk.gC (l++m))).toArray)/\Below w.heap.size w w':=by have:=zS b 0 c [l,m] w hT (fP hc) (λj hj=>by have Qm:j=0∨j=1:=aGx;rcases Qm with rfl|rfl;exact hc;exact hd) (by rw[zK,ai];exact hm) ζ;rw[zK]at this;exact this
def adu w m T:Below w.heap.size w ((w.alloc (.cells (w8 (List.replicate 32 0)).toArray T)).setRow w.heap.size (w8 m).toArray)/\((w.alloc (.cells (w8 (List.replicate 32 0)).toArray T)).setRow w.heap.size (w8 m).toArray).heap.size=w.heap.size+1/\Row ((w.alloc (.cells (w8 (List.replicate 32 0)).toArray T)).setRow w.heap.size (w8 m).toArray) w.heap.size (w8 m)/\Row (w.alloc (.cells (w8 (List.replicate 32 0)).toArray T)) w.heap.size (w8 (List.replicate 32 0)):=⟨below_setRow ((Below.refl _ _).alloc ν _) ν _,by simp,(Row.new w _ _).setRow _,Row.new w _ _⟩
end
