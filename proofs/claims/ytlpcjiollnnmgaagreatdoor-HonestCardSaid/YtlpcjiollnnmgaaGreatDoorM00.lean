import Derived.Test.YtlpcjiollnnmgaaGreatDoorMZ
import Derived.Lib.Hide
import Derived.WalkSpells
import Derived.WalkLawsBesides
import Derived.Deep.DeepCutAuto
import Derived.Deep.RegionHeld3
import Derived.BigQuiet
import Derived.StillTailTactics
import Derived.Laws.CopyOwn
import Derived.Test.YtlpcjiollnnmgaaGreatDoorCards
import Derived.Test.YtlpcjiollnnmgaaGreatDoorTie
import Derived.ProofKit
import Derived.OpenShut
import Derived.ShutString
import Derived.Deep.DeepHandedRow
import Derived.Lib.LaidTab
set_option maxRecDepth 100000
set_option maxHeartbeats 8000000
set_option linter.all false
namespace Go.Proofs.YtlpcjiollnnmgaaGreatDoor
open Go.Proofs.Tryz
section
def Y(x:UInt8):Int:=(x.toNat:Int)
def V(x:UInt32):Int:=(x.toNat:Int)
def U(x:UInt64):Int:=(x.toNat:Int)
namespace ba
def shl(x:UInt64)(n:Nat):UInt64:=UInt64.ofNat (x.toNat*2^n)
def shr(x:UInt64)(n:Nat):UInt64:=UInt64.ofNat (x.toNat/2^n)
def rotl(x:UInt64)(n:Nat):UInt64:=shl x n ||| shr x (64-n)
def tp(x:UInt32)(n:Nat):UInt32:=UInt32.ofNat (x.toNat*2^n)
def kr(x:UInt32)(n:Nat):UInt32:=UInt32.ofNat (x.toNat/2^n)
def fp(x:UInt32)(n:Nat):UInt32:=kr x n ||| tp x (32-n)
def ajf x:0<=U x/\U x<18446744073709551616:=by have:=x.toNat_lt;unfold U;omega
def yx x:0<=V x/\V x<4294967296:=by have:=x.toNat_lt;unfold V;omega
def abJ x:0<=Y x/\Y x<256:=by have:=x.toNat_lt;unfold Y;omega
def YI{x y}(h:U x=U y):x=y:=by unfold U at h;exact UInt64.toNat_inj.1 (by omega)
def adn{x y}(h:V x=V y):x=y:=by unfold V at h;exact UInt32.toNat_inj.1 (by omega)
def YF{x y}(h:Y x=Y y):x=y:=by unfold Y at h;exact UInt8.toNat_inj.1 (by omega)
@[go_sem] def aym x y:(U x==U y)=(x==y):=by rw[Bool.eq_iff_iff];simp only[beq_iff_eq];exact⟨YI,λh=>by rw[h]⟩
@[go_sem] def ayk x y:(Y x==Y y)=(x==y):=by rw[Bool.eq_iff_iff];simp only[beq_iff_eq];exact⟨YF,λh=>by rw[h]⟩
@[go_sem] def ayl x y:(V x==V y)=(x==y):=by rw[Bool.eq_iff_iff];simp only[beq_iff_eq];exact⟨adn,λh=>by rw[h]⟩
@[go_sem] def apr x:((x.toNat:Nat):Int)=Y x:=rfl
def lK n:U (UInt64.ofNat n)=((n % 18446744073709551616:Nat):Int):=by unfold U;rw[UInt64.toNat_ofNat']
def fV(n:Nat):IntKind.u64.wrap (n:Int)=U (UInt64.ofNat n):=by rw[IntKind.wrap_u64,lK];omega
@[go_sem] def Zv x y:IntKind.u64.wrap (U x+U y)=U (x+y):=by rw[IntKind.wrap_u64];unfold U;rw[UInt64.toNat_add];omega
def Zu x y:IntKind.u64.wrap (U x*U y)=U (x*y):=by rw[IntKind.wrap_u64];unfold U;rw[UInt64.toNat_mul];omega
@[go_sem] def Zr x y:IntKind.u64.wrap (U x-U y)=U (x-y):=by rw[IntKind.wrap_u64];unfold U;rw[UInt64.toNat_sub];have:=x.toNat_lt;have:=y.toNat_lt;omega
@[go_sem] def Uw x y:bits .xor .u64 (U x) (U y)=U (x ^^^ y):=by unfold U;rw[u64_xor_nat _ _ x.toNat_lt y.toNat_lt,UInt64.toNat_xor]
@[go_sem] def Zt x y:bits .or .u64 (U x) (U y)=U (x ||| y):=by unfold U;rw[u64_or_nat _ _ x.toNat_lt y.toNat_lt,UInt64.toNat_or]
@[go_sem] def Ux x y:bits .and .u64 (U x) (U y)=U (x&&&y):=by unfold U;rw[u64_and_nat _ _ x.toNat_lt y.toNat_lt,UInt64.toNat_and]
@[go_sem] def Zs x n:IntKind.u64.wrap (U x*2^n)=U (shl x n):=by rw[IntKind.wrap_u64];unfold shl;rw[lK,Int.natCast_emod,Int.natCast_mul,Int.natCast_pow];rfl
def N9 x n:(U x).fdiv (2^n)=U (shr x n):=by unfold shr;rw[lK];unfold U;have h:x.toNat/2^n<18446744073709551616:=Nat.lt_of_le_of_lt (Nat.div_le_self _ _) x.toNat_lt;rw[Nat.mod_eq_of_lt h,Int.fdiv_eq_ediv_of_nonneg _ (Int.pow_nonneg (by decide)),Int.natCast_ediv,Int.natCast_pow];rfl
@[go_sem] def akM x n:U x/2^n=U (shr x n):=by rw[<-N9,Int.fdiv_eq_ediv_of_nonneg _ (Int.pow_nonneg (by decide))]
def On x n(h:64<=n):shl x n=0:=by
 unfold shl;have:x.toNat*2^n=18446744073709551616*(x.toNat*2^ (n-64)):=by
  have e:n=64+(n-64):=by omega
  rw[e,Nat.pow_add];simp only[Nat.add_sub_cancel_left];show x.toNat*(18446744073709551616*2^ (n-64))=_;rw[Nat.mul_left_comm]
 apply UInt64.toNat_inj.1;rw[UInt64.toNat_ofNat',this];exact Nat.mul_mod_right _ _
def Om x n(h:64<=n):shr x n=0:=by
 unfold shr;have:x.toNat/2^n=0:=by apply Nat.div_eq_of_lt;exact Nat.lt_of_lt_of_le x.toNat_lt (Nat.pow_le_pow_right (by decide) h)
 rw[this];rfl
def iM(y:Int):UInt64:=UInt64.ofNat (y % 18446744073709551616).toNat
def j6 y:U (iM y)=y % 18446744073709551616:=by unfold iM;rw[lK];omega
@[go_sem] def awo x:iM (U x)=x:=by apply YI;rw[j6];have:=ajf x;omega
@[go_sem] def aop (n:Nat):iM (n:Int)=UInt64.ofNat n:=by apply YI;rw[j6,lK];omega
def Rt y:BitVec.ofInt 64 (U (iM y))=BitVec.ofInt 64 y:=by apply BitVec.eq_of_toNat_eq;rw[BitVec.toNat_ofInt,BitVec.toNat_ofInt,j6];have e:((2^64:Nat):Int)=18446744073709551616:=rfl;rw[e,Int.emod_emod]
def Cw op x y:bits op .u64 x (U (iM y))=bits op .u64 x y:=by have e':BitVec.ofInt IntKind.u64.bits (U (iM y))=BitVec.ofInt IntKind.u64.bits y:=Rt y;unfold bits;rw[e']
section
variable(t:TypeId)(x:UInt64)(y:Int)
@[go_sem high] def ahe:binOp .xor t (.int .u64 (U x)) (.int .u64 y)=pure (.int .u64 (U (x ^^^ iM y))):=by rw[<-Uw,Cw];rfl
@[go_sem high] def ajQ:binOp .or t (.int .u64 (U x)) (.int .u64 y)=pure (.int .u64 (U (x ||| iM y))):=by rw[<-Zt,Cw];rfl
@[go_sem high] def ahj:binOp .and t (.int .u64 (U x)) (.int .u64 y)=pure (.int .u64 (U (x&&&iM y))):=by rw[<-Ux,Cw];rfl
@[go_sem high] def ahk:binOp .add t (.int .u64 (U x)) (.int .u64 y)=pure (.int .u64 (U (x+iM y))):=by
 have e:IntKind.u64.wrap (U x+y)=U (x+iM y):=by rw[<-Zv,IntKind.wrap_u64,IntKind.wrap_u64,j6];omega
 simp only[binOp,Op.intArith,e];rfl
@[go_sem high] def ahf:binOp .sub t (.int .u64 y) (.int .u64 (U x))=pure (.int .u64 (U (iM y-x))):=by
 have e:IntKind.u64.wrap (y-U x)=U (iM y-x):=by rw[<-Zr,IntKind.wrap_u64,IntKind.wrap_u64,j6];omega
 simp only[binOp,Op.intArith,e];rfl
@[go_sem high] def ahi:binOp .mul t (.int .u64 (U x)) (.int .u64 y)=pure (.int .u64 (U (x*iM y))):=by
 have e:IntKind.u64.wrap (U x*y)=U (x*iM y):=by rw[<-Zu,IntKind.wrap_u64,IntKind.wrap_u64,j6,Int.mul_emod,Int.mul_emod (U x) (y % _),Int.emod_emod]
 simp only[binOp,Op.intArith,e];rfl
@[go_sem high] def ahh yk (h:0<=y):binOp .shl t (.int .u64 (U x)) (.int yk y)=pure (.int .u64 (U (shl x y.toNat))):=by simp only[binOp,Op.shift,if_neg (show¬y<0 by omega),Zs];by_cases c:y.toNat<=64;rw[show min y.toNat IntKind.u64.bits=y.toNat from Nat.min_eq_left c];rw[show min y.toNat IntKind.u64.bits=64 from Nat.min_eq_right (Nat.le_of_lt (Nat.lt_of_not_le c)),On x 64 (by omega),On x y.toNat (by omega)]
@[go_sem high] def ahg yk (h:0<=y):binOp .shr t (.int .u64 (U x)) (.int yk y)=pure (.int .u64 (U (shr x y.toNat))):=by simp only[binOp,Op.shift,if_neg (show¬y<0 by omega),N9];by_cases c:y.toNat<=64;rw[show min y.toNat IntKind.u64.bits=y.toNat from Nat.min_eq_left c];rw[show min y.toNat IntKind.u64.bits=64 from Nat.min_eq_right (Nat.le_of_lt (Nat.lt_of_not_le c)),Om x 64 (by omega),Om x y.toNat (by omega)]
end
@[go_sem] def anW x:0<=U x:=(ajf x).1
@[go_sem] def anV x:0<=V x:=(yx x).1
@[go_sem] def anU x:0<=Y x:=(abJ x).1
@[go_sem] def ab7 b:IntKind.u64.wrap (Y b)=U b.toUInt64:=by unfold Y;rw[fV];congr 1;apply UInt64.toNat_inj.1;simp
@[go_sem] def adL (n:Nat):IntKind.u64.wrap (n:Int)=U (UInt64.ofNat n):=fV n
@[go_sem low] def adM y:IntKind.u64.wrap y=U (iM y):=by rw[IntKind.wrap_u64,j6]
@[go_sem] def adK x:IntKind.u64.wrap (U x)=U x:=by have:=ajf x;rw[IntKind.wrap_u64];omega
@[go_sem] def ajL (n:Nat):IntKind.u8.wrap (n:Int)=Y (UInt8.ofNat n):=by rw[IntKind.wrap_u8'];unfold Y;rw[UInt8.toNat_ofNat'];omega
@[go_sem] def ajJ x:IntKind.u8.wrap (U x)=Y x.toUInt8:=by rw[IntKind.wrap_u8'];unfold Y U;rw[UInt64.toNat_toUInt8];omega
@[go_sem] def akL x:IntKind.u8.wrap (Y x)=Y x:=by have:=abJ x;rw[IntKind.wrap_u8'];omega
@[go_sem] def ajU x:IntKind.i64.wrap (Y x)=Y x:=by have:=abJ x;exact IntWalk.i64_in _ (by omega)
def YH n:V (UInt32.ofNat n)=((n % 4294967296:Nat):Int):=by unfold V;rw[UInt32.toNat_ofNat']
def Qm(y:Int):UInt32:=UInt32.ofNat (y % 4294967296).toNat
def YG y:V (Qm y)=y % 4294967296:=by unfold Qm;rw[YH];omega
@[go_sem] def awn x:Qm (V x)=x:=by apply adn;rw[YG];have:=yx x;omega
def Js y:BitVec.ofInt 32 (V (Qm y))=BitVec.ofInt 32 y:=by apply BitVec.eq_of_toNat_eq;rw[BitVec.toNat_ofInt,BitVec.toNat_ofInt,YG];have e:((2^32:Nat):Int)=4294967296:=rfl;rw[e,Int.emod_emod]
def Cv op x y:bits op .u32 x (V (Qm y))=bits op .u32 x y:=by have e':BitVec.ofInt IntKind.u32.bits (V (Qm y))=BitVec.ofInt IntKind.u32.bits y:=Js y;unfold bits;rw[e']
@[go_sem] def Io x y:bits .xor .u32 (V x) (V y)=V (x ^^^ y):=by unfold V;rw[u32_xor_nat _ _ x.toNat_lt y.toNat_lt,UInt32.toNat_xor]
@[go_sem] def Zw x y:bits .or .u32 (V x) (V y)=V (x ||| y):=by unfold V;rw[u32_or_nat _ _ x.toNat_lt y.toNat_lt,UInt32.toNat_or]
@[go_sem] def Uy x y:bits .and .u32 (V x) (V y)=V (x&&&y):=by unfold V;rw[u32_and_nat _ _ x.toNat_lt y.toNat_lt,UInt32.toNat_and]
def Ob x n:IntKind.u32.wrap (V x*2^n)=V (tp x n):=by rw[IntKind.wrap_u32'];unfold tp;rw[YH,Int.natCast_emod,Int.natCast_mul,Int.natCast_pow];rfl
def Oa x n:(V x).fdiv (2^n)=V (kr x n):=by unfold kr;rw[YH];unfold V;have h:x.toNat/2^n<4294967296:=Nat.lt_of_le_of_lt (Nat.div_le_self _ _) x.toNat_lt;rw[Nat.mod_eq_of_lt h,Int.fdiv_eq_ediv_of_nonneg _ (Int.pow_nonneg (by decide)),Int.natCast_ediv,Int.natCast_pow];rfl
def SH(x:UInt32)(n:Nat):Int:=V x*2^n
def SM:List UInt32->Int
 |[]=>0|x::l=>V x+SM l
def fO:List UInt32->UInt32
 |[]=>0|x::l=>x+fO l
theorem Qa:∀l,0<=SM l/\SM l<=4294967296*(l.length:Int)
 |[]=>by simp[SM]|x::l=>by have:=Qa l;have:=yx x;simp only[SM,List.length_cons];omega
def Tt l m:SM (l++m)=SM l+SM m:=by induction l with|nil=>simp[SM]|cons x l ih=>simp only[List.cons_append,SM,ih];omega
theorem YL:∀l,SM l % 4294967296=V (fO l)
 |[]=>rfl|x::l=>by
  have ih:=YL l;have h:V (x+fO l)=(V x+V (fO l)) % 4294967296:=by unfold V;rw[UInt32.toNat_add];omega
  simp only[SM,fO];rw[h,<-ih];omega
section
variable(t:TypeId)(x:UInt32)(y:Int)
@[go_sem high] def ahl:binOp .xor t (.int .u32 (V x)) (.int .u32 y)=pure (.int .u32 (V (x ^^^ Qm y))):=by rw[<-Io,Cv];rfl
@[go_sem high] def ajR:binOp .or t (.int .u32 (V x)) (.int .u32 y)=pure (.int .u32 (V (x ||| Qm y))):=by rw[<-Zw,Cv];rfl
@[go_sem high] def aho:binOp .and t (.int .u32 (V x)) (.int .u32 y)=pure (.int .u32 (V (x&&&Qm y))):=by rw[<-Uy,Cv];rfl
@[go_sem high] def ahp:binOp .add t (.int .u32 (V x)) (.int .u32 y)=pure (.int .u32 (V (x+Qm y))):=by
 have e:IntKind.u32.wrap (V x+y)=V (x+Qm y):=by
  have h:V (x+Qm y)=(V x+V (Qm y)) % 4294967296:=by unfold V;rw[UInt32.toNat_add];omega
  rw[h,IntKind.wrap_u32',YG];omega
 simp only[binOp,Op.intArith,e];rfl
@[go_sem high] def ahn yk (h:0<=y) (h':y<=32):binOp .shl t (.int .u32 (V x)) (.int yk y)=pure (.int .u32 (V (tp x y.toNat))):=by simp only[binOp,Op.shift,if_neg (show¬y<0 by omega),Ob];rw[show min y.toNat IntKind.u32.bits=y.toNat from Nat.min_eq_left (show y.toNat<=32 by omega)]
@[go_sem high] def ahm yk (h:0<=y) (h':y<=32):binOp .shr t (.int .u32 (V x)) (.int yk y)=pure (.int .u32 (V (kr x y.toNat))):=by simp only[binOp,Op.shift,if_neg (show¬y<0 by omega),Oa];rw[show min y.toNat IntKind.u32.bits=y.toNat from Nat.min_eq_left (show y.toNat<=32 by omega)]
def kV x:(BitVec.ofInt 64 (V x)).toNat=x.toNat:=by unfold V;rw[BitVec.ofInt_natCast,BitVec.toNat_ofNat];exact Nat.mod_eq_of_lt (by have:=x.toNat_lt;omega)
def zb x:IntKind.i64.wrap (x.toNat:Int)=V x:=by have:=x.toNat_lt;exact IntWalk.i64_in _ (by omega)
@[go_sem] def alg x y:bits .xor .i64 (V x) (V y)=V (x ^^^ y):=by show IntKind.i64.wrap ((BitVec.ofInt 64 (V x) ^^^ BitVec.ofInt 64 (V y)).toNat:Int)=_;rw[BitVec.toNat_xor,kV,kV,<-UInt32.toNat_xor,zb]
@[go_sem] def aoy x y:bits .or .i64 (V x) (V y)=V (x ||| y):=by show IntKind.i64.wrap ((BitVec.ofInt 64 (V x) ||| BitVec.ofInt 64 (V y)).toNat:Int)=_;rw[BitVec.toNat_or,kV,kV,<-UInt32.toNat_or,zb]
@[go_sem] def Wn x y:bits .and .i64 (V x) (V y)=V (x&&&y):=by show IntKind.i64.wrap ((BitVec.ofInt 64 (V x)&&&BitVec.ofInt 64 (V y)).toNat:Int)=_;rw[BitVec.toNat_and,kV,kV,<-UInt32.toNat_and,zb]
@[go_sem] def alh x:bits .and .i64 (V x) 4294967295=V x:=by have h:=Wn x 4294967295;have e:V 4294967295=4294967295:=rfl;rw[e]at h;rw[h];congr 1;apply UInt32.toNat_inj.1;rw[UInt32.toNat_and];have:=x.toNat_lt;exact Nat.and_two_pow_sub_one_of_lt_two_pow (n:=32) this
@[go_sem high] def ahs yk (h:0<=y) (h':y<=32):binOp .shr t (.int .i64 (V x)) (.int yk y)=pure (.int .i64 (V (kr x y.toNat))):=by simp only[binOp,Op.shift,if_neg (show¬y<0 by omega),Oa];rw[show min y.toNat IntKind.i64.bits=y.toNat from Nat.min_eq_left (show y.toNat<=64 by omega)]
@[go_sem high] def aht yk (h:0<=y) (h':y<=30):binOp .shl t (.int .i64 (V x)) (.int yk y)=pure (.int .i64 (SH x y.toNat)):=by
 simp only[binOp,Op.shift,if_neg (show¬y<0 by omega)];rw[show min y.toNat IntKind.i64.bits=y.toNat from Nat.min_eq_left (show y.toNat<=64 by omega)];have hb:V x*2^y.toNat<=4294967296*1073741824:=by
  have h1:=yx x;have h2:(2:Int)^y.toNat<=1073741824:=by have:(2:Nat)^y.toNat<=2^30:=Nat.pow_le_pow_right (by decide) (by omega);have h3:((2^y.toNat:Nat):Int)<=((2^30:Nat):Int):=Int.ofNat_le.2 this;rw[Int.natCast_pow]at h3;exact h3
  exact Int.mul_le_mul (by omega) h2 (Int.pow_nonneg (by decide)) (by decide)
 have h0:0<=V x*2^y.toNat:=Int.mul_nonneg (yx x).1 (Int.pow_nonneg (by decide));rw[IntWalk.i64_in _ (by omega)];rfl
@[go_sem high] def Z8 n:binOp .rem t (.int .i64 (SH x n)) (.int .i64 4294967296)=pure (.int .i64 (V (tp x n))):=by
 have h0:0<=SH x n:=Int.mul_nonneg (yx x).1 (Int.pow_nonneg (by decide));have e:(SH x n).tmod 4294967296=V (tp x n):=by rw[Int.tmod_eq_emod_of_nonneg h0,<-Ob,IntKind.wrap_u32'];rfl
 simp only[binOp,Op.intDiv,e];rfl
@[go_sem high] def acp x y:binOp .add t (.int .i64 (V x)) (.int .i64 (V y))=pure (.int .i64 (SM [x,y])):=by
 have e:IntKind.i64.wrap (V x+V y)=SM [x,y]:=by have:=yx x;have:=yx y;simp only[SM];rw[IntWalk.i64_in _ (by omega)];omega
 simp only[binOp,Op.intArith,e];rfl
@[go_sem high] def aco l y (h:l.length<=1000):binOp .add t (.int .i64 (SM l)) (.int .i64 (V y))=pure (.int .i64 (SM (l++[y]))):=by
 have e:IntKind.i64.wrap (SM l+V y)=SM (l++[y]):=by have:=Qa l;have:=yx y;rw[Tt];simp only[SM];rw[IntWalk.i64_in _ (by omega)];omega
 simp only[binOp,Op.intArith,e];rfl
@[go_sem high] def acn l y (h:l.length<=1000):binOp .add t (.int .i64 (V y)) (.int .i64 (SM l))=pure (.int .i64 (SM (y::l))):=by
 have e:IntKind.i64.wrap (V y+SM l)=SM (y::l):=by have:=Qa l;have:=yx y;simp only[SM];rw[IntWalk.i64_in _ (by omega)]
 simp only[binOp,Op.intArith,e];rfl
@[go_sem high] def Z0 l:binOp .rem t (.int .i64 (SM l)) (.int .i64 4294967296)=pure (.int .i64 (V (fO l))):=by
 have e:(SM l).tmod 4294967296=V (fO l):=by rw[Int.tmod_eq_emod_of_nonneg (Qa l).1,YL]
 simp only[binOp,Op.intDiv,e];rfl
@[go_sem high] def ahu:binOp .sub t (.int .i64 4294967295) (.int .i64 (V x))=pure (.int .i64 (V (~~~x))):=by
 have e:IntKind.i64.wrap (4294967295-V x)=V (~~~x):=by have:=yx x;rw[IntWalk.i64_in _ (by omega)];unfold V;rw[UInt32.toNat_not];have:=x.toNat_lt;have hs:UInt32.size=4294967296:=rfl;omega
 simp only[binOp,Op.intArith,e];rfl
def VG x:(4294967295:UInt32) ^^^ x= ~~~x:=by rw[show(4294967295:UInt32)= -1 from rfl,UInt32.neg_one_xor]
@[go_sem high] def aon:Op.unary .xor (.int .u32 (V x))=pure (.int .u32 (V (~~~x))):=by rw[<-VG,<-Io];rfl
end
@[go_sem] def ab8 b:IntKind.u32.wrap (Y b)=V b.toUInt32:=by have:=b.toNat_lt;rw[IntKind.wrap_u32'];unfold Y V;rw[UInt8.toNat_toUInt32];omega
@[go_sem] def adN x:IntKind.u32.wrap (V x)=V x:=by have:=yx x;rw[IntKind.wrap_u32'];omega
@[go_sem] def ajK x:IntKind.u8.wrap (V x)=Y x.toUInt8:=by rw[IntKind.wrap_u8'];unfold Y V;rw[UInt32.toNat_toUInt8];omega
def wU{P id Q a w}{l:List Oper} n(hm:P.follows .mixedOrders=true)(hB:Region.lexTailB .any l.toArray n=true) (h:wpStill P l.toArray w.drew (λa'=>wpList P l.toArray Q (l.drop n) a' w.drew) (l.take n) a):(Code.region id l.toArray true).wp P Q a w:=wp_region_still_tail n hm hB h
def iR(a:Act) n v(h:n<a.tmps.size):(a.put (some n) v).eval (.tmp n)=v:=by simp[Act.put,Act.eval,h]
def jw(a:Act) n m v(h:n≠m):(a.put (some n) v).eval (.tmp m)=a.eval (.tmp m):=by simp[Act.put,Act.eval,h]
def lf(a:Act) n v:(a.put (some n) v).tmps.size=a.tmps.size:=by simp[Act.put]
section
variable{P:Program}{ops:Array Oper}{w:World}{Q:Act->Prop}{a:Act}{o:Oper}{rest:List Oper}
def kQ(hg:o.guard=none){v}(hr:(execOp a.eval o).run P w=.ok (.value v) w)(h:wpStill P ops w Q rest (a.put o.dst v)):wpStill P ops w Q (o::rest) a:=by unfold wpStill;rw[if_pos (by simp[Region.wanted,hg])];unfold Oper.still;rw[hr];exact⟨rfl,h⟩
def Iv(hg:o.guard=none){v f args}(hr:(execOp a.eval o).run P w=.ok (.enter f args) w) (hc:Calls P f args w λe uR=>e=.returned v/\uR=w) (h:wpStill P ops w Q rest (a.put o.dst v)):wpStill P ops w Q (o::rest) a:=by unfold wpStill;rw[if_pos (by simp[Region.wanted,hg])];unfold Oper.still;rw[hr];exact⟨rfl,v,hc,h⟩
def lx{ops Q w'}(hg:o.guard=none){v}(hr:(execOp a.eval o).run P w=.ok (.value v) w')(h:wpList P ops Q rest (a.put o.dst v) w'):wpList P ops Q (o::rest) a w:=by refine wpList_plain hg λK hK=>?_;unfold Oper.wp;rw[hr];exact hK _ _ h
def EH{ops Q w'}(hg:o.guard=none)(hr:(execOp a.eval o).run P w=.ok .skip w')(h:wpList P ops Q rest (a.put o.dst undef) w'):wpList P ops Q (o::rest) a w:=by refine wpList_plain hg λK hK=>?_;unfold Oper.wp;rw[hr];exact hK _ _ h
end
def str(l:List UInt8):ByteArray:=⟨l.toArray⟩
def nth(l:List UInt8)(i:Nat):UInt8:=l.getD i 0
@[go_sem] def ajO l:ByteArray.mk l.toArray=str l:=rfl
@[go_sem] def zr l:(str l).toList=l:=ByteArray.toList_mk l
@[go_sem] def iO l:(str l).size=l.length:=by simp[str,ByteArray.size]
def Zz l i(h:i< (str l).size):(str l)[i]=nth l i:=by
 have h':i<l.length:=by rw[iO]at h;exact h
 unfold nth;rw[List.getD_eq_getElem?_getD,List.getElem?_eq_getElem h'];rfl
def Lo a b:str a++str b=str (a++b):=ByteArray.mk_append_mk a b
def oX l a b:(str l).extract a b=str ((l.drop a).take (b-a)):=ByteArray.extract_mk l a b
section
variable{P:Program}(w:World)
@[go_sem high] def ZZ t l k i (h:P.underlying t=some .string):(Instr.index t (.string (str l)) (.int k i)).run P w =if 0<=i/\i< (l.length:Int)then .ok (.int .u8 (Y (nth l i.toNat))) w else(boundsPanic k i l.length .index).run P w:=by rw[run_index_string w t _ k i h];simp only[iO];split;rename_i hi;rw[Zz];rfl;rfl
@[go_sem high] def acm t l k i (h:P.underlying t=some .string):(Instr.slice t (.string (str l)) (some (.int k i)) none none).run P w =if 0<=i/\i<=(l.length:Int)then .ok (.string (str (l.drop i.toNat))) w else((boundsPanic k i l.length .sliceB:Sem Nat).run P w).andThen λa w'=>.ok (.string (str (l.drop a))) w':=by rw[run_slice_string_from_if w t _ k i h];simp only[iO,oX];have e:∀a,(l.drop a).take (l.length-a)=l.drop a:=λa=>List.take_of_length_le (by simp);simp only[e]
@[go_sem high] def ajS t l k j (h:P.underlying t=some .string):(Instr.slice t (.string (str l)) none (some (.int k j)) none).run P w =if 0<=j/\j<=(l.length:Int)then .ok (.string (str (l.take j.toNat))) w else((boundsPanic k j l.length .sliceAlen:Sem Nat).run P w).andThen λa w'=>.ok (.string (str (l.take a))) w':=by rw[run_slice_string_to_if w t _ k j h];simp only[iO,oX,List.drop_zero,Nat.sub_zero]
@[go_sem high] def ahq t l k k' i j (h:P.underlying t=some .string) :
  (Instr.slice t (.string (str l)) (some (.int k i)) (some (.int k' j)) none).run P w =
   if 0<=j/\j<=(l.length:Int)then
    (if 0<=i/\i<=j then .ok (.string (str ((l.drop i.toNat).take (j.toNat-i.toNat)))) w
     else((boundsPanic k i j.toNat .sliceB:Sem Nat).run P w).andThen λa w'=>.ok (.string (str ((l.drop a).take (j.toNat-a)))) w')
   else((boundsPanic k' j l.length .sliceAlen:Sem Nat).run P w).andThen λb w'=>
    ((Instr.sliceBound (.int k i) b .sliceB).run P w').andThen λa uR=>.ok (.string (str ((l.drop a).take (b-a)))) uR:=by
 rw[run_slice_string_if w t _ k k' i j h];simp only[iO,oX]
@[go_sem high] def ahr a b:(Op.stringOp .add (str a) (str b)).run P w =if a.length+b.length>9223372036854775807 then .halt (.unsupported (.resourceLimit "string concatenation: a sum of the lengths that is no int")) w else .ok (.string (str (a++b))) w:=by rw[run_string_add_if];simp only[iO,Lo]
end
def jC{P} w src dst e b o cap l(hs:P.underlying src=some (.slice e))(he:P.underlying e=some (.int .u8))(hd:P.underlying dst=some .string) (hc:∀j,j<l.length->w.cell? ⟨b,o+j,none⟩=some (.int .u8 (Y (nth l j)))):(convert src dst (.slice (some ⟨b,o,none⟩) l.length cap)).run P w=.ok (.string (str l)) w:=by refine run_convert_bytes_back w src dst e _ cap l hs he hd λj hj=>?_;rw[Addr.add_lit,hc j hj];unfold nth;rw[List.getD_eq_getElem?_getD,List.getElem?_eq_getElem hj];rfl
@[go_sem high] def anF {P} (w:World) src dst e x (hs:P.underlying src=some (.slice e)) (he:P.underlying e=some (.int .u8)) (hd:P.underlying dst=some .string):(convert src dst (.slice (some ⟨w.heap.size,0,none⟩) 1 1)).run P (w.alloc (.cells #[.int .u8 (Y x)] e))=.ok (.string (str [x])) (w.alloc (.cells #[.int .u8 (Y x)] e)):=jC _ src dst e _ 0 1 [x] hs he hd λj hj=>by
 obtain rfl:j=0:=by simp at hj;omega
 rw[World.cell?_alloc_new];rfl
end ba
def EC:∀(fn:Fn)(first cap:Array Value)(w:World),(Instr.makeFunc fn first cap).run prog w=.ok (.func fn first cap) w:=λ_ _ _ _=>rfl
end
section
open ba
namespace ax
def plain:Op->Bool
 |.move _|.assign _|.load _ _|.binOp _ _ _ _ _|.unOp _ _ _|.convert _ _ _|.fieldAddr _ _ _|.indexAddr _ _ _|.index _ _ _|.nilCheck _|.slice _ _ _ _ _|.build _ _=>true|_=>false
def VZ{P w w' s f args}:(s >>= λv=>pure (Next.value v):Sem Next).run P w≠.ok (.enter f args) w':=by intro h;rw[Sem.run_bind]at h;cases hr:s.run P w with|ok v w1=>rw[hr]at h;simp[Result.andThen,Sem.run_pure]at h|halt x w1=>rw[hr]at h;simp[Result.andThen]at h
def GM{α P w w' s}{g:α->Sem Next}{f args}(h:∀v w1,(g v).run P w1≠.ok (.enter f args) w'):(s >>= g).run P w≠.ok (.enter f args) w':=by intro hr;rw[Sem.run_bind]at hr;cases hs:s.run P w with|ok v w1=>rw[hs]at hr;exact h v w1 hr|halt x w1=>rw[hs]at hr;simp[Result.andThen]at hr
def qz{P w w' v f args}:(pure (Next.value v):Sem Next).run P w≠.ok (.enter f args) w':=by simp[Sem.run_pure]
def ahz{P w w' x f args o y ev}(ho:o.op=.nilCheck y)(hx:ev y=x):(execOp ev o).run P w≠.ok (.enter f args) w':=by intro hr;unfold execOp at hr;simp only[ho,hx]at hr;split at hr;simp[runtimePanic]at hr;simp[runtimePanic]at hr;simp[runtimePanic]at hr;split at hr;simp[runtimePanic]at hr;refine GM (λv w1=>?_) hr;refine GM (λv2 w2=>?_);split;exact GM (λv3 w3=>qz);exact qz;exact qz hr;exact qz hr
def Je{P ev o w w' f args}(h:plain o.op=true):(execOp ev o).run P w≠.ok (.enter f args) w':=by
 cases ho:o.op<;>rw[ho]at h<;>simp only[plain,Bool.false_eq_true]at h;case nilCheck x=>exact ahz ho rfl
 all_goals (unfold execOp;simp only[ho];first|exact qz|exact VZ)
def zt{P}{o:Oper}{a C w K}(hp:plain o.op=true)(hC:C w)(h:o.quiet P a C K):o.still P a w K:=by
 obtain⟨v,h1,h2⟩:=h;have h3:=h1 w hC;unfold Oper.quietAt at h3;unfold Oper.still;have cE:=λf args w'=>Je (P:=P) (ev:=a.eval) (o:=o) (w:=w) (w':=w') (f:=f) (args:=args) hp;generalize(execOp a.eval o).run P w=r at *;cases r with
 |ok n w'=>
 cases n<;>simp only[Oper.quietUpon]at h3<;>simp only[Oper.stillUpon];case value u=>obtain⟨e1,rfl⟩:=h3;exact⟨e1,h2⟩
 case skip=>obtain⟨e1,rfl⟩:=h3;exact⟨e1,h2⟩
 case enter f args=>exact absurd rfl (cE f args w')
 |halt x w'=>simp only[Oper.quietUpon]at h3
theorem eO{P ops C w Q}(hC:C w):∀l a,l.all (λo=>plain o.op)=true->wpQuiet P ops C Q l a->wpStill P ops w Q l a
 |[],_,_,h=>h|o::l,a,hp,h=>by simp only[List.all_cons,Bool.and_eq_true]at hp;unfold wpQuiet at h;unfold wpStill;split;rename_i hw;rw[if_pos hw]at h;exact Oper.still_mono (λa' h'=>eO hC l a' hp.2 h') (zt hp.1 hC h);rename_i hw;rw[if_neg hw]at h;exact eO hC l _ hp.2 h
def tail{P id Q a w}{l:List Oper} n(hm:P.follows .mixedOrders=true)(hB:Region.lexTailB .any l.toArray n=true) (hp:(l.take n).all (λo=>plain o.op)=true) (h:wpQuiet P l.toArray (λw'=>∃m,w'=w.drewN m) (λa'=>wpList P l.toArray Q (l.drop n) a' w.drew) (l.take n) a):(Code.region id l.toArray true).wp P Q a w:=wU n hm hB (eO ⟨1,rfl⟩ _ _ hp h)
end ax
def bY{P f args}{w:World}{a n v} (h:Calls P f args (w.drewN (a+n)) λe w'=>e=.returned v/\w.drewN (a+n)=w'):Calls P f args (w.drewN (a+n)) λe uR=>e=.returned v/\∃m,uR=w.drewN (a+m):=h.mono λ_ _ ⟨he,hm⟩=>⟨he,n,hm.symm⟩
namespace aR
structure H8 where
 (a b c d e f g h:UInt32)
def begin:H8:=⟨1779033703,3144134277,1013904242,2773480762,1359893119,2600822924,528734635,1541459225⟩
def rounds:List UInt32:=[1116352408,1899447441,3049323471,3921009573,961987163,1508970993,2453635748,2870763221,3624381080,310598401,607225278,1426881987,1925078388,2162078206,2614888103,3248222580,3835390401,4022224774,264347078,604807628,770255983,1249150122,1555081692,1996064986,2554220882,2821834349,2952996808,3210313671,3336571891,3584528711,113926993,338241895,666307205,773529912,1294757372,1396182291,1695183700,1986661051,2177026350,2456956037,2730485921,2820302411,3259730800,3345764771,3516065817,3600352804,4094571909,275423344,430227734,506948616,659060556,883997877,958139571,1322822218,1537002063,1747873779,1955562222,2024104815,2227730452,2361852424,2428436474,2756734187,3204031479,3329325298]
def nw(l:List UInt32)(i:Nat):UInt32:=l.getD i 0
def s0(x:UInt32):UInt32:=fp x 7 ^^^ fp x 18 ^^^ kr x 3
def s1(x:UInt32):UInt32:=fp x 17 ^^^ fp x 19 ^^^ kr x 10
def S0(x:UInt32):UInt32:=fp x 2 ^^^ fp x 13 ^^^ fp x 22
def S1(x:UInt32):UInt32:=fp x 6 ^^^ fp x 11 ^^^ fp x 25
def ch(e f g:UInt32):UInt32:=e&&&f ^^^ ~~~e&&&g
def maj(a b c:UInt32):UInt32:=a&&&b ^^^ a&&&c ^^^ b&&&c
def ab5(b:List UInt8)(i:Nat):UInt32:=tp (nth b (4*i)).toUInt32 24 ||| tp (nth b (4*i+1)).toUInt32 16 ||| tp (nth b (4*i+2)).toUInt32 8 |||(nth b (4*i+3)).toUInt32
def first(b:List UInt8):Nat->List UInt32
 |0=>[]|n+1=>first b n++[ab5 b n]
def next(w:List UInt32):UInt32:=nw w (w.length-16)+s0 (nw w (w.length-15))+nw w (w.length-7)+s1 (nw w (w.length-2))
def sched(b:List UInt8):Nat->List UInt32
 |0=>first b 16
 |n+1=>sched b n++[next (sched b n)]
def od b n:(first b n).length=n:=by induction n with|zero=>rfl|succ n ih=>simp[first,ih]
def tr b n:(sched b n).length=16+n:=by induction n with|zero=>exact od b 16|succ n ih=>simp[sched,ih];omega
def rnd(s:H8)(k w:UInt32):H8:=
 let t:=s.h+S1 s.e+ch s.e s.f s.g+k+w;let u:=S0 s.a+maj s.a s.b s.c
 ⟨t+u,s.a,s.b,s.c,s.d+t,s.e,s.f,s.g⟩
def QD(ws:List UInt32)(s:H8):Nat->H8
 |0=>s|n+1=>rnd (QD ws s n) (nw rounds n) (nw ws n)
def plus(s t:H8):H8:=⟨s.a+t.a,s.b+t.b,s.c+t.c,s.d+t.d,s.e+t.e,s.f+t.f,s.g+t.g,s.h+t.h⟩
def block(s:H8)(b:List UInt8):H8:=plus s (QD (sched b 48) s 64)
def blocks:Nat->H8->List UInt8->H8
 |0,s,_=>s|n+1,s,l=>block (blocks n s l) ((l.drop (64*n)).take 64)
def be4(x:UInt32):List UInt8:=[(kr x 24).toUInt8,(kr x 16).toUInt8,(kr x 8).toUInt8,x.toUInt8]
def out(s:H8):List UInt8:=be4 s.a++be4 s.b++be4 s.c++be4 s.d++be4 s.e++be4 s.f++be4 s.g++be4 s.h
def be8(x:UInt64):List UInt8:=[(shr x 56).toUInt8,(shr x 48).toUInt8,(shr x 40).toUInt8,(shr x 32).toUInt8,(shr x 24).toUInt8,(shr x 16).toUInt8,(shr x 8).toUInt8,(shr x 0).toUInt8]
def lR(n:Nat):Nat:=(119-n % 64) % 64
def pad(l:List UInt8):List UInt8:=l++[128]++List.replicate (lR l.length) 0++be8 (UInt64.ofNat (8*l.length))
def sum(l:List UInt8):List UInt8:=out (blocks ((pad l).length/64) begin (pad l))
def iq s:(out s).length=32:=rfl
def DM n s l m(h:64*n<=l.length):blocks n s (l++m)=blocks n s l:=by induction n with|zero=>rfl|succ n ih=>rw[blocks,blocks,ih (by omega),List.drop_append_of_le_length (by omega),List.take_append_of_le_length (by rw[List.length_drop];omega)]
def Rv l m j(h:j<l.length):nw (l++m) j=nw l j:=by unfold nw;rw[List.getD_eq_getElem?_getD,List.getD_eq_getElem?_getD,List.getElem?_append_left h]
def aaf l i(h:i<l.length):l.drop i=nw l i::l.drop (i+1):=by rw[List.drop_eq_getElem_cons h];unfold nw;rw[List.getD_eq_getElem?_getD,List.getElem?_eq_getElem h];rfl
def aae l i(h:i<l.length):l.take (i+1)=l.take i++[nw l i]:=by rw[List.take_succ_eq_append_getElem h];unfold nw;rw[List.getD_eq_getElem?_getD,List.getElem?_eq_getElem h];rfl
def aaj(p s:List UInt32) i(hp:i<p.length):nw (p.take i++s.drop i) i=nw s i:=by
 have e:(p.take i).length=i:=by rw[List.length_take];omega
 unfold nw;rw[List.getD_eq_getElem?_getD,List.getElem?_append_right (by omega),e,Nat.sub_self,List.getElem?_drop,List.getD_eq_getElem?_getD];rfl
def aai(p s:List UInt32) i(hp:i<p.length)(hs:i<s.length):(p.take i++s.drop i).set i (nw p i)=p.take (i+1)++s.drop (i+1):=by
 have e:(p.take i).length=i:=by rw[List.length_take];omega
 rw[List.set_append_right _ _ (by omega),e,Nat.sub_self,aaf s i hs,List.set_cons_zero,aae p i hp,List.append_assoc];rfl
def Ix{l i n m}{x:UInt32}(h:l.length=i)(hn:n=m+1):(l++List.replicate n 0).set i x=(l++[x])++List.replicate m 0:=by subst h hn;rw[List.set_append_right _ _ ν,Nat.sub_self,List.replicate_succ,List.set_cons_zero,List.append_assoc];rfl
end aR
end
section
open ba Go.RowKit
def Row(w:World)(b:Nat)(l:List Value):Prop:=∃T,w.heap[b]? =some (.cells l.toArray T)
namespace Row
variable{w:World}{b:Nat}{l:List Value}
def cell(h:Row w b l) i:w.cell? ⟨b,i,none⟩=l[i]?:=by obtain⟨T,h⟩:=h;simp[World.cell?,h]
def free(h:Row w b l) i:w.frozen? ⟨b,i,none⟩=false:=by obtain⟨T,h⟩:=h;simp[World.frozen?,h]
def set(h:Row w b l) i v:Row (w.setCell ⟨b,i,none⟩ v) b (l.set i v):=by obtain⟨T,h⟩:=h;exact⟨T,by simp[World.setCell,Array.getElem?_modify,h]⟩
def other(h:Row w b l){a}(ha:a.block≠b) v:Row (w.setCell a v) b l:=by obtain⟨T,h⟩:=h;exact⟨T,by rw[Below.heap_setCell _ _ _ _ (Ne.symm ha)];exact h⟩
def drew(h:Row w b l):Row w.drew b l:=h
def drewN(h:Row w b l) n:Row (w.drewN n) b l:=h
def lt(h:Row w b l):b<w.heap.size:=by obtain⟨T,h⟩:=h;exact(Array.getElem?_eq_some_iff.1 h).1
def alloc(h:Row w b l) o:Row (w.alloc o) b l:=by have hl:=h.lt;obtain⟨T,h⟩:=h;exact⟨T,by rw[Below.heap_alloc _ _ _ hl];exact h⟩
def below{B w'}(h:Row w b l)(hb:Below B w w')(hB:b<B):Row w' b l:=by obtain⟨T,h⟩:=h;exact⟨T,by rw[hb.block b hB];exact h⟩
def new(w:World) l T:Row (w.alloc (.cells l.toArray T)) w.heap.size l:=⟨T,by show(w.heap.push _)[w.heap.size]? =_;rw[Array.getElem?_push_size]⟩
end Row
def iA(l:List UInt32):List Value:=l.map λx=>.int .u32 (V x)
def ql l i(h:i<l.length):(iA l)[i]? =some (.int .u32 (V (aR.nw l i))):=by unfold iA aR.nw;rw[List.getElem?_map,List.getD_eq_getElem?_getD,List.getElem?_eq_getElem h];rfl
def Fg l i x:(iA l).set i (.int .u32 (V x))=iA (l.set i x):=by unfold iA;rw[List.map_set]
def Row.word{w b l}(h:Row w b (iA l)) i(hi:i<l.length):w.cell? ⟨b,i,none⟩=some (.int .u32 (V (aR.nw l i))):=by rw[h.cell,ql l i hi]
def w8(l:List UInt8):List Value:=l.map λx=>.int .u8 (Y x)
def iL l i(h:i<l.length):(w8 l)[i]? =some (.int .u8 (Y (nth l i))):=by unfold w8 nth;rw[List.getElem?_map,List.getD_eq_getElem?_getD,List.getElem?_eq_getElem h];rfl
def oT l i x:(w8 l).set i (.int .u8 (Y x))=w8 (l.set i x):=by unfold w8;rw[List.map_set]
def Bytes(w:World)(b o:Nat)(l:List UInt8):Prop:=∀j,j<l.length->w.cell? ⟨b,o+j,none⟩=some (.int .u8 (Y (nth l j)))
structure cA(B S:Nat)(w w':World):Prop where
 os:w'.os=w.os
 tape:w'.tape=w.tape
 output:w'.output=w.output
 size:w.heap.size<=w'.heap.size
 block:∀k,k<B->k≠S->w'.heap[k]? =w.heap[k]?
namespace cA
variable{B S:Nat}{w w':World}
def refl B S w:cA B S w w:=⟨rfl,rfl,rfl,ν,λ_ _ _=>rfl⟩
theorem trans{uR}(h:cA B S w w')(k:cA B S w' uR):cA B S w uR:=⟨k.os.trans h.os,k.tape.trans h.tape,k.output.trans h.output,Nat.le_trans h.size k.size,λi hi hs=>(k.block i hi hs).trans (h.block i hi hs)⟩
def aH(h:Below B w w'):cA B S w w':=⟨h.os,h.tape,h.output,h.size,λk hk _=>h.block k hk⟩
theorem alloc(h:cA B S w w')(hB:B<=w'.heap.size) o:cA B S w (w'.alloc o):=h.trans (aH ((Below.refl _ _).alloc hB o))
theorem drew(h:cA B S w w'):cA B S w w'.drew:=h.trans (aH (Below.refl _ _).drew)
def drewN(h:cA B S w w') n:cA B S w (w'.drewN n):=h.trans (aH (below_drewN (Below.refl _ _) n))
def et(h:cA B S w w') i v:cA B S w (w'.setCell ⟨S,i,none⟩ v):=h.trans ⟨rfl,rfl,rfl,by simp[World.setCell],λk _ hs=>Below.heap_setCell _ _ _ _ hs⟩
def mono{B'}(h:cA B S w w')(hB:B'<=B):cA B' S w w':=⟨h.os,h.tape,h.output,h.size,λk hk hs=>h.block k (by omega) hs⟩
def row{b l}(h:cA B S w w')(hr:Row w b l)(hb:b<B)(hs:b≠S):Row w' b l:=by obtain⟨T,hr⟩:=hr;exact⟨T,by rw[h.block b hb hs];exact hr⟩
def bytes{b o l}(h:cA B S w w')(hr:Bytes w b o l)(hb:b<B)(hs:b≠S):Bytes w' b o l:=λj hj=>by rw[<-hr j hj];exact World.cell?_of_block (w:=w) (h.block b hb hs)
def below(h:cA B S w w')(hS:B<=S):Below B w w':=⟨h.os,h.tape,h.output,h.size,λk hk=>h.block k hk (by omega)⟩
end cA
def Bytes.below{B b o l w w'}(hr:Bytes w b o l)(h:Below B w w')(hb:b<B):Bytes w' b o l:=λj hj=>by rw[<-hr j hj];exact World.cell?_of_block (w:=w) (h.block b hb)
end
section
open Go.RowKit ba
def mixed:prog.follows .mixedOrders=true:=by kernel_rfl
def QC(x:UInt32)(k:Int)(z:UInt64)(n:Nat)(hk:iM k&&&iM 31=z)(h1:U z=((32-n:Nat):Int))(h2:U (iM 32-z)=(n:Int))(hn:n<=32)(w:World):Calls prog 112 #[.int .u32 (V x),.int .i64 k] w λe w'=>e=.returned (.int .u32 (V (fp x n)))/\w=w':=by
 have e1:=η h1;have e2:=η h2;have l1:U z<=32:=by omega
 have l2:U (iM 32-z)<=32:=by omega
 clear h1 h2;go_enter func112,ntmps112;go_wp2;go_ret;refine⟨?_,rfl⟩;have h1:=e1.o;have h2:=e2.o;have f1:(U z).toNat=32-n:=by omega
 have f2:(U (iM 32-z)).toNat=n:=by omega
 unfold fp;rw[UInt32.or_comm];rw[<-f1];conv=>rhs;rw[<-f2]
 rfl
def gJ(x:UInt32)(k:Int)(n:Nat)(h:(n=2/\k= -2)∨(n=6/\k= -6)∨(n=7/\k= -7)∨(n=11/\k= -11)∨(n=13/\k= -13)∨(n=17/\k= -17)∨(n=18/\k= -18)∨(n=19/\k= -19)∨(n=22/\k= -22)∨(n=25/\k= -25))(w:World):Calls prog 112 #[.int .u32 (V x),.int .i64 k] w λe w'=>e=.returned (.int .u32 (V (fp x n)))/\w=w':=by rcases h with⟨rfl,rfl⟩|⟨rfl,rfl⟩|⟨rfl,rfl⟩|⟨rfl,rfl⟩|⟨rfl,rfl⟩|⟨rfl,rfl⟩|⟨rfl,rfl⟩|⟨rfl,rfl⟩|⟨rfl,rfl⟩|⟨rfl,rfl⟩<;>exact QC x _ _ _ rfl rfl rfl (by decide) w
def eJ(s:aR.H8):List UInt32:=[s.a,s.b,s.c,s.d,s.e,s.f,s.g,s.h]
def KG(S g o cap:Nat)(s:aR.H8)(rv nv:Value)(b:List UInt8)(hb:b.length=64)(w:World)(Xy:1<w.heap.size) (b8:Row w S (iA (eJ s)++[rv,nv])) (hg:g<w.heap.size) (yo:Bytes w g o b) (hK:Row w 1 (iA aR.rounds)):Calls prog 110 #[.pointer (some ⟨S,0,none⟩),.slice (some ⟨g,o,none⟩) 64 cap] w λe w'=>e=.returned (.tuple #[])/\Row w' S (iA (eJ (aR.block s b))++[rv,nv])/\cA w.heap.size S w w':=by
 go_enter func110,ntmps110;go_wp2;have hz:Row (w.alloc (.cells (iA (List.replicate 64 0)).toArray 181)) w.heap.size (iA (List.replicate 64 0)):=Row.new w _ _;have hk0:Below w.heap.size w (w.alloc (.cells (iA (List.replicate 64 0)).toArray 181)):=(Below.refl _ _).alloc ν _;have e0:(iA (List.replicate 64 0)).toArray=#[.int .u32 0,.int .u32 0,.int .u32 0,.int .u32 0,.int .u32 0,.int .u32 0,.int .u32 0,.int .u32 0,.int .u32 0,.int .u32 0,.int .u32 0,.int .u32 0,.int .u32 0,.int .u32 0,.int .u32 0,.int .u32 0,.int .u32 0,.int .u32 0,.int .u32 0,.int .u32 0,.int .u32 0,.int .u32 0,.int .u32 0,.int .u32 0,.int .u32 0,.int .u32 0,.int .u32 0,.int .u32 0,.int .u32 0,.int .u32 0,.int .u32 0,.int .u32 0,.int .u32 0,.int .u32 0,.int .u32 0,.int .u32 0,.int .u32 0,.int .u32 0,.int .u32 0,.int .u32 0,.int .u32 0,.int .u32 0,.int .u32 0,.int .u32 0,.int .u32 0,.int .u32 0,.int .u32 0,.int .u32 0,.int .u32 0,.int .u32 0,.int .u32 0,.int .u32 0,.int .u32 0,.int .u32 0,.int .u32 0,.int .u32 0,.int .u32 0,.int .u32 0,.int .u32 0,.int .u32 0,.int .u32 0,.int .u32 0,.int .u32 0,.int .u32 0]:=by kernel_rfl
 rw[e0]at hz hk0;have hSA:S≠w.heap.size:=by have:=b8.lt;omega
 have PK:w.heap.size< (w.alloc (.cells #[.int .u32 0,.int .u32 0,.int .u32 0,.int .u32 0,.int .u32 0,.int .u32 0,.int .u32 0,.int .u32 0,.int .u32 0,.int .u32 0,.int .u32 0,.int .u32 0,.int .u32 0,.int .u32 0,.int .u32 0,.int .u32 0,.int .u32 0,.int .u32 0,.int .u32 0,.int .u32 0,.int .u32 0,.int .u32 0,.int .u32 0,.int .u32 0,.int .u32 0,.int .u32 0,.int .u32 0,.int .u32 0,.int .u32 0,.int .u32 0,.int .u32 0,.int .u32 0,.int .u32 0,.int .u32 0,.int .u32 0,.int .u32 0,.int .u32 0,.int .u32 0,.int .u32 0,.int .u32 0,.int .u32 0,.int .u32 0,.int .u32 0,.int .u32 0,.int .u32 0,.int .u32 0,.int .u32 0,.int .u32 0,.int .u32 0,.int .u32 0,.int .u32 0,.int .u32 0,.int .u32 0,.int .u32 0,.int .u32 0,.int .u32 0,.int .u32 0,.int .u32 0,.int .u32 0,.int .u32 0,.int .u32 0,.int .u32 0,.int .u32 0,.int .u32 0] 181)).heap.size:=by simp
 clear e0;generalize w.alloc _=w1 at hz hk0 PK|-;have hSl:=b8.lt;generalize hA:w.heap.size=A at hz hk0 PK hSA Xy hg hSl|-;have hA':=η hA;clear hA;have adh:=η b8;have aa8:=η yo;have hHK:=η hK;clear b8 yo hK;go_loopw [18] (λv wr=>∃i:Nat,i<=16/\v=.int .i64 i/\Row wr A (iA (aR.first b i++List.replicate (64-i) 0))/\Below A w wr/\A<wr.heap.size) (λv _=>16-(intOf v).toNat);exact⟨0,by omega,rfl,hz,hk0,PK⟩;clear hz hk0 PK;obtain⟨i,hi,rfl,hz,hk,PK⟩:=hrel;by_cases aM:i<16
 ·have b0:=(aa8.o.below hk hg) (4*i) (by omega);have b1:=(aa8.o.below hk hg) (4*i+1) (by omega);have b2:=(aa8.o.below hk hg) (4*i+2) (by omega);have b3:=(aa8.o.below hk hg) (4*i+3) (by omega);have Gt:=aR.od b i;have Bz:(iA (aR.first b i++List.replicate (64-i) 0)).length=64:=by simp[iA,Gt];omega
  have cw:∃v,wr.cell? ⟨A,i,none⟩=some v:=⟨_,by rw[hz.cell];exact List.getElem?_eq_getElem (by omega)⟩;obtain⟨u,cu⟩:=cw;have fz:=hz.free i;clear Gt Bz;have p0:(0:Int)<=4*(i:Int):=by omega
  have p1:4*(i:Int)<64:=by omega
  have p2:4*(i:Int)+1<64:=by omega
  have p3:4*(i:Int)+2<64:=by omega
  have p4:4*(i:Int)+3<64:=by omega
  have p5:(i:Int)<64:=by omega
  go_wp2_with fail;refine ax.tail 35 mixed (by as_aux_lemma=>kernel_rfl) rfl ?_
  simp only[List.take_succ_cons,List.take_zero,List.drop_succ_cons,List.drop_zero];repeat(go_big_quiet_step (fail))
  refine wpQuiet_nil ?_;go_wp2_with fail;go_roundw
  ·refine⟨i+1,by omega,by go_num,?_,(hk.setCell (p:=⟨A,i,none⟩) ν _).drew,by simpa[World.setCell]using PK⟩;have:=(hz.set i (.int .u32 (V (aR.ab5 b i)))).drew;rw[Fg,aR.Ix (m:=64-(i+1)) (aR.od b i) (by omega)]at this;exact this
  simp[intOf];omega
 obtain rfl:i=16:=by omega
 have hzz:Row wr A (iA (aR.sched b 0++List.replicate 48 0)):=hz;clear hz;rw[show((16:Nat):Int)=16 from rfl];go_wp2_with fail;obtain⟨wq,rfl⟩:∃wq:World,wq=wr:=⟨_,rfl⟩;go_loopw [6] (λv wr=>∃n:Nat,16<=n/\n<=64/\v=.int .i64 n/\Row wr A (iA (aR.sched b (n-16)++List.replicate (64-n) 0))/\Below A w wr/\A<wr.heap.size) (λv _=>64-(intOf v).toNat);exact⟨16,by omega,by omega,rfl,hzz,hk,PK⟩;clear hzz hk PK;obtain⟨n,W9,aBq,rfl,hz,hk,PK⟩:=hrel;by_cases aM:n<64
 ·have EM:=aR.tr b (n-16);have ah3:(aR.sched b (n-16)).length=n:=by omega
  have hg:∀j,j<n->wr.cell? ⟨A,j,none⟩=some (.int .u32 (V (aR.nw (aR.sched b (n-16)) j))):=λj hj=>by rw[hz.word j (by simp;omega),aR.Rv _ _ _ (by omega)]
  have g15:=hg (n-15) (by omega);have g2:=hg (n-2) (by omega);have g16:=hg (n-16) (by omega);have g7:=hg (n-7) (by omega);have cw:∃v,wr.cell? ⟨A,n,none⟩=some v:=⟨_,hz.word n (by simp;omega)⟩;obtain⟨u,cu⟩:=cw;have fz:=hz.free n;have Pu:aR.next (aR.sched b (n-16))=aR.nw (aR.sched b (n-16)) (n-16)+aR.s0 (aR.nw (aR.sched b (n-16)) (n-15))+aR.nw (aR.sched b (n-16)) (n-7)+aR.s1 (aR.nw (aR.sched b (n-16)) (n-2)):=by unfold aR.next;rw[ah3]
  have hNX:=η Pu;have hSL:=η ah3;clear Pu EM ah3 hg;generalize aR.nw (aR.sched b (n-16)) (n-15)=kC at g15 hNX;generalize aR.nw (aR.sched b (n-16)) (n-2)=x2 at g2 hNX;generalize aR.nw (aR.sched b (n-16)) (n-16)=js at g16 hNX;generalize aR.nw (aR.sched b (n-16)) (n-7)=x7 at g7 hNX;have p0:(0:Int)<=(n:Int) - 15:=by omega
  have p1:(n:Int) - 15<64:=by omega
  have p2:(0:Int)<=(n:Int) - 2:=by omega
  have p3:(n:Int) - 2<64:=by omega
  have p4:(0:Int)<=(n:Int) - 16:=by omega
  have p5:(n:Int) - 16<64:=by omega
  have p6:(0:Int)<=(n:Int) - 7:=by omega
  have p7:(n:Int) - 7<64:=by omega
  have p8:(n:Int)<64:=by omega
  go_wp2_with fail;go_quiet (fail)
  go_wp2_with (go_at_call 112;(first|refine(gJ _ _ 7 (by omega) _).mono ?_|refine(gJ _ _ 18 (by omega) _).mono ?_|refine(gJ _ _ 17 (by omega) _).mono ?_|refine(gJ _ _ 19 (by omega) _).mono ?_);rintro e w' ⟨rfl,rfl⟩)
  refine ax.tail 15 mixed (by as_aux_lemma=>kernel_rfl) rfl ?_;simp only[List.take_succ_cons,List.take_zero,List.drop_succ_cons,List.drop_zero];repeat(go_big_quiet_step (fail))
  refine wpQuiet_nil ?_;go_wp2_with fail;go_roundw
  ·have e1:aR.sched b (n+1-16)=aR.sched b (n-16)++[aR.next (aR.sched b (n-16))]:=by rw[show n+1-16=(n-16)+1 by omega];rfl
   refine⟨n+1,by omega,by omega,by go_num,?_,?_,by simpa[World.setCell]using PK⟩;have:=hz.set n (.int .u32 (V (aR.next (aR.sched b (n-16)))));rw[Fg,aR.Ix (m:=64-(n+1)) hSL.o (by omega),<-e1,hNX.o]at this;exact this;exact(below_drewN hk _).setCell (p:=⟨A,n,none⟩) ν _
  simp[intOf];omega
 obtain rfl:n=64:=by omega
 replace hz:Row wr A (iA (aR.sched b 48)):=by simpa using hz
 rw[show((64:Nat):Int)=64 from rfl];have hr:=adh.o.below hk hSl;have pJ:∀j,j<8->wr.cell? ⟨S,j,none⟩=some (.int .u32 (V (aR.nw (eJ s) j))):=λj hj=>by rw[hr.cell,List.getElem?_append_left (by simp[iA,eJ];omega),ql _ _ (by simp[eJ];omega)]
 have c0:=pJ 0 (by omega);have c1:=pJ 1 (by omega);have c2:=pJ 2 (by omega);have c3:=pJ 3 (by omega);have c4:=pJ 4 (by omega);have c5:=pJ 5 (by omega);have c6:=pJ 6 (by omega);have c7:=pJ 7 (by omega);simp only[show aR.nw (eJ s) 0=s.a from rfl,show aR.nw (eJ s) 1=s.b from rfl,show aR.nw (eJ s) 2=s.c from rfl,show aR.nw (eJ s) 3=s.d from rfl,show aR.nw (eJ s) 4=s.e from rfl,show aR.nw (eJ s) 5=s.f from rfl,show aR.nw (eJ s) 6=s.g from rfl,show aR.nw (eJ s) 7=s.h from rfl]at c0 c1 c2 c3 c4 c5 c6 c7;clear pJ;go_wp2_with fail;have lL:Row (wr.alloc (.cells (iA (eJ s)).toArray 163)) wr.heap.size (iA (eJ s)):=Row.new wr _ _;have Dw:Below A w (wr.alloc (.cells (iA (eJ s)).toArray 163)):=hk.alloc (by omega) _;have hw3:Row (wr.alloc (.cells (iA (eJ s)).toArray 163)) A (iA (aR.sched b 48)):=hz.alloc _;have e3:(iA (eJ s)).toArray=#[.int .u32 (V s.a),.int .u32 (V s.b),.int .u32 (V s.c),.int .u32 (V s.d),.int .u32 (V s.e),.int .u32 (V s.f),.int .u32 (V s.g),.int .u32 (V s.h)]:=rfl;rw[e3]at lL Dw hw3;clear e3 hz hk c0 c1 c2 c3 c4 c5 c6 c7 hr;generalize wr.alloc _=w3 at lL Dw hw3|-;generalize wr.heap.size=Hb at lL PK|-;have hwl:(aR.sched b 48).length=64:=aR.tr b 48;generalize hws:aR.sched b 48=ws at hw3 hwl;have hWS:=η hws;have hWL:=η hwl;clear hws hwl;have hHs:Hb<w3.heap.size:=lL.lt;obtain⟨wp,rfl⟩:∃wp:World,wp=wr:=⟨_,rfl⟩;go_loopw [104] (λv wr=>∃i:Nat,i<=64/\v=.int .i64 i/\Row wr Hb (iA (eJ (aR.QD ws s i)))/\Row wr A (iA ws)/\Below A w wr) (λv _=>64-(intOf v).toNat);exact⟨0,by omega,rfl,lL,hw3,Dw⟩;clear lL hw3 Dw hHs;obtain⟨i,aBG,rfl,hz,hw,hk⟩:=hrel;generalize aT:aR.QD ws s i=st at hz;have hST:=η aT;clear aT;obtain⟨a1,b1,c1,d1,e1,f1,g1,h1⟩:=st;by_cases aM:i<64
 ·have uq:∀j,j<8->wr.cell? ⟨Hb,j,none⟩=some (.int .u32 (V (aR.nw (eJ ⟨a1,b1,c1,d1,e1,f1,g1,h1⟩) j))):=λj hj=>hz.word j (by simp[eJ];omega);have x0:wr.cell? ⟨Hb,0,none⟩=some (.int .u32 (V a1)):=uq 0 (by omega);have x1:wr.cell? ⟨Hb,1,none⟩=some (.int .u32 (V b1)):=uq 1 (by omega);have x2:wr.cell? ⟨Hb,2,none⟩=some (.int .u32 (V c1)):=uq 2 (by omega);have x3:wr.cell? ⟨Hb,3,none⟩=some (.int .u32 (V d1)):=uq 3 (by omega);have x4:wr.cell? ⟨Hb,4,none⟩=some (.int .u32 (V e1)):=uq 4 (by omega);have x5:wr.cell? ⟨Hb,5,none⟩=some (.int .u32 (V f1)):=uq 5 (by omega);have x6:wr.cell? ⟨Hb,6,none⟩=some (.int .u32 (V g1)):=uq 6 (by omega);have x7:wr.cell? ⟨Hb,7,none⟩=some (.int .u32 (V h1)):=uq 7 (by omega);have xw:=hw.word i (by have:=hWL.o;omega);have xk:=(hHK.o.below hk Xy).word i aM;have p0:(i:Int)<64:=by omega
  clear uq;generalize TU:aR.nw aR.rounds i=kk at xk;have hKK:=η TU;generalize hwk:aR.nw ws i=wk at xw;have hWK:=η hwk;clear TU hwk;go_wp2_with fail;go_quiet (fail)
  obtain⟨q1,rfl⟩:∃q1:Nat,q1=nq:=⟨_,rfl⟩;go_wp2_with fail;go_quiet ((go_at_call 112;first|(exact bY (gJ _ _ 6 (by omega) _))|(exact bY (gJ _ _ 11 (by omega) _))|(exact bY (gJ _ _ 25 (by omega) _))|(exact bY (gJ _ _ 2 (by omega) _))|(exact bY (gJ _ _ 13 (by omega) _))|(exact bY (gJ _ _ 22 (by omega) _))))
  obtain⟨q2,rfl⟩:∃q2:Nat,q2=nq:=⟨_,rfl⟩;go_wp2_with fail;go_quiet ((go_at_call 112;first|(exact bY (gJ _ _ 6 (by omega) _))|(exact bY (gJ _ _ 11 (by omega) _))|(exact bY (gJ _ _ 25 (by omega) _))|(exact bY (gJ _ _ 2 (by omega) _))|(exact bY (gJ _ _ 13 (by omega) _))|(exact bY (gJ _ _ 22 (by omega) _))))
  obtain⟨q3,rfl⟩:∃q3:Nat,q3=nq:=⟨_,rfl⟩;go_wp2_with fail;generalize htt:h1+(fp e1 6 ^^^ fp e1 11 ^^^ fp e1 25)+(e1&&&f1 ^^^ ~~~e1&&&g1)+kk+wk=tt;have hTT:=η htt;clear htt;generalize huu:(fp a1 2 ^^^ fp a1 13 ^^^ fp a1 22)+(a1&&&b1 ^^^ a1&&&c1 ^^^ b1&&&c1)=uu;have hUU:=η huu;clear huu x0 x1 x2 x3 x4 x5 x6 x7 xw xk;replace hz:=((hz.drewN q1).drewN q2).drewN q3;replace hw:=((hw.drewN q1).drewN q2).drewN q3;replace hk:=below_drewN (below_drewN (below_drewN hk q1) q2) q3;generalize((wr.drewN q1).drewN q2).drewN q3=wg at hz hw hk|-;refine ax.tail 2 mixed (by as_aux_lemma=>kernel_rfl) rfl ?_;simp only[List.take_succ_cons,List.take_zero,List.drop_succ_cons,List.drop_zero];repeat(go_big_quiet_step (fail))
  refine wpQuiet_nil ?_;replace hz:=hz.drew;replace hw:=hw.drew;replace hk:=hk.drew;generalize wg.drew=wd at hz hw hk|-;obtain⟨T,hT⟩:=hz;have dL:∀(j:Nat)(v:Value),(iA [a1,b1,c1,d1,e1,f1,g1])[j]? =some v->wd.cell? (Addr.add ⟨Hb,0,none⟩ j)=some v:=λj v hj=>by
   rw[Addr.add_lit,Nat.zero_add,Row.cell ⟨T,hT⟩,<-hj];match j with
   |0|1|2|3|4|5|6=>rfl
   |j+7=>simp[iA]at hj
  refine wpList_copy_splice rfl _ _ _ _ rfl 157 underlying183 (by kernel_rfl) _ _ 7 7 7 8 rfl rfl Hb 1 (iA (eJ ⟨a1,b1,c1,d1,e1,f1,g1,h1⟩)) T hT (iA [a1,b1,c1,d1,e1,f1,g1]) rfl (λ_=>⟨rfl,_,rfl,dL⟩) (by simp[iA,eJ]) ?_ Hb wd (Below.refl _ _) ν ?_;intro v hv;obtain⟨x,_,rfl⟩:=List.mem_map.1 hv;rfl;intro w' Sf nC;have hz':Row w' Hb (iA [a1,a1,b1,c1,d1,e1,f1,g1]):=⟨T,Sf.o⟩;replace hw:=hw.below nC PK;replace hk:=hk.trans (nC.mono (Nat.le_of_lt PK));clear Sf nC hT dL;have y0:w'.cell? ⟨Hb,0,none⟩=some (.int .u32 (V a1)):=hz'.word 0 (by simp);have y4:w'.cell? ⟨Hb,4,none⟩=some (.int .u32 (V d1)):=hz'.word 4 (by simp);have z0:=hz'.free 0;have z4:=hz'.free 4;go_wp2_with fail;go_roundw
  ·have hkA:A<=Hb:=Nat.le_of_lt PK;refine⟨i+1,by omega,by go_num,?_,(hw.other (a:=⟨Hb,4,none⟩) (show Hb≠A by omega) _).other (a:=⟨Hb,0,none⟩) (show Hb≠A by omega) _,(hk.setCell (p:=⟨Hb,4,none⟩) hkA _).setCell (p:=⟨Hb,0,none⟩) hkA _⟩;have e:eJ (aR.QD ws s (i+1))=[tt+uu,a1,b1,c1,d1+tt,e1,f1,g1]:=by show eJ (aR.rnd (aR.QD ws s i) (aR.nw aR.rounds i) (aR.nw ws i))=_;rw[hST.o,hKK.o,hWK.o,<-hTT.o,<-hUU.o];rfl
   rw[e];have:=(hz'.set 4 (.int .u32 (V (d1+tt)))).set 0 (.int .u32 (V (tt+uu)));exact this
  simp[intOf];omega
 obtain rfl:i=64:=by omega
 have hr:=adh.o.below hk hSl;rw[show((64:Nat):Int)=64 from rfl];go_wp2_with fail;obtain⟨wt,rfl⟩:∃wt:World,wt=wr:=⟨_,rfl⟩;generalize iY:(⟨a1,b1,c1,d1,e1,f1,g1,h1⟩:aR.H8)=fin at hz hST;have aCR:=η iY;clear iY;have hP8:(eJ (aR.plus s fin)).length=8:=rfl;have hS8:(eJ s).length=8:=rfl;have hF8:(eJ fin).length=8:=rfl;have hPL:=η hP8;have hSL:=η hS8;have hFL:=η hF8;have hHS:Hb≠S:=by omega
 clear hP8 hS8 hF8;go_loopw [178] (λv wr=>∃i:Nat,i<=8/\v=.int .i64 i/\Row wr S (iA ((eJ (aR.plus s fin)).take i++(eJ s).drop i)++[rv,nv])/\Row wr Hb (iA (eJ fin))/\cA A S w wr) (λv _=>8-(intOf v).toNat);exact⟨0,by omega,rfl,hr,hz,cA.aH hk⟩;clear hr hz hk hw;obtain⟨i,hi8,rfl,hr,hz,hk⟩:=hrel;have Xb:(iA ((eJ (aR.plus s fin)).take i++(eJ s).drop i)).length=8:=by simp[iA,hPL.o,hSL.o];omega
 by_cases aM:i<8
 ·have cs:wr.cell? ⟨S,i,none⟩=some (.int .u32 (V (aR.nw (eJ s) i))):=by rw[hr.cell,List.getElem?_append_left (by omega),ql _ _ (by simpa[iA]using(by omega:i< (iA ((eJ (aR.plus s fin)).take i++(eJ s).drop i)).length)),aR.aaj _ _ _ (by rw[hPL.o];omega)]
  have cf:=hz.word i (by rw[hFL.o];omega);have fz:=hr.free i;have hpl:aR.nw (eJ (aR.plus s fin)) i=aR.nw (eJ s) i+aR.nw (eJ fin) i:=by
   match i,aM with
   |0,_|1,_|2,_|3,_|4,_|5,_|6,_|7,_=>rfl
  have hPP:=η hpl;have hML:=η Xb;clear hpl Xb;have p0:(i:Int)<8:=by omega
  go_wp2_with fail;refine ax.tail 13 mixed (by as_aux_lemma=>kernel_rfl) rfl ?_
  simp only[List.take_succ_cons,List.take_zero,List.drop_succ_cons,List.drop_zero];repeat(go_big_quiet_step (fail))
  refine wpQuiet_nil ?_;go_wp2_with fail;go_roundw
  ·refine⟨i+1,by omega,by go_num,?_,(hz.other (a:=⟨S,i,none⟩) (show S≠Hb by omega) _).drew,(hk.et i _).drew⟩;have:=(hr.set i (.int .u32 (V (aR.nw (eJ (aR.plus s fin)) i)))).drew;rw[List.set_append_left _ _ (by rw[hML.o];omega),Fg,aR.aai _ _ _ (by rw[hPL.o];omega) (by rw[hSL.o];omega),hPP.o]at this;exact this
  simp[intOf];omega
 obtain rfl:i=8:=by omega
 go_wp2_with fail;go_end0;have e8:(eJ (aR.plus s fin)).take 8++(eJ s).drop 8=eJ (aR.block s b):=by
  have:aR.block s b=aR.plus s fin:=by unfold aR.block;rw[hWS.o,hST.o]
  rw[this];rfl
 rw[e8]at hr;exact⟨rfl,hr,by rw[hA'.o];exact hk⟩
end
section
open ba Go.RowKit
structure aV(O:Nat->Prop)(w w':World):Prop where
 os:w'.os=w.os
 tape:w'.tape=w.tape
 output:w'.output=w.output
 size:w.heap.size<=w'.heap.size
 block:∀k,k<w.heap.size->¬O k->w'.heap[k]? =w.heap[k]?
namespace aV
variable{O O':Nat->Prop}{w w' uR:World}
def refl O w:aV O w w:=⟨rfl,rfl,rfl,ν,λ_ _ _=>rfl⟩
theorem trans(h:aV O w w')(k:aV O w' uR):aV O w uR:=⟨k.os.trans h.os,k.tape.trans h.tape,k.output.trans h.output,Nat.le_trans h.size k.size,λi hi ho=>(k.block i (Nat.lt_of_lt_of_le hi h.size) ho).trans (h.block i hi ho)⟩
def weaken(h:aV O w w')(ho:∀k,k<w.heap.size->O k->O' k):aV O' w w':=⟨h.os,h.tape,h.output,h.size,λk hk hn=>h.block k hk λhh=>hn (ho k hk hh)⟩
def aH(h:Below w.heap.size w w'):aV O w w':=⟨h.os,h.tape,h.output,h.size,λk hk _=>h.block k hk⟩
def iV{S}(h:cA w.heap.size S w w')(hS:O S):aV O w w':=⟨h.os,h.tape,h.output,h.size,λk hk ho=>h.block k hk λhe=>ho (he▸hS)⟩
def set(h:aV O w w') a v(ho:O a.block):aV O w (w'.setCell a v):=⟨h.os,h.tape,h.output,by have:=h.size;simp[World.setCell];omega,λk hk hn=>(Below.heap_setCell _ _ _ _ (by intro he;apply hn;first|rw[he];exact ho|rw[<-he];exact ho)).trans (h.block k hk hn)⟩
theorem alloc(h:aV O w w') o:aV O w (w'.alloc o):=h.trans (aH ((Below.refl _ _).alloc ν o))
theorem drew(h:aV O w w'):aV O w w'.drew:=h.trans (aH (Below.refl _ _).drew)
def drewN(h:aV O w w') n:aV O w (w'.drewN n):=h.trans (aH (below_drewN (Below.refl _ _) n))
def row{b l}(h:aV O w w')(hr:Row w b l)(hb:¬O b):Row w' b l:=by obtain⟨T,hT⟩:=hr;exact⟨T,by rw[h.block b (Array.getElem?_eq_some_iff.1 hT).1 hb,hT]⟩
def but{B S}(h:aV (λk=>k=S∨O k) w w')(hB:B<=w.heap.size)(ho:∀k,O k->B<=k):cA B S w w':=⟨h.os,h.tape,h.output,h.size,λk hk hs=>h.block k (by omega) λhh=>hh.elim hs λhO=>by have:=ho k hO;omega⟩
end aV
def rW(w:World)(O:Nat->Prop)(rv:Value)(l:List UInt8):Prop:=(rv=.slice none 0 0/\l=[])∨∃g off cap,rv=.slice (some ⟨g,off,none⟩) l.length cap/\l.length<=cap/\O g/\g<w.heap.size/\Bytes w g off l/\∀j,j<cap->(w.cell? ⟨g,off+j,none⟩).isSome=true/\w.frozen? ⟨g,off+j,none⟩=false
namespace rW
variable{w w':World}{O:Nat->Prop}{rv:Value}{l:List UInt8}
def nil w O:rW w O (.slice none 0 0) []:=.inl ⟨rfl,rfl⟩
def same(h:rW w O rv l)(hs:w.heap.size<=w'.heap.size)(hk:∀k,O k->k<w.heap.size->w'.heap[k]? =w.heap[k]?):rW w' O rv l:=by rcases h with h|⟨g,off,cap,h1,h2,h3,h4,h5,h6⟩;exact .inl h;have hb:=hk g h3 h4;refine .inr ⟨g,off,cap,h1,h2,h3,by omega,λj hj=>?_,λj hj=>?_⟩;rw[<-h5 j hj];exact World.cell?_of_block (w:=w) hb;rw[World.cell?_of_block (w:=w) (w':=w') (a:=⟨g,off+j,none⟩) hb,World.frozen?_of_block (w:=w) (w':=w') (a:=⟨g,off+j,none⟩) hb];exact h6 j hj
def alloc(h:rW w O rv l) o:rW (w.alloc o) O rv l:=h.same (by simp) λk _ hk=>Below.heap_alloc _ _ _ hk
def drew(h:rW w O rv l):rW w.drew O rv l:=h
def drewN(h:rW w O rv l) n:rW (w.drewN n) O rv l:=h
def other(h:rW w O rv l){a}(ha:¬O a.block) v:rW (w.setCell a v) O rv l:=h.same (by simp[World.setCell]) λk hk _=>Below.heap_setCell _ _ _ _ (λhe=>ha (he▸hk))
def but{S}(h:rW w O rv l)(hb:cA w.heap.size S w w')(hS:¬O S):rW w' O rv l:=h.same hb.size λk hk hl=>hb.block k hl (λhe=>hS (he▸hk))
def len(h:rW w O rv l):∃a cap,rv=.slice a l.length cap/\l.length<=cap:=by rcases h with⟨h,rfl⟩|⟨g,off,cap,h1,h2,_⟩;exact⟨none,0,h,by simp⟩;exact⟨_,cap,h1,h2⟩
end rW
def aW l:(w8 l).length=l.length:=by simp[w8]
def nG l:∀u∈w8 l,u.oneCell'=true:=by intro u hu;obtain⟨x,_,rfl⟩:=List.mem_map.1 hu;rfl
def oy l m j(h:j<l.length):nth (l++m) j=nth l j:=by unfold nth;rw[List.getD_eq_getElem?_getD,List.getD_eq_getElem?_getD,List.getElem?_append_left h]
def m9 l m j(h:l.length<=j):nth (l++m) j=nth m (j-l.length):=by unfold nth;rw[List.getD_eq_getElem?_getD,List.getD_eq_getElem?_getD,List.getElem?_append_right h]
theorem rH b:∀vs o (w:World),(w.setCells b o vs).heap.size=w.heap.size/\(∀k,k≠b->(w.setCells b o vs).heap[k]? =w.heap[k]?)/\(w.setCells b o vs).os=w.os/\(w.setCells b o vs).tape=w.tape/\(w.setCells b o vs).output=w.output
 |[],_,_=>⟨rfl,λ_ _=>rfl,rfl,rfl,rfl⟩|v::r,o,w=>by obtain⟨h1,h2,h3,h4,h5⟩:=rH b r (o+1) (w.setCell ⟨b,o,none⟩ v);rw[World.setCells];exact⟨by rw[h1];simp[World.setCell],λk hk=>by rw[h2 k hk];exact Below.heap_setCell _ _ _ _ hk,h3,h4,h5⟩
def sZ{P} w{ops rest o a Q} (hg:o.guard=none) s x t (cI:o.op=Op.call {callee:=Callee.builtin Builtin.append,args:=#[s,x],argTypes:=#[t,t]}) e i (h1:P.underlying t=some (.slice e)) (h2:P.info? e=some i) (h3:i.zero=some (.int .u8 0)) (h4:i.size=1) (h5:i.bytes=1) O rv l b (hs:a.eval s=rv) (Dy:rW w O rv l) (hB:∀k,w.heap.size<=k->O k) gb ob c (hx:a.eval x=.slice (some ⟨gb,ob,none⟩) b.length c) (yo:Bytes w gb ob b) (hm:l.length+b.length<=140737488355328) (hK:∀v' w',rW w' O v' (l++b)->aV O w w'->wpList P ops Q rest (a.put o.dst v') w'):wpList P ops Q (o::rest) a w:=by
 have al2:l.length+b.length<=maxLen:=by unfold maxLen;omega
 have acM:∀(j:Nat)(u:Value),(w8 b)[j]? =some u->w.cell? (Addr.add ⟨gb,ob,none⟩ j)=some u:=λj u hu=>by
  have hj:j<b.length:=by have:=(List.getElem?_eq_some_iff.1 hu).1;rwa[aW]at this
  rw[Addr.add_lit,yo j hj,<-hu,iL b j hj]
 have Xj:∀v' w',w'.ownsRow w.heap.size e 1 v' (l.length+b.length) (w8 l++w8 b)->w.grownBy w' none->0<l.length+b.length->rW w' O v' (l++b)/\aV O w w':=by
  intro v' w' bL jO hpos;obtain⟨hlen,hor⟩:=bL;rcases hor with⟨_,h0⟩|⟨g,cap,cur,rfl,hgg,Xr,aiw,_,dL,alz⟩;omega;refine⟨.inr ⟨g,0,cap,by rw[List.length_append],by rw[List.length_append];exact aiw,hB _ (by omega),(Array.getElem?_eq_some_iff.1 Xr).1,λj hj=>?_,λj hj=>?_⟩,aV.aH ((Below.refl w.heap.size w).grown jO ν (λk hk=>by cases hk))⟩;rw[Nat.zero_add];have JQ:j<l.length+b.length:=by rw[List.length_append]at hj;exact hj
  have e1:(w8 (l++b))[j]? =some (.int .u8 (Y (nth (l++b) j))):=iL _ j hj;have e2:w8 (l++b)=w8 l++w8 b:=by simp[w8]
  rw[e2,<-alz,Nat.mul_one,List.getElem?_take_of_lt JQ]at e1;simpa[World.cell?,Xr]using e1;have JQ:j<cur.size:=by rw[dL];omega
  simp[World.cell?,World.frozen?,Xr,JQ]
 rcases Dy with⟨rfl,rfl⟩|⟨g,off,cap,rfl,aiw,hgB,yO,hold,Bw⟩;by_cases hb0:b=[];subst hb0;refine wpList_plain hg λK hK'=>?_;have cF:(Builtin.append_ #[t,t] o.type #[.slice none 0 0,.slice (some ⟨gb,ob,none⟩) 0 c]).run P w=.ok (.slice none 0 0) w:=by have hfc:=run_firstCells_some (P:=P) w i.size 0 ⟨gb,ob,none⟩ 0 c [] (by simp) (by simp);simp[Builtin.append_,run_underlying h1,sizeOf,typeInfo,h2,Builtin.lenOf,hfc]
 unfold Oper.wp;have xq:a.eval x=.slice (some ⟨gb,ob,none⟩) 0 c:=hx;simp[execOp,cI,resolve,invoke,builtin,hs,xq,cF,Result.andThen];exact hK' _ _ (hK _ _ (rW.nil w O) (aV.refl O w));have hpos:0<b.length:=List.length_pos_iff.2 hb0;refine wpList_append_grows w hg s x t cI e i _ 1 1 h1 h2 h3 h4 h5 rfl (by decide) none 0 0 [] hs (λ_=>⟨rfl,rfl⟩) rfl (λ_ h=>by cases h) ⟨gb,ob,none⟩ b.length c (w8 b) hx (by rw[aW,Nat.mul_one]) acM (nG b) (by omega) (by simpa using al2) (by simp at hm|-;omega) ?_;intro v' w' bL jO;have:=Xj v' w' (by simpa[w8]using bL) jO (by simp;omega);exact hK v' w' this.1 this.2;refine wpList_append_arg w hg s x t cI e i _ 1 1 h1 h2 h3 h4 h5 rfl (by decide) g off l.length cap (w8 l) hs (by rw[aW,Nat.mul_one]) (λj u hu=>?_) ⟨gb,ob,none⟩ b.length c (w8 b) hx (by rw[aW,Nat.mul_one]) acM (nG b) (λM0 j hj=>?_) al2 (by omega) (λM0=>?_) (λxC v' w' bL jO=>?_);have hj:j<l.length:=by have:=(List.getElem?_eq_some_iff.1 hu).1;rwa[aW]at this
 rw[hold j hj,<-hu,iL l j hj];rw[aW]at hj;rw[Nat.mul_one,Nat.add_assoc];exact Bw _ (by omega);rw[Nat.mul_one];have alF:∀j,j< (w8 b).length->(w.cell? ⟨g,off+l.length+j,none⟩).isSome=true:=λj hj=>by rw[aW]at hj;rw[Nat.add_assoc];exact(Bw _ (by omega)).1
 have TY:=World.cell?_setCells_in g (w8 b) (off+l.length) w alF;have n7:=World.cell?_setCells_out g (w8 b) (off+l.length) w;have fR:=World.frozen?_setCells g (w8 b) (off+l.length) w;obtain⟨k1,k2,k3,k4,k5⟩:=rH g (w8 b) (off+l.length) w;generalize w.setCells g (off+l.length) (w8 b)=w' at TY n7 fR k1 k2 k3 k4 k5|-;have hlo:∀j,j<l.length->w'.cell? ⟨g,off+j,none⟩=w.cell? ⟨g,off+j,none⟩:=λj hj=>n7 _ (λ_ _=>Or.inl (by show off+j<off+l.length;omega));have hhi:∀j,l.length<=j->j<l.length+b.length->w'.cell? ⟨g,off+j,none⟩=some (.int .u8 (Y (nth b (j-l.length)))):=λj h1 h2=>by
  have hj:j-l.length< (w8 b).length:=by rw[aW];omega
  have:=TY (j-l.length) hj;rw[show off+l.length+(j-l.length)=off+j by omega]at this;rw[this];have e:=iL b (j-l.length) (by omega);rw[List.getElem?_eq_getElem hj]at e;exact e
 refine hK _ w' (.inr ⟨g,off,cap,by rw[List.length_append],by rw[List.length_append];omega,hgB,by omega,λj hj=>?_,λj hj=>?_⟩) ⟨k3,k4,k5,by omega,λk _ hn=>k2 k (λhe=>hn (he▸hgB))⟩;rw[List.length_append]at hj;by_cases hl:j<l.length;rw[hlo j hl,oy _ _ _ hl];exact hold j hl;rw[hhi j (by omega) hj,m9 _ _ _ (by omega)];refine⟨?_,by rw[fR];exact(Bw j hj).2⟩;by_cases hl:j<l.length;rw[hlo j hl];exact(Bw j hj).1;by_cases h2:j<l.length+b.length;rw[hhi j (by omega) h2];rfl;rw[n7 ⟨g,off+j,none⟩ (λ_ _=>Or.inr (by show off+l.length+(w8 b).length<=off+j;rw[aW];omega))];exact(Bw j hj).1;have:=Xj v' w' bL jO (by omega);exact hK v' w' this.1 this.2
end
section
open Go.RowKit ba
def StH(w:World)(S:Nat)(O:Nat->Prop)(k:Nat)(L:List UInt8)(rv:Value):Prop:=Row w S (iA (eJ (aR.blocks k aR.begin L))++[rv,.int .u64 (U (UInt64.ofNat L.length))])/\rW w O rv (L.drop (64*k))
def St(w:World)(S:Nat)(O:Nat->Prop)(L:List UInt8):Prop:=∃rv,StH w S O (L.length/64) L rv
def Tryz.alf:(prog.info? 5).map (λi=>(i.zero,i.size,i.bytes))=some (some (.int .u8 0),1,1):=by kernel_rfl
def rW.XU{w O g off cap l}(h:rW w O (.slice (some ⟨g,off,none⟩) l.length cap) l)(hl:64<=l.length):(cap=64->rW w O (.slice (some ⟨g,off,none⟩) (l.length-64) 0) (l.drop 64))/\(cap≠64->rW w O (.slice (some ⟨g,off+64,none⟩) (l.length-64) (cap-64)) (l.drop 64)):=by rcases h with⟨_,h1⟩|⟨g',ahx,Ct,h1,h2,h3,h4,h5,h6⟩;exact absurd hl (by rw[h1];decide);simp only[Value.slice.injEq,Option.some.injEq,Addr.mk.injEq]at h1;obtain⟨⟨rfl,rfl,-⟩,-,rfl⟩:=h1;have hd:(l.drop 64).length=l.length-64:=List.length_drop;refine⟨λhc=>.inr ⟨_,_,0,by rw[hd],by omega,h3,h4,λj hj=>by omega,λj hj=>by omega⟩,λhc=>.inr ⟨_,_,_,by rw[hd],by omega,h3,h4,λj hj=>?_,λj hj=>?_⟩⟩;rw[Nat.add_assoc,h5 (64+j) (by omega)];simp[nth,List.getD_eq_getElem?_getD];rw[Nat.add_assoc];exact h6 _ (by omega)
def StH.next{w S O k M rv rv' n} (hr:Row w S (iA (eJ (aR.block (aR.blocks k aR.begin M) ((M.drop (64*k)).take 64)))++[rv,n])) (hb:rW w O rv' ((M.drop (64*k)).drop 64)) (hn:n=.int .u64 (U (UInt64.ofNat M.length))) (PH:¬O S):StH (w.setCell ⟨S,8,none⟩ rv') S O (k+1) M rv':=by subst hn;refine⟨?_,?_⟩;exact hr.set 8 rv';rw[List.drop_drop]at hb;exact hb.other (a:=⟨S,8,none⟩) PH _
def lS(S:Nat)(O:Nat->Prop)(L b:List UInt8)(gb ob c:Nat)(w:World)(aT:St w S O L)(PH:¬O S)(Xy:S≠1)(h1B:¬O 1)(hB:∀k,w.heap.size<=k->O k)(hgS:gb≠S)(yo:Bytes w gb ob b) (hm:L.length+b.length<=70368744177664) (hK:Row w 1 (iA aR.rounds)):Calls prog 97 #[.pointer (some ⟨S,0,none⟩),.slice (some ⟨gb,ob,none⟩) b.length c] w λe w'=>e=.returned (.tuple #[])/\St w' S O (L++b)/\aV (λk=>k=S∨O k) w w':=by
 obtain⟨i0,fy,nB,ku,gK⟩:=info_parts Tryz.alf;obtain⟨rv,b8,Dy⟩:=aT;have Bz:(iA (eJ (aR.blocks (L.length/64) aR.begin L))).length=8:=rfl;have c9:w.cell? ⟨S,9,none⟩=some (.int .u64 (U (UInt64.ofNat L.length))):=by rw[b8.cell,List.getElem?_append_right (by rw[Bz];decide),Bz];rfl
 have c8:w.cell? ⟨S,8,none⟩=some rv:=by rw[b8.cell,List.getElem?_append_right (by rw[Bz];decide),Bz];rfl
 have z8:=b8.free 8;have z9:=b8.free 9;have hbw:=Dy.other (a:=⟨S,9,none⟩) PH (.int .u64 (U (UInt64.ofNat L.length+UInt64.ofNat b.length)));have WL:(L.drop (64*(L.length/64))).length<=L.length:=by rw[List.length_drop];omega
 obtain⟨ra,Ad,hrv,alM⟩:=Dy.len;subst hrv;have WJ:=b8.set 9 (.int .u64 (U (UInt64.ofNat L.length+UInt64.ofNat b.length)));have WC:(w.setCell ⟨S,9,none⟩ (.int .u64 (U (UInt64.ofNat L.length+UInt64.ofNat b.length)))).heap.size=w.heap.size:=by simp[World.setCell]
 have amE:=(aV.refl (λk=>k=S∨O k) w).set ⟨S,9,none⟩ (.int .u64 (U (UInt64.ofNat L.length+UInt64.ofNat b.length))) (.inl rfl);have amC:Bytes (w.setCell ⟨S,9,none⟩ (.int .u64 (U (UInt64.ofNat L.length+UInt64.ofNat b.length)))) gb ob b:=λj hj=>by rw[World.cell?_of_block (Below.heap_setCell _ _ _ _ (show gb≠S from hgS))];exact yo j hj
 generalize hrr:L.drop (64*(L.length/64))=r at hbw WL alM c8 WJ b8;have hRR:=η hrr;have H1:=η b8;have H2:=η Dy;have H3:=η WJ;have H4:=η hbw;have H5:=η amC;have H6:=η amE;have H7:=η Bz;have H8:=η WC;have H9:=η hK;have H10:=η yo;clear hrr b8 Dy WJ hbw amC amE Bz WC hK yo;go_enter func97,ntmps97;go_wp2_with (at_builtin;refine sZ _ rfl _ _ _ rfl 5 i0 underlying64 fy nB ku gK O _ r b rfl H4.o (λk hk=>hB k (by rw[<-H8.o];exact hk)) gb ob c rfl H5.o (by omega) ?_;intro v' w1 Xq PG;obtain⟨ra1,Jb,kh,aBc⟩:=Xq.len;subst kh;have aiC:=η Xq;have Xs:=η PG;have y8:w1.cell? ⟨S,8,none⟩=some (.slice ra r.length Ad):=(((PG.row H3.o PH).cell 8).trans rfl);have y8f:w1.frozen? ⟨S,8,none⟩=false:=((PG.row H3.o PH).free 8);clear Xq PG)
 have hSA:StH (w1.setCell ⟨S,8,none⟩ (.slice ra1 (r++b).length Jb)) S O (L.length/64) (L++b) (.slice ra1 (r++b).length Jb):=by
  have WU:=(Xs.o.row H3.o PH).set 8 (.slice ra1 (r++b).length Jb);refine⟨?_,?_⟩;rw[aR.DM _ _ _ _ (by omega)];have e:UInt64.ofNat (L++b).length=UInt64.ofNat L.length+UInt64.ofNat b.length:=by rw[List.length_append,UInt64.ofNat_add]
  rw[e];exact WU;rw[List.drop_append_of_le_length (by omega),hRR.o];exact aiC.o.other (a:=⟨S,8,none⟩) PH _
 have Zd:aV (λk=>k=S∨O k) w (w1.setCell ⟨S,8,none⟩ (.slice ra1 (r++b).length Jb)):=(H6.o.trans (Xs.o.weaken λ_ _ h=>.inr h)).set ⟨S,8,none⟩ _ (.inl rfl);have hML:(L++b).length=L.length+b.length:=List.length_append;have hrb:(r++b).length=r.length+b.length:=List.length_append;rw[<-hrb];clear c8 c9 y8 y8f z8 z9 hrb;have hZ:w.heap.size<=(w1.setCell ⟨S,8,none⟩ (.slice ra1 (r++b).length Jb)).heap.size:=by exact Zd.size
 generalize(r++b).length=zz at hSA Zd hZ|-;generalize w1.setCell _ _=w2 at hSA Zd hZ|-;have hq:64*(L.length/64)<=(L++b).length:=by omega
 generalize hM:L++b=M at hSA hML hq;have hM':=η hM;have Xb:M.length<=70368744177664:=by omega
 have aCx:=η hML;clear hM hML;generalize L.length/64=q at hSA hq;have auB:=η hSA;have avl:=η Zd;clear hSA Zd;go_loopg [] (M.length) (λn wr=>∃(k:Nat)(rv:Value),64*k<=M.length/\M.length-64*k<=n/\StH wr S O k M rv/\aV (λk=>k=S∨O k) w wr/\w.heap.size<=wr.heap.size);exact⟨q,_,hq,by omega,auB.o,avl.o,hZ⟩;obtain⟨k,rv,hk,hkn,aT,n8,hz⟩:=hrel;obtain⟨b8,Dy⟩:=aT;have Bz:(iA (eJ (aR.blocks k aR.begin M))).length=8:=rfl;have c8:wr.cell? ⟨S,8,none⟩=some rv:=by rw[b8.cell,List.getElem?_append_right (by rw[Bz];decide),Bz];rfl
 have z8:=b8.free 8;obtain⟨ra,Ad,hrv,alM⟩:=Dy.len;subst hrv;have H1:=η b8;have H2:=η Dy;clear b8 Dy Bz;by_cases aM:M.length-64*k<64
 ·have Sn:k=M.length/64:=by omega
  go_wp2_with fail;go_end0;rw[hM'.o];refine⟨rfl,?_,n8⟩;unfold St;rw[<-Sn];exact⟨_,H1.o,H2.o⟩
 rcases H2.o with⟨_,h1⟩|⟨g,off,cap,h1,h2,h3,h4,h5,h6⟩;exact absurd (by rw[<-List.length_drop,h1];decide) aM;simp only[Value.slice.injEq]at h1;obtain⟨rfl,-,rfl⟩:=h1;have aiw:64<=Ad:=by rw[List.length_drop]at h2;omega
 have H5:=η h5;have H6:=η h6;clear h5 h6;go_wp2_with fail;have amJ:((M.drop (64*k)).take 64).length=64:=by rw[List.length_take,List.length_drop];omega
 have PF:Bytes wr g off ((M.drop (64*k)).take 64):=λj hj=>by rw[amJ]at hj;rw[H5.o j (by rw[List.length_drop];omega)];simp[nth,List.getD_eq_getElem?_getD,hj]
 refine(KG S g off Ad _ _ _ _ amJ wr (n8.row H9.o (λh=>h.elim (λh=>Xy h.symm) h1B)).lt H1.o h4 PF (n8.row H9.o (λh=>h.elim (λh=>Xy h.symm) h1B))).mono ?_;rintro e uR⟨rfl,oz,Xp⟩;have y8:uR.cell? ⟨S,8,none⟩=some (.slice (some ⟨g,off,none⟩) (M.drop (64*k)).length Ad):=by rw[oz.cell,List.getElem?_append_right (by show 8<=8;decide)];rfl
 have y8f:=oz.free 8;have ac8:=η (H2.o.but Xp PH);have R2:=η oz;have B2:=η Xp;clear oz Xp c8 z8;have am8:64<=(M.drop (64*k)).length:=by rw[List.length_drop];omega
 by_cases hc:Ad=64
 ·subst hc;go_wp2_with fail;have hn:=StH.next (k:=k) R2.o ((rW.XU ac8.o am8).1 rfl) rfl PH;rw[List.length_drop]at hn;go_roundg (gk-1);exact⟨k+1,_,by omega,by omega,hn,(n8.trans (aV.iV B2.o (.inl rfl))).set ⟨S,8,none⟩ _ (.inl rfl),by have:=B2.o.size;simp[World.setCell];omega⟩;omega
 go_wp2_with fail;have hn:=StH.next (k:=k) R2.o ((rW.XU ac8.o am8).2 hc) rfl PH
 rw[List.length_drop]at hn;go_roundg (gk-1);exact⟨k+1,_,by omega,by omega,hn,(n8.trans (aV.iV B2.o (.inl rfl))).set ⟨S,8,none⟩ _ (.inl rfl),by have:=B2.o.size;simp[World.setCell];omega⟩;omega
def rW.weaken{w O O' rv l}(h:rW w O rv l)(ho:∀k,k<w.heap.size->O k->O' k):rW w O' rv l:=by rcases h with h|⟨g,off,cap,h1,h2,h3,h4,h5,h6⟩;exact .inl h;exact .inr ⟨g,off,cap,h1,h2,ho _ h4 h3,h4,h5,h6⟩
def St.weaken{w S O O' L}(h:St w S O L)(ho:∀k,k<w.heap.size->O k->O' k):St w S O' L:=by obtain⟨rv,h1,h2⟩:=h;exact⟨rv,h1,h2.weaken ho⟩
def St.alloc{w S O L}(h:St w S O L) o:St (w.alloc o) S O L:=by obtain⟨rv,h1,h2⟩:=h;exact⟨rv,h1.alloc o,h2.alloc o⟩
def St.lt{w S O L}(h:St w S O L):S<w.heap.size:=by obtain⟨rv,h1,_⟩:=h;exact h1.lt
def St.anH{w S O L}(h:St w S O L):w.cell? ⟨S,9,none⟩=some (.int .u64 (U (UInt64.ofNat L.length))):=by obtain⟨rv,h1,_⟩:=h;have Bz:(iA (eJ (aR.blocks (L.length/64) aR.begin L))).length=8:=rfl;rw[h1.cell,List.getElem?_append_right (by rw[Bz];decide),Bz];rfl
def St.anI{w S O L}(h:St w S O L):∃ra Ad,w.cell? ⟨S,8,none⟩=some (.slice ra (L.length % 64) Ad):=by
 obtain⟨rv,h1,h2⟩:=h;have Bz:(iA (eJ (aR.blocks (L.length/64) aR.begin L))).length=8:=rfl;obtain⟨ra,Ad,h3,_⟩:=h2.len;have e:(L.drop (64*(L.length/64))).length=L.length % 64:=by rw[List.length_drop];omega
 rw[e]at h3;exact⟨ra,Ad,by rw[h1.cell,List.getElem?_append_right (by rw[Bz];decide),Bz,h3];rfl⟩
def Bytes.one(w:World) x v(hv:v=Y x) T:Bytes (w.alloc (.cells #[.int .u8 v] T)) w.heap.size 0 [x]:=λj hj=>by
 obtain rfl:j=0:=by simp at hj;omega
 subst hv;exact(Row.new w [.int .u8 (Y x)] T).cell 0
def Bytes.asA(w:World) o x v(hv:v=Y x) T:Bytes ((w.alloc o).alloc (.cells #[.int .u8 v] T)) (w.heap.size+1) 0 [x]:=by have:=Bytes.one (w.alloc o) x v hv T;rw[World.size_alloc]at this;exact this
def St.keep{w w' S O P L}(h:St w S O L)(hk:aV P w w')(hS:¬P S)(hO:∀k,O k->¬P k):St w' S O L:=by obtain⟨rv,h1,h2⟩:=h;exact⟨rv,hk.row h1 hS,h2.same hk.size λk ho hl=>hk.block k hl (hO k ho)⟩
def aR.P8 N i(h:i<8):nth (aR.be8 N) i=(shr N (56-8*i)).toUInt8:=by
 match i,h with
 |0,_=>rfl
 |1,_=>rfl
 |2,_=>rfl
 |3,_=>rfl
 |4,_=>rfl
 |5,_=>rfl
 |6,_=>rfl
 |7,_=>rfl
def ns l i m(h:i<l.length):(l.take i++List.replicate (m+1) 0).set i (nth l i)=l.take (i+1)++List.replicate m 0:=by
 have hl:(l.take i).length=i:=by rw[List.length_take];omega
 rw[List.set_append_right _ _ (by omega),hl,Nat.sub_self,List.replicate_succ,List.set_cons_zero];have e:nth l i=l[i]:=by simp[nth,h]
 rw[e,<-List.take_concat_get h,List.concat_eq_append,List.append_assoc,List.singleton_append]
def Df{P} t e(n:Nat) cs k(i:Int)(h:P.underlying t=some (.array n e)) v(h0:0<=i)(hi:i<n)(hv:cs[i.toNat]? =some v)(hs:∀w,(sizeOf e).run P w=.ok 1 w)(ha:∀w,(isAgg e).run P w=.ok false w) w:(Instr.index t (.agg cs) (.int k i)).run P w=.ok v w:=by simp[Instr.index,run_underlying h,asIntOf,h0,hi,hs,ha,hv,part,go_sem]
def aR.ZX s i(h:i<8):nth (aR.out s) (4*i)=(kr (aR.nw (eJ s) i) 24).toUInt8/\nth (aR.out s) (4*i+1)=(kr (aR.nw (eJ s) i) 16).toUInt8/\nth (aR.out s) (4*i+2)=(kr (aR.nw (eJ s) i) 8).toUInt8/\nth (aR.out s) (4*i+3)=(aR.nw (eJ s) i).toUInt8:=by
 match i,h with
 |0,_=>exact⟨rfl,rfl,rfl,rfl⟩
 |1,_=>exact⟨rfl,rfl,rfl,rfl⟩
 |2,_=>exact⟨rfl,rfl,rfl,rfl⟩
 |3,_=>exact⟨rfl,rfl,rfl,rfl⟩
 |4,_=>exact⟨rfl,rfl,rfl,rfl⟩
 |5,_=>exact⟨rfl,rfl,rfl,rfl⟩
 |6,_=>exact⟨rfl,rfl,rfl,rfl⟩
 |7,_=>exact⟨rfl,rfl,rfl,rfl⟩
def anC l i(h:i<8)(hl:l.length=32) a b c d(ha:nth l (4*i)=a)(hb:nth l (4*i+1)=b)(hc:nth l (4*i+2)=c)(hd:nth l (4*i+3)=d):((((w8 (l.take (4*i)++List.replicate (32-4*i) 0)).set (4*i) (.int .u8 (Y a))).set (4*i+1) (.int .u8 (Y b))).set (4*i+2) (.int .u8 (Y c))).set (4*i+3) (.int .u8 (Y d)) =w8 (l.take (4*(i+1))++List.replicate (32-4*(i+1)) 0):=by subst ha hb hc hd;rw[show 32-4*i=(32-4*(i+1))+1+1+1+1 by omega];rw[oT,ns _ _ _ (by omega),oT,ns _ _ _ (by omega),oT,ns _ _ _ (by omega),oT,ns _ _ _ (by omega)];rfl
def Tryz.Bj:(prog.info? 67).map (λi=>i.size)=some 32:=by kernel_rfl
def Row.setRow{w b l}(h:Row w b l) m:Row (w.setRow b m.toArray) b m:=by obtain⟨T,h⟩:=h;exact⟨T,setRow_heap w b _ _ T _ h⟩
def Row.aG{w b g l}(h:Row w b l)(hb:b≠g) m:Row (w.setRow g m) b l:=by obtain⟨T,h⟩:=h;exact⟨T,by rw[setRow_other w g b m hb];exact h⟩
theorem aV.setRow{O w w'}(h:aV O w w') g m(hg:O g):aV O w (w'.setRow g m):=⟨h.os,h.tape,h.output,by rw[setRow_size];exact h.size,λk hk hn=>(setRow_other w' g k m (λhe=>hn (he▸hg))).trans (h.block k hk hn)⟩
def OW{ops:Array Oper}{rest:List Oper}{o:Oper}{a:Act}{w:World}{Q:Exit->Act->World->Prop}(jk:o.guard=none)(x:Operand)(ho:o.op=.load 67 x) (g:Nat) (l:List UInt8) (hl:l.length=32) (hx:a.eval x=.pointer (some ⟨g,0,none⟩)) (hr:Row w g (w8 l)) (h:wpList prog ops Q rest (a.put o.dst (.agg (w8 l).toArray)) w):wpList prog ops Q (o::rest) a w:=by obtain⟨T,hT⟩:=hr;exact wpList_load_row jk _ x ho g hx T _ (0,0) _ hT underlying67 rfl (by rw[Tryz.Bj,List.size_toArray,aW,hl]) h
def eU{ops:Array Oper}{rest:List Oper}{o:Oper}{a:Act}{w:World}{Q:Exit->Act->World->Prop}(jk:o.guard=none)(x y:Operand)(ho:o.op=.store 67 x y) (g:Nat) (l m:List UInt8) (hl:l.length=32) (hm:m.length=32) (hx:a.eval x=.pointer (some ⟨g,0,none⟩)) (hy:a.eval y=.agg (w8 m).toArray) (hr:Row w g (w8 l)) (h:wpList prog ops Q rest (a.put o.dst undef) (w.setRow g (w8 m).toArray)):wpList prog ops Q (o::rest) a w:=by obtain⟨T,hT⟩:=hr;refine wpList_store_row jk _ x y ho g _ hx hy T _ hT (by rw[Tryz.Bj,List.size_toArray,aW,hm]) (by rw[List.size_toArray,List.size_toArray,aW,aW,hl,hm]) ?_ h;rw[List.all_toArray];exact List.all_eq_true.2 (nG m)
def Qq(S:Nat)(O:Nat->Prop)(L:List UInt8)(w:World)(aT:St w S O L)(PH:¬O S)(Xy:S≠1)(h1B:¬O 1)(hB:∀k,w.heap.size<=k->O k) (hm:L.length<=35184372088832) (hK:Row w 1 (iA aR.rounds)):Calls prog 98 #[.pointer (some ⟨S,0,none⟩)] w λe w'=>e=.returned (.agg (w8 (aR.sum L)).toArray)/\aV (λk=>k=S∨O k) w w':=by
 have c9:∀o,(w.alloc o).cell? ⟨S,9,none⟩=some (.int .u64 (U (UInt64.ofNat L.length))):=λo=>(aT.alloc o).anH;have hSl:=aT.lt;have hKl:=hK.lt;have HST:=η aT;have H9:=η hK;clear hK aT;go_enter func98,ntmps98;go_wp2_with fail;refine(lS S (λk=>O k/\k≠w.heap.size) L [128] (w.heap.size+1) 0 1 _ (((HST.o.weaken λk hk ho=>⟨ho,by omega⟩).alloc _).alloc _) (λh=>PH h.1) Xy (λh=>h1B h.1) (λk hk=>⟨hB k (by simp at hk;omega),by simp at hk;omega⟩) (by omega) ?_ (by simp;omega) ((H9.o.alloc _).alloc _)).mono ?_
 exact Bytes.asA w _ 128 128 rfl _;rintro e w2⟨rfl,mB,yn⟩;have TU:aV (λk=>k=S∨O k) w w2:=(((aV.refl _ w).alloc _).alloc _).trans (yn.weaken λk _ h=>h.imp id (λh=>h.1));have J0:=yn.row ((Row.new w (w8 (List.replicate 32 0)) _).alloc _) (λh=>h.elim (λh=>by omega) (λh=>h.2 rfl));have oO:w.heap.size+2<=w2.heap.size:=by have:=yn.size;simpa using this
 clear yn c9;have K2:=η TU;have R2:=η J0;have S2:=η mB;clear TU J0 mB;go_wp2_with fail;go_loopg [] (aR.lR L.length) (λn wr=>∃j:Nat,j<=aR.lR L.length/\aR.lR L.length-j<=n/\St wr S (λk=>O k/\k≠w.heap.size) (L++[128]++List.replicate j 0)/\aV (λk=>k=S∨O k) w wr/\Row wr w.heap.size (w8 (List.replicate 32 0))/\w.heap.size+2<=wr.heap.size);exact⟨0,by omega,by omega,by rw[List.replicate_zero,List.append_nil];exact S2.o,K2.o,R2.o,oO⟩;obtain⟨j,hj,hjn,aT,hk,hR,hz⟩:=hrel;obtain⟨ra,Ad,c8⟩:=aT.anI;have hM:(L++[128]++List.replicate j (0:UInt8)).length=L.length+1+j:=by simp;omega
 rw[hM]at c8;have al0:(L.length+1+j) % 64=56↔j=aR.lR L.length:=by unfold aR.lR at hj|-;omega
 have HS:=η aT;have HK:=η hk;have HR:=η hR;clear aT hk hR;by_cases hjz:j=aR.lR L.length
 ·have he:=al0.2 hjz;go_wp2_with fail;have hAR:Row (wr.alloc (.cells (w8 (List.replicate 8 0)).toArray 177)) wr.heap.size (w8 (List.replicate 8 0)):=Row.new wr _ _;have WE:=(HS.o.weaken (O':=λk=>O k/\k≠w.heap.size/\k≠wr.heap.size) (λk hk ho=>⟨ho.1,ho.2,by omega⟩)).alloc (.cells (w8 (List.replicate 8 0)).toArray 177);have TV:=HK.o.alloc (.cells (w8 (List.replicate 8 0)).toArray 177);have hR1:=HR.o.alloc (.cells (w8 (List.replicate 8 0)).toArray 177);have hN:UInt64.ofNat L.length*iM 8=UInt64.ofNat (8*L.length):=by rw[show iM 8=UInt64.ofNat 8 from rfl,<-UInt64.ofNat_mul,Nat.mul_comm]
  rw[hN];have e8:(w8 (List.replicate 8 0)).toArray=#[.int .u8 0,.int .u8 0,.int .u8 0,.int .u8 0,.int .u8 0,.int .u8 0,.int .u8 0,.int .u8 0]:=by kernel_rfl
  rw[e8]at hAR WE TV hR1;have hA1:wr.heap.size< (wr.alloc (.cells #[.int .u8 0,.int .u8 0,.int .u8 0,.int .u8 0,.int .u8 0,.int .u8 0,.int .u8 0,.int .u8 0] 177)).heap.size:=by simp
  generalize hNe:UInt64.ofNat (8*L.length)=N;have hNN:=η hNe;clear hNe;generalize wr.alloc _=wa at hAR WE TV hR1 hA1|-;generalize hA:wr.heap.size=A at hAR WE hA1|-;have q1:=η hAR;have q2:=η WE;have q3:=η TV;have q4:=η hR1;have q5:=η hA;have Y3:w.heap.size+2<=A:=by omega
  clear hAR WE TV hR1 hA c8;obtain⟨wq,rfl⟩:∃wq:World,wq=wr:=⟨_,rfl⟩;go_loopw [26] (λv wl=>∃i:Nat,i<=8/\v=.int .i64 i/\Row wl A (w8 ((aR.be8 N).take i++List.replicate (8-i) 0))/\aV (λk=>k=A) wa wl) (λv _=>8-(intOf v).toNat);exact⟨0,by omega,rfl,q1.o,aV.refl _ _⟩;obtain⟨i,hi,rfl,b8,hk⟩:=hrel;by_cases aM:i<8
  ·have Bz:(w8 ((aR.be8 N).take i++List.replicate (8-i) 0)).length=8:=by simp[w8,aR.be8];omega
   have cw:∃v,wr.cell? ⟨A,i,none⟩=some v:=⟨_,by rw[b8.cell];exact List.getElem?_eq_getElem (by omega)⟩;obtain⟨u,cu⟩:=cw;have fz:=b8.free i;have g1:=η b8;have g2:=η hk;clear b8 hk Bz;have p0:(0:Int)<=56-8*(i:Int):=by omega
   have p1:(i:Int)<8:=by omega
   go_wp2_with fail;refine⟨⟨i+1,by omega,by go_num,?_,g2.o.set ⟨A,i,none⟩ _ rfl⟩,by simp[intOf];omega⟩
   have:=g1.o.set i (.int .u8 (Y (shr N (56-8*i)).toUInt8));rw[show 8-i=(8-(i+1))+1 by omega,oT,<-aR.P8 N i aM,ns _ _ _ (by show i<8;exact aM)]at this;rw[aR.P8 N i aM]at this;exact this
  obtain rfl:i=8:=by omega
  rw[show((8:Nat):Int)=8 from rfl];have ek:aV (λk=>k=S∨O k) w wr:=q3.o.trans (hk.weaken λk _ h=>.inr (hB k (by have h':k=A:=h;omega)));have es:St wr S (λk=>O k/\k≠w.heap.size/\k≠A) (L++[128]++List.replicate j 0):=q2.o.keep hk (λh:S=A=>by omega) (λk h=>h.2.2);have er:Row wr w.heap.size (w8 (List.replicate 32 0)):=hk.row q4.o (λh:w.heap.size=A=>by omega);have ea:Bytes wr A 0 (aR.be8 N):=λj hj=>by have:=b8.cell j;rw[List.take_of_length_le (Nat.le_refl 8),Nat.sub_self,List.replicate_zero,List.append_nil]at this;rw[Nat.zero_add,this];exact iL _ j hj
  have ez:=hk.size;have alW:L++[128]++List.replicate j (0:UInt8)++aR.be8 N=aR.pad L:=by rw[hjz,<-hNN.o];rfl
  have hzz:aR.lR L.length<64:=by unfold aR.lR;omega
  have hpl:(L++[128]++List.replicate j (0:UInt8)).length+(aR.be8 N).length<=70368744177664:=by rw[hM];show _+8<=_;omega
  have hw0:w.heap.size<A:=by omega
  have hpa:=η alW;have EM:=es.lt;have E1:=η ek;have E2:=η er;have E3:=η es;have E4:=η ea;clear ek er es ea alW b8 hk;go_wp2_with fail;refine(lS S (λk=>O k/\k≠w.heap.size/\k≠A) _ (aR.be8 N) A 0 8 wr E3.o (λh=>PH h.1) Xy (λh=>h1B h.1) (λk hk=>⟨hB k (by omega),by omega,by omega⟩) (by omega) E4.o hpl (E1.o.row H9.o (λh=>h.elim (λh=>Xy h.symm) h1B))).mono ?_;rintro e w4⟨rfl,alD,hk4⟩;rw[hpa.o]at alD;have er4:=hk4.row E2.o (λh=>h.elim (λh=>by omega) (λh=>h.2.1 rfl));have ek4:aV (λk=>k=S∨O k) w w4:=E1.o.trans (hk4.weaken λk _ h=>h.imp id (λh=>h.1));have ez4:wr.heap.size<=w4.heap.size:=hk4.size;obtain⟨rv4,hs4,_⟩:=alD;have pJ:∀j,j<8->w4.cell? ⟨S,j,none⟩=some (.int .u32 (V (aR.nw (eJ (aR.blocks ((aR.pad L).length/64) aR.begin (aR.pad L))) j))):=λj hj=>by rw[hs4.cell,List.getElem?_append_left (by simp[iA,eJ];omega),ql _ _ (by simp[eJ];omega)]
  generalize uk:aR.blocks ((aR.pad L).length/64) aR.begin (aR.pad L)=s at hs4 pJ;have alC:Hid (aR.sum L=aR.out s):=η (by rw[<-uk];rfl);clear uk;have c0:=pJ 0 (by omega);have c1:=pJ 1 (by omega);have c2:=pJ 2 (by omega);have c3:=pJ 3 (by omega);have c4:=pJ 4 (by omega);have c5:=pJ 5 (by omega);have c6:=pJ 6 (by omega);have c7:=pJ 7 (by omega);simp only[show aR.nw (eJ s) 0=s.a from rfl,show aR.nw (eJ s) 1=s.b from rfl,show aR.nw (eJ s) 2=s.c from rfl,show aR.nw (eJ s) 3=s.d from rfl,show aR.nw (eJ s) 4=s.e from rfl,show aR.nw (eJ s) 5=s.f from rfl,show aR.nw (eJ s) 6=s.g from rfl,show aR.nw (eJ s) 7=s.h from rfl]at c0 c1 c2 c3 c4 c5 c6 c7;have aBb:=hs4.lt;have F1:=η er4;have F2:=η ek4;clear pJ hs4 er4 ek4 hk4;go_wp2_with fail;have hD:Row (w4.alloc (.cells (w8 (List.replicate 32 0)).toArray 67)) w4.heap.size (w8 (List.replicate 32 0)):=Row.new w4 _ _;have hk5:=F2.o.alloc (.cells (w8 (List.replicate 32 0)).toArray 67);have hR5:=F1.o.alloc (.cells (w8 (List.replicate 32 0)).toArray 67);have e32:(w8 (List.replicate 32 0)).toArray=#[.int .u8 0,.int .u8 0,.int .u8 0,.int .u8 0,.int .u8 0,.int .u8 0,.int .u8 0,.int .u8 0,.int .u8 0,.int .u8 0,.int .u8 0,.int .u8 0,.int .u8 0,.int .u8 0,.int .u8 0,.int .u8 0,.int .u8 0,.int .u8 0,.int .u8 0,.int .u8 0,.int .u8 0,.int .u8 0,.int .u8 0,.int .u8 0,.int .u8 0,.int .u8 0,.int .u8 0,.int .u8 0,.int .u8 0,.int .u8 0,.int .u8 0,.int .u8 0]:=by kernel_rfl
  rw[e32]at hD hk5 hR5;clear e32;generalize w4.alloc _=w5 at hD hk5 hR5|-;have hRD:w.heap.size<w4.heap.size:=by omega
  have hDB:w.heap.size<=w4.heap.size:=by omega
  generalize w4.heap.size=D at hD hRD hDB|-;clear c0 c1 c2 c3 c4 c5 c6 c7;have dL:#[Value.int .u32 (V s.a),.int .u32 (V s.b),.int .u32 (V s.c),.int .u32 (V s.d),.int .u32 (V s.e),.int .u32 (V s.f),.int .u32 (V s.g),.int .u32 (V s.h)]=(iA (eJ s)).toArray:=rfl;have amd:∀i:Nat,i<8->∀w':World,(Instr.index 163 (.agg #[Value.int .u32 (V s.a),.int .u32 (V s.b),.int .u32 (V s.c),.int .u32 (V s.d),.int .u32 (V s.e),.int .u32 (V s.f),.int .u32 (V s.g),.int .u32 (V s.h)]) (.int .i64 (i:Int))).run prog w'=.ok (.int .u32 (V (aR.nw (eJ s) i))) w':=λi hi w'=>Df _ 157 8 _ _ _ underlying163 _ (by omega) (by omega) (by rw[dL,Int.toNat_natCast,List.getElem?_toArray];exact ql _ _ hi) (λ_=>by kernel_rfl) (λ_=>by kernel_rfl) _;have av8:=η amd;have P1:=η hD;have P2:=η hk5;have P3:=η hR5;clear amd dL hD hk5 hR5;obtain⟨wp,rfl⟩:∃wp:World,wp=wr:=⟨_,rfl⟩;go_loopw [45] (λv wl=>∃i:Nat,i<=8/\v=.int .i64 i/\Row wl D (w8 ((aR.out s).take (4*i)++List.replicate (32-4*i) 0))/\aV (λk=>k=D) w5 wl) (λv _=>8-(intOf v).toNat);exact⟨0,by omega,rfl,P1.o,aV.refl _ _⟩;obtain⟨i,hi,rfl,b8,hk⟩:=hrel;by_cases aM:i<8
  ·have hx:=av8.o i aM;have g1:=η b8;have g2:=η hk;have Bz:(w8 ((aR.out s).take (4*i)++List.replicate (32-4*i) 0)).length=32:=by simp[w8,aR.iq];omega
   have cw:∀j,j<32->∃v,wr.cell? ⟨D,j,none⟩=some v:=λj hj=>⟨_,by rw[b8.cell];exact List.getElem?_eq_getElem (by omega)⟩;obtain⟨u0,d0⟩:=cw (4*i) (by omega);obtain⟨u1,d1⟩:=cw (4*i+1) (by omega);obtain⟨u2,d2⟩:=cw (4*i+2) (by omega);obtain⟨u3,d3⟩:=cw (4*i+3) (by omega);have z0:=b8.free (4*i);have z1:=b8.free (4*i+1);have z2:=b8.free (4*i+2);have z3:=b8.free (4*i+3);clear b8 hk Bz cw;have p0:(0:Int)<=4*(i:Int):=by omega
   have p1:4*(i:Int)<32:=by omega
   have p2:4*(i:Int)+1<32:=by omega
   have p3:4*(i:Int)+2<32:=by omega
   have p4:4*(i:Int)+3<32:=by omega
   go_wp2_with fail;refine⟨⟨i+1,by omega,by go_num,?_,(((g2.o.set ⟨D,4*i,none⟩ _ rfl).set ⟨D,4*i+1,none⟩ _ rfl).set ⟨D,4*i+2,none⟩ _ rfl).set ⟨D,4*i+3,none⟩ _ rfl⟩,by simp[intOf];omega⟩
   obtain⟨q0,q1,q2,q3⟩:=aR.ZX s i aM;have:=(((g1.o.set (4*i) (.int .u8 (Y (kr (aR.nw (eJ s) i) 24).toUInt8))).set (4*i+1) (.int .u8 (Y (kr (aR.nw (eJ s) i) 16).toUInt8))).set (4*i+2) (.int .u8 (Y (kr (aR.nw (eJ s) i) 8).toUInt8))).set (4*i+3) (.int .u8 (Y (aR.nw (eJ s) i).toUInt8));rw[anC _ i aM (aR.iq s) _ _ _ _ q0 q1 q2 q3]at this;exact this
  obtain rfl:i=8:=by omega
  rw[show((8:Nat):Int)=8 from rfl];have kK:Row wr D (w8 (aR.out s)):=by have:=b8;rw[List.take_of_length_le (by rw[aR.iq];decide)]at this;simpa using this
  have WS:=hk.row P3.o (λh:w.heap.size=D=>by omega);go_wp2_with (first|(with_reducible refine OW (o:=⟨some 76,_,_,_,_,_⟩) rfl _ rfl D (aR.out s) (aR.iq s) rfl kK ?_)|(with_reducible refine eU (o:=⟨none,_,_,_,_,_⟩) rfl _ _ rfl w.heap.size (List.replicate 32 0) (aR.out s) rfl (aR.iq s) rfl rfl WS ?_))
  rw[alC.o];have TU:=(P2.o.trans (hk.weaken λk hk he=>.inr (hB k (by have Py:k=D:=he;omega)))).setRow w.heap.size (w8 (aR.out s)).toArray (.inr (hB _ ν));obtain⟨T2,BO⟩:=WS.setRow (w8 (aR.out s));exact bodyPost_ret (v:=.agg (w8 (aR.out s)).toArray) (results_cell_row (fn:=Tryz.f98) rfl _ _ w.heap.size T2 _ (0,0) _ rfl BO underlying67 rfl (by rw[Tryz.Bj,List.size_toArray,aW,aR.iq])) rfl ⟨rfl,TU⟩
 have he:(L.length+1+j) % 64≠56:=λh=>hjz (al0.1 h);have hzz:aR.lR L.length<64:=by unfold aR.lR;omega
 go_wp2_with fail;refine(lS S (λk=>O k/\k≠w.heap.size) _ [0] wr.heap.size 0 1 _ (HS.o.alloc _) (λh=>PH h.1) Xy (λh=>h1B h.1) (λk hk=>⟨hB k (by simp at hk;omega),by simp at hk;omega⟩) (by omega) (Bytes.one wr 0 0 rfl _) (by rw[hM];simp;omega) ((HK.o.row H9.o (λh=>h.elim (λh=>Xy h.symm) h1B)).alloc _)).mono ?_
 rintro e w3⟨rfl,ahZ,Dw⟩;have hs3:wr.heap.size+1<=w3.heap.size:=by have:=Dw.size;simpa using this
 have BP:=Dw.row (HR.o.alloc _) (λh=>h.elim (λh=>by omega) (λh=>h.2 rfl));have hK3:aV (λk=>k=S∨O k) w w3:=(HK.o.alloc _).trans (Dw.weaken λk _ h=>h.imp id (λh=>h.1));have e3:L++[128]++List.replicate j (0:UInt8)++[0]=L++[128]++List.replicate (j+1) 0:=by rw[List.append_assoc,List.replicate_succ']
 rw[e3]at ahZ;have A3:=η ahZ;have B3:=η BP;have C3:=η hK3;clear ahZ BP hK3 Dw c8;go_wp2_with fail;go_roundg (gk-1);exact⟨j+1,by omega,by omega,A3.o,C3.o,B3.o,by omega⟩;omega
def ja{P ops rest o a w Q}(jk:o.guard=none) src dst e x(ho:o.op=.convert src dst x) g off n cap l (hl:l.length=n) (hx:a.eval x=.slice (some ⟨g,off,none⟩) n cap) (hs:P.underlying src=some (.slice e)) (he:P.underlying e=some (.int .u8)) (hd:P.underlying dst=some .string) (hb:Bytes w g off l) (h:wpList P ops Q rest (a.put o.dst (.string (str l))) w):wpList P ops Q (o::rest) a w:=by subst hl;refine lx jk ?_ h;unfold execOp;simp only[ho,hx];rw[Sem.run_bind,jC w src dst e g off cap l hs he hd hb];rfl
def Row.bytes{w b l}(h:Row w b (w8 l)):Bytes w b 0 l:=λj hj=>by rw[Nat.zero_add,h.cell,iL l j hj]
def aR.fO l:(aR.sum l).length=32:=aR.iq _
def uI{P} w src dst e l(hs:P.underlying src=some .string)(hd:P.underlying dst=some (.slice e))(he:P.underlying e=some (.int .u8)):∃cap w',(convert src dst (.string (str l))).run P w=.ok (.slice (some ⟨w.heap.size,0,none⟩) l.length cap) w'/\Below w.heap.size w w'/\Bytes w' w.heap.size 0 l/\w'.heap.size=w.heap.size+1:=by
 refine⟨_,_,(by have:=run_bytes_of_string w src dst e (str l) hs hd he;rw[iO]at this;exact this),((Below.refl _ _).drew).alloc ν _,λj hj=>?_,by simp⟩;have e1:∀(C:Array Value)(fr:Nat×Nat),(w.drew.alloc (.cells C e fr)).heap[w.heap.size]? =some (.cells C e fr):=λC fr=>by show(w.heap.push _)[w.heap.size]? =_;rw[Array.getElem?_push_size]
 simp only[World.cell?,e1,Nat.zero_add,bytesRow];rw[Array.getElem?_append_left (by simp[str];exact hj)];simp[str,nth,hj,Y]
def xK(w:World)(b o:Nat)(ps:List (List UInt8)):Prop:=∀j,j<ps.length->w.cell? ⟨b,o+j,none⟩=some (.string (str (ps.getD j [])))
def xK.below{B b o ps w w'}(hr:xK w b o ps)(h:Below B w w')(hb:b<B):xK w' b o ps:=λj hj=>by rw[<-hr j hj];exact World.cell?_of_block (w:=w) (h.block b hb)
def join(ps:List (List UInt8)):List UInt8:=ps.flatten
def RV(ps:List (List UInt8)) i(h:i<ps.length):join (ps.take (i+1))=join (ps.take i)++ps.getD i []:=by unfold join;rw[List.take_succ_eq_append_getElem h,List.flatten_append,List.getD_eq_getElem?_getD,List.getElem?_eq_getElem h];simp
def join_le ps i:(join (ps.take i)).length<=(join ps).length:=by
 have:join ps=join (ps.take i)++join (ps.drop i):=by unfold join;rw[<-List.flatten_append,List.take_append_drop]
 rw[this,List.length_append];omega
def cG(w:World):Prop:=Row w 0 (iA (eJ aR.begin))/\Row w 1 (iA aR.rounds)
theorem cG.below{B w w'}(h:cG w)(hb:Below B w w')(hB:1<B):cG w':=⟨h.1.below hb (by omega),h.2.below hb hB⟩
theorem cG.lt{w}(h:cG w):1<w.heap.size:=h.2.lt
def aV.below{O w w'}(h:aV O w w') B(hB:B<=w.heap.size)(ho:∀k,k<B->¬O k):Below B w w':=⟨h.os,h.tape,h.output,h.size,λk hk=>h.block k (by omega) (ho k hk)⟩
def sL(b o c:Nat)(ps:List (List UInt8))(w:World)(hT:cG w)(hb:b<w.heap.size)(hp:xK w b o ps)(hm:(join ps).length<=35184372088832)(hn:ps.length<=9223372036854775807):Calls prog 67 #[.slice (some ⟨b,o,none⟩) ps.length c] w λe w'=>e=.returned (.agg (w8 (aR.sum (join ps))).toArray)/\Below w.heap.size w w':=by
 have h1:=hT.lt;have pJ:∀j,j<8->(w.alloc (.cells (w8 (List.replicate 32 0)).toArray 67)).cell? ⟨0,j,none⟩=some (.int .u32 (V (aR.nw (eJ aR.begin) j))):=λj hj=>by rw[(hT.1.alloc _).cell,ql _ _ (by simp[eJ];omega)]
 have e32:(w8 (List.replicate 32 0)).toArray=#[.int .u8 0,.int .u8 0,.int .u8 0,.int .u8 0,.int .u8 0,.int .u8 0,.int .u8 0,.int .u8 0,.int .u8 0,.int .u8 0,.int .u8 0,.int .u8 0,.int .u8 0,.int .u8 0,.int .u8 0,.int .u8 0,.int .u8 0,.int .u8 0,.int .u8 0,.int .u8 0,.int .u8 0,.int .u8 0,.int .u8 0,.int .u8 0,.int .u8 0,.int .u8 0,.int .u8 0,.int .u8 0,.int .u8 0,.int .u8 0,.int .u8 0,.int .u8 0]:=by kernel_rfl
 rw[e32]at pJ;have c0:=pJ 0 (by omega);have c1:=pJ 1 (by omega);have c2:=pJ 2 (by omega);have c3:=pJ 3 (by omega);have c4:=pJ 4 (by omega);have c5:=pJ 5 (by omega);have c6:=pJ 6 (by omega);have c7:=pJ 7 (by omega);have HT:=η hT;have HP:=η hp;clear hT hp pJ e32;go_enter func67,ntmps67;go_wp2_with fail;have hW:∀(o1:Obj)(T:TypeId),Row ((w.alloc o1).alloc (.cells (iA (eJ aR.begin)++[Value.slice none 0 0,Value.int .u64 (U (UInt64.ofNat 0))]).toArray T)) (w.heap.size+1) (iA (eJ aR.begin)++[Value.slice none 0 0,Value.int .u64 (U (UInt64.ofNat 0))]):=λo1 T=>by have:=Row.new (w.alloc o1) (iA (eJ aR.begin)++[Value.slice none 0 0,Value.int .u64 (U (UInt64.ofNat 0))]) T;rwa[World.size_alloc]at this
 have hS:=hW (.cells (w8 (List.replicate 32 0)).toArray 67) 165;have hR:Row ((w.alloc (.cells (w8 (List.replicate 32 0)).toArray 67)).alloc (.cells (iA (eJ aR.begin)++[Value.slice none 0 0,Value.int .u64 (U (UInt64.ofNat 0))]).toArray 165)) w.heap.size (w8 (List.replicate 32 0)):=(Row.new w _ _).alloc _;have hB:Below w.heap.size w ((w.alloc (.cells (w8 (List.replicate 32 0)).toArray 67)).alloc (.cells (iA (eJ aR.begin)++[Value.slice none 0 0,Value.int .u64 (U (UInt64.ofNat 0))]).toArray 165)):=((Below.refl _ _).alloc ν _).alloc (by simp) _;have hZ:((w.alloc (.cells (w8 (List.replicate 32 0)).toArray 67)).alloc (.cells (iA (eJ aR.begin)++[Value.slice none 0 0,Value.int .u64 (U (UInt64.ofNat 0))]).toArray 165)).heap.size=w.heap.size+2:=by simp
 have ea:(.cells (w8 (List.replicate 32 0)).toArray 67:Obj)=.cells #[.int .u8 0,.int .u8 0,.int .u8 0,.int .u8 0,.int .u8 0,.int .u8 0,.int .u8 0,.int .u8 0,.int .u8 0,.int .u8 0,.int .u8 0,.int .u8 0,.int .u8 0,.int .u8 0,.int .u8 0,.int .u8 0,.int .u8 0,.int .u8 0,.int .u8 0,.int .u8 0,.int .u8 0,.int .u8 0,.int .u8 0,.int .u8 0,.int .u8 0,.int .u8 0,.int .u8 0,.int .u8 0,.int .u8 0,.int .u8 0,.int .u8 0,.int .u8 0] 67:=by kernel_rfl
 have eb:(.cells (iA (eJ aR.begin)++[Value.slice none 0 0,Value.int .u64 (U (UInt64.ofNat 0))]).toArray 165:Obj)=.cells #[.int .u32 (V (aR.nw (eJ aR.begin) 0)),.int .u32 (V (aR.nw (eJ aR.begin) 1)),.int .u32 (V (aR.nw (eJ aR.begin) 2)),.int .u32 (V (aR.nw (eJ aR.begin) 3)),.int .u32 (V (aR.nw (eJ aR.begin) 4)),.int .u32 (V (aR.nw (eJ aR.begin) 5)),.int .u32 (V (aR.nw (eJ aR.begin) 6)),.int .u32 (V (aR.nw (eJ aR.begin) 7)),.slice none 0 0,.int .u64 0] 165:=rfl;rw[ea,eb]at hS hR hB hZ;clear hW ea eb c0 c1 c2 c3 c4 c5 c6 c7;generalize(w.alloc _).alloc _=w1 at hS hR hB hZ|-;have aT:St w1 (w.heap.size+1) (λk=>w.heap.size<=k/\k≠w.heap.size/\k≠w.heap.size+1) []:=⟨_,hS,rW.nil w1 _⟩;have A1:=η aT;have A2:=η hR;have A3:=η hB;have hZ':w.heap.size+2<=w1.heap.size:=by omega
 clear aT hS hR hB hZ;go_loopw [11] (λv wr=>∃i:Nat,i<=ps.length/\v=.int .i64 i/\St wr (w.heap.size+1) (λk=>w.heap.size<=k/\k≠w.heap.size/\k≠w.heap.size+1) (join (ps.take i))/\Row wr w.heap.size (w8 (List.replicate 32 0))/\Below w.heap.size w wr/\w.heap.size+2<=wr.heap.size) (λv _=>ps.length-(intOf v).toNat);exact⟨0,by omega,rfl,A1.o,A2.o,A3.o,hZ'⟩;obtain⟨i,hi,rfl,aT,hR,hB,hz⟩:=hrel;by_cases aM:i<ps.length
 ·have cp:=(HP.o.below hB hb) i aM;have Y8:=RV ps i aM;obtain⟨p,hp⟩:∃p,p=ps.getD i []:=⟨_,rfl⟩;rw[<-hp]at cp Y8;clear hp;obtain⟨cap,wc,oA,uw,yo,lC⟩:=uI (P:=prog) wr 9 64 5 p underlying9 underlying64 underlying5;have B1:=η aT;have B2:=η hR;have B3:=η hB;have B4:=η uw;have B5:=η yo;have aA4:wr.heap.size<wc.heap.size:=by omega
  have hjm:=join_le ps (i+1);rw[Y8,List.length_append]at hjm;have B6:=η Y8;clear aT hR hB uw yo lC Y8;go_wp2_with fail;refine(lS (w.heap.size+1) (λk=>w.heap.size<=k/\k≠w.heap.size/\k≠w.heap.size+1) (join (ps.take i)) p wr.heap.size 0 cap wc (B1.o.keep (aV.aH B4.o) (λh=>h) (λ_ _ h=>h)) (λh=>h.2.2 rfl) (by omega) (λh=>by have:=h.1;omega) (λk hk=>⟨by omega,by omega,by omega⟩) (by omega) B5.o (by omega) ((HT.o.below B3.o (by omega)).2.below B4.o (by omega))).mono ?_;rintro e w2⟨rfl,mB,yn⟩;have yS:Below w.heap.size w w2:=(B3.o.trans (B4.o.mono (by omega))).trans (yn.below _ (by omega) (λk hk h=>h.elim (λh=>by omega) (λh=>by omega)));have J0:=yn.row (B2.o.below B4.o (by omega)) (λh=>h.elim (λh=>by omega) (λh=>h.2.1 rfl));have oO:w.heap.size+2<=w2.heap.size:=by have:=yn.size;omega
  rw[<-B6.o]at mB;go_wp2_with fail;go_roundw
  ·exact⟨i+1,by omega,by go_num,mB,J0,yS,oO⟩
  simp[intOf];omega
 obtain rfl:i=ps.length:=by omega
 rw[List.take_of_length_le ν]at aT;have B1:=η aT;have B2:=η hR;have B3:=η hB;have hz':=hz;clear aT hR hB;go_wp2_with fail;refine(Qq (w.heap.size+1) (λk=>w.heap.size<=k/\k≠w.heap.size/\k≠w.heap.size+1) (join ps) wr B1.o (λh=>h.2.2 rfl) (by omega) (λh=>by have:=h.1;omega) (λk hk=>⟨by omega,by omega,by omega⟩) hm (HT.o.below B3.o (by omega)).2).mono ?_;rintro e w2⟨rfl,yn⟩;have yS:Below w.heap.size w w2:=B3.o.trans (yn.below _ (by omega) (λk hk h=>h.elim (λh=>by omega) (λh=>by omega)));have J0:=yn.row B2.o (λh=>h.elim (λh=>by omega) (λh=>h.2.1 rfl));have C1:=η yS;clear yn yS;go_wp2_with (with_reducible refine eU (o:=⟨none,_,_,_,_,_⟩) rfl _ _ rfl w.heap.size (List.replicate 32 0) (aR.sum (join ps)) rfl (aR.fO _) rfl rfl J0 ?_);obtain⟨T2,BO⟩:=J0.setRow (w8 (aR.sum (join ps)));have iY:Below w.heap.size w (w2.setRow w.heap.size (w8 (aR.sum (join ps))).toArray):=
  C1.o.trans (((aV.refl (λk=>k=w.heap.size) w2).setRow w.heap.size _ rfl).below _ (by have:=C1.o.size;omega) (λk hk he=>by have Py:k=w.heap.size:=he;omega))
 exact bodyPost_ret (v:=.agg (w8 (aR.sum (join ps))).toArray) (results_cell_row (fn:=Tryz.f67) rfl _ _ w.heap.size T2 _ (0,0) _ rfl BO underlying67 rfl (by rw[Tryz.Bj,List.size_toArray,aW];exact congrArg some (aR.fO _).symm)) rfl ⟨rfl,iY⟩
def uc l:join [l]=l:=by simp[join]
def ub l m:join [l,m]=l++m:=by simp[join]
def JM(b c:Nat)(l:List UInt8)(w:World)(hT:cG w)(hc:w.cell? ⟨b,0,none⟩=some (.string (str l)))(hm:l.length<=35184372088832):Calls prog 67 #[.slice (some ⟨b,0,none⟩) 1 c] w λe w'=>e=.returned (.agg (w8 (aR.sum l)).toArray)/\Below w.heap.size w w':=by
 have:=sL b 0 c [l] w hT (block_lt_of_cell hc) (λj hj=>by
 have JQ:j=0:=by simp at hj;omega
 subst JQ;exact hc) (by rw[uc];exact hm) (by simp)
 rw[uc]at this;exact this
def WD(b c:Nat)(l m:List UInt8)(w:World)(hT:cG w)(hc:w.cell? ⟨b,0,none⟩=some (.string (str l)))(hd:w.cell? ⟨b,1,none⟩=some (.string (str m)))(hm:l.length+m.length<=35184372088832):Calls prog 67 #[.slice (some ⟨b,0,none⟩) 2 c] w λe w'=>e=.returned (.agg (w8 (aR.sum (l++m))).toArray)/\Below w.heap.size w w':=by
 have:=sL b 0 c [l,m] w hT (block_lt_of_cell hc) (λj hj=>by
 have JQ:j=0∨j=1:=by simp at hj;omega
 rcases JQ with rfl|rfl;exact hc;exact hd) (by rw[ub,List.length_append];exact hm) (by simp)
 rw[ub]at this;exact this
def Tryz.mm:(w8 (List.replicate 32 0)).toArray=#[Value.int .u8 0,.int .u8 0,.int .u8 0,.int .u8 0,.int .u8 0,.int .u8 0,.int .u8 0,.int .u8 0,.int .u8 0,.int .u8 0,.int .u8 0,.int .u8 0,.int .u8 0,.int .u8 0,.int .u8 0,.int .u8 0,.int .u8 0,.int .u8 0,.int .u8 0,.int .u8 0,.int .u8 0,.int .u8 0,.int .u8 0,.int .u8 0,.int .u8 0,.int .u8 0,.int .u8 0,.int .u8 0,.int .u8 0,.int .u8 0,.int .u8 0,.int .u8 0]:=by kernel_rfl
def Mk.ak(l:List UInt8):List UInt8:=aR.sum (aR.sum l)
def ui(b o c:Nat)(ps:List (List UInt8))(w:World)(hT:cG w)(hb:b<w.heap.size)(hp:xK w b o ps)(hm:(join ps).length<=35184372088832)(hn:ps.length<=9223372036854775807):Calls prog 55 #[.slice (some ⟨b,o,none⟩) ps.length c] w λe w'=>e=.returned (.agg (w8 (Mk.ak (join ps))).toArray)/\Below w.heap.size w w':=by
 have h1:=hT.lt;have HT:=η hT;have HP:=η hp;clear hT hp;go_enter func55,ntmps55;go_wp2_with fail;have hR:Row (w.alloc (.cells (w8 (List.replicate 32 0)).toArray 67)) w.heap.size (w8 (List.replicate 32 0)):=Row.new w _ _;have hB:Below w.heap.size w (w.alloc (.cells (w8 (List.replicate 32 0)).toArray 67)):=(Below.refl _ _).alloc ν _;have hZ:(w.alloc (.cells (w8 (List.replicate 32 0)).toArray 67)).heap.size=w.heap.size+1:=by simp
 rw[Tryz.mm]at hR hB hZ;generalize w.alloc _=w1 at hR hB hZ|-;have B1:=η hR;have B2:=η hB;have hZ':w.heap.size+1<=w1.heap.size:=by omega
 clear hR hB hZ;refine(sL b o c ps w1 (HT.o.below B2.o (by omega)) (by omega) (HP.o.below B2.o (by omega)) hm hn).mono ?_;rintro e w2⟨rfl,yS⟩;have gK:=yS.size;have BP:Row (w2.alloc (.cells (w8 (List.replicate 32 0)).toArray 67)) w2.heap.size (w8 (List.replicate 32 0)):=Row.new w2 _ _;have yR:Below w2.heap.size w2 ((w2.alloc (.cells (w8 (List.replicate 32 0)).toArray 67)).setRow w2.heap.size (w8 (aR.sum (join ps))).toArray):=below_setRow ((Below.refl _ _).alloc ν _) ν _;have lL:((w2.alloc (.cells (w8 (List.replicate 32 0)).toArray 67)).setRow w2.heap.size (w8 (aR.sum (join ps))).toArray).heap.size=w2.heap.size+1:=by simp
 have CY:=BP.setRow (w8 (aR.sum (join ps)));rw[Tryz.mm]at BP yR lL CY;go_wp2_with (first|(with_reducible refine eU (o:=⟨none,_,_,_,_,_⟩) rfl _ _ rfl w2.heap.size (List.replicate 32 0) (aR.sum (join ps)) rfl (aR.fO _) rfl rfl BP ?_)|(with_reducible refine ja (o:=⟨some 7,_,_,_,_,_⟩) rfl _ _ _ _ rfl w2.heap.size 0 32 32 (aR.sum (join ps)) (aR.fO _) rfl underlying64 underlying5 underlying9 CY.bytes ?_));clear BP CY;generalize World.setRow _ _ _=w3 at yR lL|-;have PB:=Row.new w3 [.string (str (aR.sum (join ps)))] 9;rw[lL]at PB;have hB4:Below w.heap.size w w3:=(B2.o.trans (yS.mono (by omega))).trans (yR.mono (by omega));refine(JM (w2.heap.size+1) 1 (aR.sum (join ps)) _ (HT.o.below (hB4.alloc (by omega) _) (by omega)) (PB.cell 0) (by rw[aR.fO];decide)).mono ?_;rintro e w5⟨rfl,hB5⟩;have Pf:=hB5.size;rw[World.size_alloc]at Pf;have hBB:Below w.heap.size w w5:=(hB4.alloc (by omega) _).trans (hB5.mono (by rw[World.size_alloc];omega));have hRR:Row w5 w.heap.size (w8 (List.replicate 32 0)):=((((B1.o.below yS (by omega)).below yR (by omega)).alloc _).below hB5 (by rw[World.size_alloc];omega));clear PB hB4 hB5 yR yS;have C1:=η hBB;clear hBB;go_wp2_with (with_reducible refine eU (o:=⟨none,_,_,_,_,_⟩) rfl _ _ rfl w.heap.size (List.replicate 32 0) (aR.sum (aR.sum (join ps))) rfl (aR.fO _) rfl rfl hRR ?_);obtain⟨T2,BO⟩:=hRR.setRow (w8 (aR.sum (aR.sum (join ps))));have iY:Below w.heap.size w (w5.setRow w.heap.size (w8 (aR.sum (aR.sum (join ps)))).toArray):=below_setRow C1.o ν _;exact bodyPost_ret (v:=.agg (w8 (aR.sum (aR.sum (join ps)))).toArray) (results_cell_row (fn:=Tryz.f55) rfl _ _ w.heap.size T2 _ (0,0) _ rfl BO underlying67 rfl (by rw[Tryz.Bj,List.size_toArray,aW];exact congrArg some (aR.fO _).symm)) rfl ⟨rfl,iY⟩
def Bu(b c:Nat)(l:List UInt8)(w:World)(hT:cG w)(hc:w.cell? ⟨b,0,none⟩=some (.string (str l)))(hm:l.length<=35184372088832):Calls prog 55 #[.slice (some ⟨b,0,none⟩) 1 c] w λe w'=>e=.returned (.agg (w8 (Mk.ak l)).toArray)/\Below w.heap.size w w':=by
 have:=ui b 0 c [l] w hT (block_lt_of_cell hc) (λj hj=>by
 have JQ:j=0:=by simp at hj;omega
 subst JQ;exact hc) (by rw[uc];exact hm) (by simp)
 rw[uc]at this;exact this
def Bt(b c:Nat)(l m:List UInt8)(w:World)(hT:cG w)(hc:w.cell? ⟨b,0,none⟩=some (.string (str l)))(hd:w.cell? ⟨b,1,none⟩=some (.string (str m)))(hm:l.length+m.length<=35184372088832):Calls prog 55 #[.slice (some ⟨b,0,none⟩) 2 c] w λe w'=>e=.returned (.agg (w8 (Mk.ak (l++m))).toArray)/\Below w.heap.size w w':=by
 have:=ui b 0 c [l,m] w hT (block_lt_of_cell hc) (λj hj=>by
 have JQ:j=0∨j=1:=by simp at hj;omega
 rcases JQ with rfl|rfl;exact hc;exact hd) (by rw[ub,List.length_append];exact hm) (by simp)
 rw[ub]at this;exact this
def Ke w m T:Below w.heap.size w ((w.alloc (.cells (w8 (List.replicate 32 0)).toArray T)).setRow w.heap.size (w8 m).toArray)/\((w.alloc (.cells (w8 (List.replicate 32 0)).toArray T)).setRow w.heap.size (w8 m).toArray).heap.size=w.heap.size+1/\Row ((w.alloc (.cells (w8 (List.replicate 32 0)).toArray T)).setRow w.heap.size (w8 m).toArray) w.heap.size (w8 m)/\Row (w.alloc (.cells (w8 (List.replicate 32 0)).toArray T)) w.heap.size (w8 (List.replicate 32 0)):=⟨below_setRow ((Below.refl _ _).alloc ν _) ν _,by simp,(Row.new w _ _).setRow _,Row.new w _ _⟩
end
section
open ba
open Go.ChangeShapes Go.WideShapes Go.ChangeAt Go.RowKit
open Go.ChangeMaps (open_string shut_string)
def Tryz.ownKnob:Go.ownKnob prog.godebug=none:=by kernel_rfl
def aiT:prog.globalNamed "compact/hash.begin" =some 0:=by kernel_rfl
def abf:prog.globalNamed "compact/hash.rounds" =some 1:=by kernel_rfl
def Nh:(prog.globals[0]?).map (·.type)=some 163:=by kernel_rfl
def Kb:(prog.globals[1]?).map (·.type)=some 181:=by kernel_rfl
def abv:prog.cellsOf 163=8:=by kernel_rfl
def Yf:prog.cellsOf 181=64:=by kernel_rfl
def Kw:prog.cellsOf 157=1:=by kernel_rfl
def wP{P W name k zs rest g t e n}(hz:zs≠ []) (hg:P.globalNamed name=some g) (hty:(P.globals[g]?).map (·.type)=some t) (ht:P.underlying t=some (.array n e)) (he:P.underlying e=some (.int k)) (hce:P.cellsOf e=1) (hct:P.cellsOf t=n) (h:laidMet P ((name,Lib.tabData k zs)::rest) W):Row W g (zs.map λz=>Value.int k z):=by
 have ht':=Lib.tabIs_of_head hg hty ht he hce hct h;obtain⟨ps,⟨g',t',cs,fuel,p,q,Hz,_,alu,_,_,rfl⟩,_,gQ⟩:=h;obtain rfl:=Option.some.inj (hg.symm.trans Hz);unfold Lib.TabIs at ht';rw[alu]at ht';obtain rfl:=Option.some.inj ht';have hm:MemPlace.cell g 0∈MemPlace.row ⟨g,0,none⟩ ((zs.map λz=>Value.int k z).toArray).size++p++q:=by refine List.mem_append_left _ (List.mem_append_left _ ?_);cases zs with|nil=>exact absurd rfl hz|cons z zs=>simp[MemPlace.row]
 obtain⟨⟨c,T,hc⟩,_⟩:=gQ g 0 hm;refine⟨T,?_⟩;have hv:=alu;unfold World.var? at hv;rw[hg]at hv;simp only[Option.bind_some,hc,Option.some.injEq]at hv;rw[hc,hv]
def RO{P W x rest}(h:laidMet P (x::rest) W):laidMet P rest W:=by obtain⟨name,d⟩:=x;obtain⟨ps,⟨g,t,cs,fuel,p,q,_,_,_,_,hr,rfl⟩,hn,gQ⟩:=h;exact⟨q,hr,(List.nodup_append.1 hn).2.1,λb off hb=>gQ b off (List.mem_append_right _ hb)⟩
def wF:List Int:=[1779033703,3144134277,1013904242,2773480762,1359893119,2600822924,528734635,1541459225]
def nJ:List Int:=aR.rounds.map V
def NG:(wF.map λz=>Value.int .u32 z)=iA (eJ aR.begin):=by kernel_rfl
def IG:(nJ.map λz=>Value.int .u32 z)=iA aR.rounds:=by simp[nJ,iA]
def NH:(Rows.laid_compact_hash_begin:DataW Unit)=Lib.tabData .u32 wF:=by kernel_rfl
def IH:(Rows.laid_compact_hash_rounds:DataW Unit)=Lib.tabData .u32 nJ:=by kernel_rfl
def Zy{W}(h:laidMet prog [("compact/hash.begin",Rows.laid_compact_hash_begin),("compact/hash.rounds",Rows.laid_compact_hash_rounds)] W):cG W:=by rw[NH,IH]at h;refine⟨?_,?_⟩;rw[<-NG];exact wP (by decide) aiT Nh underlying163 underlying157 Kw abv h;rw[<-IG];exact wP (by decide) abf Kb underlying181 underlying157 Kw Yf (RO h)
def JE(l:List Value):Obj->Obj
 |.cells _ t frozen=>.cells l.toArray t frozen|o=>o
noncomputable def ajT(os:Os):World:={World.holding prog os ⟨#[],#[],[]⟩with heap:=((World.holding prog os ⟨#[],#[],[]⟩).heap.modify 0 (JE (wF.map λz=>Value.int .u32 z))).modify 1 (JE (nJ.map λz=>Value.int .u32 z))}
end
