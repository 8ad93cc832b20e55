import Derived.Test.YtlpcjiollnnmgabGreatDoorMZ
import Derived.Lib.Hide
import Derived.WalkSpells
import Derived.WalkLawsBesides
import Derived.Deep.DeepCutAuto
import Derived.Deep.RegionHeld3
import Derived.BigQuiet
import Derived.StillTailTactics
import Derived.Laws.CopyOwn
import Derived.Test.YtlpcjiollnnmgabGreatDoorCards
import Derived.Test.YtlpcjiollnnmgabGreatDoorTie
import Derived.ProofKit
import Derived.OpenShut
import Derived.ShutString
import Derived.Deep.DeepHandedRow
import Derived.Lib.LaidTab
set_option maxRecDepth 100000
set_option maxHeartbeats 8000000
set_option linter.all false
namespace Go.Proofs.YtlpcjiollnnmgabGreatDoor
open Go.Proofs.Tryz
section
def Y(x:UInt8):Int:=(x.toNat:Int)
def V(x:UInt32):Int:=(x.toNat:Int)
def U(x:UInt64):Int:=(x.toNat:Int)
namespace bd
def shl(x:UInt64)(n:Nat):UInt64:=UInt64.ofNat (x.toNat*2^n)
def shr(x:UInt64)(n:Nat):UInt64:=UInt64.ofNat (x.toNat/2^n)
def rotl(x:UInt64)(n:Nat):UInt64:=shl x n ||| shr x (64-n)
def tL(x:UInt32)(n:Nat):UInt32:=UInt32.ofNat (x.toNat*2^n)
def kE(x:UInt32)(n:Nat):UInt32:=UInt32.ofNat (x.toNat/2^n)
def fq(x:UInt32)(n:Nat):UInt32:=kE x n ||| tL x (32-n)
def agL x:0<=U x/\U x<18446744073709551616:=by have:=x.toNat_lt;unfold U;omega
def yU x:0<=V x/\V x<4294967296:=by have:=x.toNat_lt;unfold V;omega
def acs x:0<=Y x/\Y x<256:=by have:=x.toNat_lt;unfold Y;omega
def Zq{x y}(h:U x=U y):x=y:=by unfold U at h;exact UInt64.toNat_inj.1 (by omega)
def adX{x y}(h:V x=V y):x=y:=by unfold V at h;exact UInt32.toNat_inj.1 (by omega)
def Zn{x y}(h:Y x=Y y):x=y:=by unfold Y at h;exact UInt8.toNat_inj.1 (by omega)
@[go_sem] def au0 x y:(U x==U y)=(x==y):=by rw[Bool.eq_iff_iff];simp only[beq_iff_eq];exact⟨Zq,λh=>by rw[h]⟩
@[go_sem] def auY x y:(Y x==Y y)=(x==y):=by rw[Bool.eq_iff_iff];simp only[beq_iff_eq];exact⟨Zn,λh=>by rw[h]⟩
@[go_sem] def auZ x y:(V x==V y)=(x==y):=by rw[Bool.eq_iff_iff];simp only[beq_iff_eq];exact⟨adX,λh=>by rw[h]⟩
@[go_sem] def anj x:((x.toNat:Nat):Int)=Y x:=rfl
def lQ n:U (UInt64.ofNat n)=((n % 18446744073709551616:Nat):Int):=by unfold U;rw[UInt64.toNat_ofNat']
def fW(n:Nat):IntKind.u64.wrap (n:Int)=U (UInt64.ofNat n):=by rw[IntKind.wrap_u64,lQ];omega
@[go_sem] def aan x y:IntKind.u64.wrap (U x+U y)=U (x+y):=by rw[IntKind.wrap_u64];unfold U;rw[UInt64.toNat_add];omega
def aam x y:IntKind.u64.wrap (U x*U y)=U (x*y):=by rw[IntKind.wrap_u64];unfold U;rw[UInt64.toNat_mul];omega
@[go_sem] def aaj x y:IntKind.u64.wrap (U x-U y)=U (x-y):=by rw[IntKind.wrap_u64];unfold U;rw[UInt64.toNat_sub];have:=x.toNat_lt;have:=y.toNat_lt;omega
@[go_sem] def Vk x y:bits .xor .u64 (U x) (U y)=U (x ^^^ y):=by unfold U;rw[u64_xor_nat _ _ x.toNat_lt y.toNat_lt,UInt64.toNat_xor]
@[go_sem] def aal x y:bits .or .u64 (U x) (U y)=U (x ||| y):=by unfold U;rw[u64_or_nat _ _ x.toNat_lt y.toNat_lt,UInt64.toNat_or]
@[go_sem] def Vl x y:bits .and .u64 (U x) (U y)=U (x&&&y):=by unfold U;rw[u64_and_nat _ _ x.toNat_lt y.toNat_lt,UInt64.toNat_and]
@[go_sem] def aak x n:IntKind.u64.wrap (U x*2^n)=U (shl x n):=by rw[IntKind.wrap_u64];unfold shl;rw[lQ,Int.natCast_emod,Int.natCast_mul,Int.natCast_pow];rfl
def Pe x n:(U x).fdiv (2^n)=U (shr x n):=by unfold shr;rw[lQ];unfold U;have h:x.toNat/2^n<18446744073709551616:=Nat.lt_of_le_of_lt (Nat.div_le_self _ _) x.toNat_lt;rw[Nat.mod_eq_of_lt h,Int.fdiv_eq_ediv_of_nonneg _ (Int.pow_nonneg (by decide)),Int.natCast_ediv,Int.natCast_pow];rfl
@[go_sem] def aib x n:U x/2^n=U (shr x n):=by rw[<-Pe,Int.fdiv_eq_ediv_of_nonneg _ (Int.pow_nonneg (by decide))]
def Ps x n(h:64<=n):shl x n=0:=by
 unfold shl;have:x.toNat*2^n=18446744073709551616*(x.toNat*2^ (n-64)):=by
  have e:n=64+(n-64):=by omega
  rw[e,Nat.pow_add];simp only[Nat.add_sub_cancel_left];show x.toNat*(18446744073709551616*2^ (n-64))=_;rw[Nat.mul_left_comm]
 apply UInt64.toNat_inj.1;rw[UInt64.toNat_ofNat',this];exact Nat.mul_mod_right _ _
def Pr x n(h:64<=n):shr x n=0:=by
 unfold shr;have:x.toNat/2^n=0:=by apply Nat.div_eq_of_lt;exact Nat.lt_of_lt_of_le x.toNat_lt (Nat.pow_le_pow_right (by decide) h)
 rw[this];rfl
def iY(y:Int):UInt64:=UInt64.ofNat (y % 18446744073709551616).toNat
def km y:U (iY y)=y % 18446744073709551616:=by unfold iY;rw[lQ];omega
@[go_sem] def asJ x:iY (U x)=x:=by apply Zq;rw[km];have:=agL x;omega
@[go_sem] def amf (n:Nat):iY (n:Int)=UInt64.ofNat n:=by apply Zq;rw[km,lQ];omega
def SL y:BitVec.ofInt 64 (U (iY y))=BitVec.ofInt 64 y:=by apply BitVec.eq_of_toNat_eq;rw[BitVec.toNat_ofInt,BitVec.toNat_ofInt,km];have e:((2^64:Nat):Int)=18446744073709551616:=rfl;rw[e,Int.emod_emod]
def CQ op x y:bits op .u64 x (U (iY y))=bits op .u64 x y:=by have e':BitVec.ofInt IntKind.u64.bits (U (iY y))=BitVec.ofInt IntKind.u64.bits y:=SL y;unfold bits;rw[e']
section
variable(t:TypeId)(x:UInt64)(y:Int)
@[go_sem high] def aeM:binOp .xor t (.int .u64 (U x)) (.int .u64 y)=pure (.int .u64 (U (x ^^^ iY y))):=by rw[<-Vk,CQ];rfl
@[go_sem high] def aho:binOp .or t (.int .u64 (U x)) (.int .u64 y)=pure (.int .u64 (U (x ||| iY y))):=by rw[<-aal,CQ];rfl
@[go_sem high] def aeR:binOp .and t (.int .u64 (U x)) (.int .u64 y)=pure (.int .u64 (U (x&&&iY y))):=by rw[<-Vl,CQ];rfl
@[go_sem high] def aeS:binOp .add t (.int .u64 (U x)) (.int .u64 y)=pure (.int .u64 (U (x+iY y))):=by
 have e:IntKind.u64.wrap (U x+y)=U (x+iY y):=by rw[<-aan,IntKind.wrap_u64,IntKind.wrap_u64,km];omega
 simp only[binOp,Op.intArith,e];rfl
@[go_sem high] def aeN:binOp .sub t (.int .u64 y) (.int .u64 (U x))=pure (.int .u64 (U (iY y-x))):=by
 have e:IntKind.u64.wrap (y-U x)=U (iY y-x):=by rw[<-aaj,IntKind.wrap_u64,IntKind.wrap_u64,km];omega
 simp only[binOp,Op.intArith,e];rfl
@[go_sem high] def aeQ:binOp .mul t (.int .u64 (U x)) (.int .u64 y)=pure (.int .u64 (U (x*iY y))):=by
 have e:IntKind.u64.wrap (U x*y)=U (x*iY y):=by rw[<-aam,IntKind.wrap_u64,IntKind.wrap_u64,km,Int.mul_emod,Int.mul_emod (U x) (y % _),Int.emod_emod]
 simp only[binOp,Op.intArith,e];rfl
@[go_sem high] def aeP yk (h:0<=y):binOp .shl t (.int .u64 (U x)) (.int yk y)=pure (.int .u64 (U (shl x y.toNat))):=by simp only[binOp,Op.shift,if_neg (show¬y<0 by omega),aak];by_cases c:y.toNat<=64;rw[show min y.toNat IntKind.u64.bits=y.toNat from Nat.min_eq_left c];rw[show min y.toNat IntKind.u64.bits=64 from Nat.min_eq_right (Nat.le_of_lt (Nat.lt_of_not_le c)),Ps x 64 (by omega),Ps x y.toNat (by omega)]
@[go_sem high] def aeO yk (h:0<=y):binOp .shr t (.int .u64 (U x)) (.int yk y)=pure (.int .u64 (U (shr x y.toNat))):=by simp only[binOp,Op.shift,if_neg (show¬y<0 by omega),Pe];by_cases c:y.toNat<=64;rw[show min y.toNat IntKind.u64.bits=y.toNat from Nat.min_eq_left c];rw[show min y.toNat IntKind.u64.bits=64 from Nat.min_eq_right (Nat.le_of_lt (Nat.lt_of_not_le c)),Pr x 64 (by omega),Pr x y.toNat (by omega)]
end
@[go_sem] def alC x:0<=U x:=(agL x).1
@[go_sem] def alB x:0<=V x:=(yU x).1
@[go_sem] def alA x:0<=Y x:=(acs x).1
@[go_sem] def acP b:IntKind.u64.wrap (Y b)=U b.toUInt64:=by unfold Y;rw[fW];congr 1;apply UInt64.toNat_inj.1;simp
@[go_sem] def aeq (n:Nat):IntKind.u64.wrap (n:Int)=U (UInt64.ofNat n):=fW n
@[go_sem low] def aer y:IntKind.u64.wrap y=U (iY y):=by rw[IntKind.wrap_u64,km]
@[go_sem] def aep x:IntKind.u64.wrap (U x)=U x:=by have:=agL x;rw[IntKind.wrap_u64];omega
@[go_sem] def ahj (n:Nat):IntKind.u8.wrap (n:Int)=Y (UInt8.ofNat n):=by rw[IntKind.wrap_u8'];unfold Y;rw[UInt8.toNat_ofNat'];omega
@[go_sem] def ahh x:IntKind.u8.wrap (U x)=Y x.toUInt8:=by rw[IntKind.wrap_u8'];unfold Y U;rw[UInt64.toNat_toUInt8];omega
@[go_sem] def aia x:IntKind.u8.wrap (Y x)=Y x:=by have:=acs x;rw[IntKind.wrap_u8'];omega
@[go_sem] def ahs x:IntKind.i64.wrap (Y x)=Y x:=by have:=acs x;exact IntWalk.i64_in _ (by omega)
def Zp n:V (UInt32.ofNat n)=((n % 4294967296:Nat):Int):=by unfold V;rw[UInt32.toNat_ofNat']
def Rj(y:Int):UInt32:=UInt32.ofNat (y % 4294967296).toNat
def Zo y:V (Rj y)=y % 4294967296:=by unfold Rj;rw[Zp];omega
@[go_sem] def asI x:Rj (V x)=x:=by apply adX;rw[Zo];have:=yU x;omega
def Kg y:BitVec.ofInt 32 (V (Rj y))=BitVec.ofInt 32 y:=by apply BitVec.eq_of_toNat_eq;rw[BitVec.toNat_ofInt,BitVec.toNat_ofInt,Zo];have e:((2^32:Nat):Int)=4294967296:=rfl;rw[e,Int.emod_emod]
def CO op x y:bits op .u32 x (V (Rj y))=bits op .u32 x y:=by have e':BitVec.ofInt IntKind.u32.bits (V (Rj y))=BitVec.ofInt IntKind.u32.bits y:=Kg y;unfold bits;rw[e']
@[go_sem] def Ja x y:bits .xor .u32 (V x) (V y)=V (x ^^^ y):=by unfold V;rw[u32_xor_nat _ _ x.toNat_lt y.toNat_lt,UInt32.toNat_xor]
@[go_sem] def aao x y:bits .or .u32 (V x) (V y)=V (x ||| y):=by unfold V;rw[u32_or_nat _ _ x.toNat_lt y.toNat_lt,UInt32.toNat_or]
@[go_sem] def Vm x y:bits .and .u32 (V x) (V y)=V (x&&&y):=by unfold V;rw[u32_and_nat _ _ x.toNat_lt y.toNat_lt,UInt32.toNat_and]
def Pg x n:IntKind.u32.wrap (V x*2^n)=V (tL x n):=by rw[IntKind.wrap_u32'];unfold tL;rw[Zp,Int.natCast_emod,Int.natCast_mul,Int.natCast_pow];rfl
def Pf x n:(V x).fdiv (2^n)=V (kE x n):=by unfold kE;rw[Zp];unfold V;have h:x.toNat/2^n<4294967296:=Nat.lt_of_le_of_lt (Nat.div_le_self _ _) x.toNat_lt;rw[Nat.mod_eq_of_lt h,Int.fdiv_eq_ediv_of_nonneg _ (Int.pow_nonneg (by decide)),Int.natCast_ediv,Int.natCast_pow];rfl
def SH(x:UInt32)(n:Nat):Int:=V x*2^n
def SM:List UInt32->Int
 |[]=>0|x::l=>V x+SM l
def fQ:List UInt32->UInt32
 |[]=>0|x::l=>x+fQ l
theorem QV:∀l,0<=SM l/\SM l<=4294967296*(l.length:Int)
 |[]=>by simp[SM]|x::l=>by have:=QV l;have:=yU x;simp only[SM,List.length_cons];omega
def Uz l m:SM (l++m)=SM l+SM m:=by induction l with|nil=>simp[SM]|cons x l ih=>simp only[List.cons_append,SM,ih];omega
theorem Zu:∀l,SM l % 4294967296=V (fQ l)
 |[]=>rfl|x::l=>by
  have ih:=Zu l;have h:V (x+fQ l)=(V x+V (fQ l)) % 4294967296:=by unfold V;rw[UInt32.toNat_add];omega
  simp only[SM,fQ];rw[h,<-ih];omega
section
variable(t:TypeId)(x:UInt32)(y:Int)
@[go_sem high] def aeT:binOp .xor t (.int .u32 (V x)) (.int .u32 y)=pure (.int .u32 (V (x ^^^ Rj y))):=by rw[<-Ja,CO];rfl
@[go_sem high] def ahp:binOp .or t (.int .u32 (V x)) (.int .u32 y)=pure (.int .u32 (V (x ||| Rj y))):=by rw[<-aao,CO];rfl
@[go_sem high] def aeW:binOp .and t (.int .u32 (V x)) (.int .u32 y)=pure (.int .u32 (V (x&&&Rj y))):=by rw[<-Vm,CO];rfl
@[go_sem high] def aeX:binOp .add t (.int .u32 (V x)) (.int .u32 y)=pure (.int .u32 (V (x+Rj y))):=by
 have e:IntKind.u32.wrap (V x+y)=V (x+Rj y):=by
  have h:V (x+Rj y)=(V x+V (Rj y)) % 4294967296:=by unfold V;rw[UInt32.toNat_add];omega
  rw[h,IntKind.wrap_u32',Zo];omega
 simp only[binOp,Op.intArith,e];rfl
@[go_sem high] def aeV yk (h:0<=y) (h':y<=32):binOp .shl t (.int .u32 (V x)) (.int yk y)=pure (.int .u32 (V (tL x y.toNat))):=by simp only[binOp,Op.shift,if_neg (show¬y<0 by omega),Pg];rw[show min y.toNat IntKind.u32.bits=y.toNat from Nat.min_eq_left (show y.toNat<=32 by omega)]
@[go_sem high] def aeU yk (h:0<=y) (h':y<=32):binOp .shr t (.int .u32 (V x)) (.int yk y)=pure (.int .u32 (V (kE x y.toNat))):=by simp only[binOp,Op.shift,if_neg (show¬y<0 by omega),Pf];rw[show min y.toNat IntKind.u32.bits=y.toNat from Nat.min_eq_left (show y.toNat<=32 by omega)]
def k7 x:(BitVec.ofInt 64 (V x)).toNat=x.toNat:=by unfold V;rw[BitVec.ofInt_natCast,BitVec.toNat_ofNat];exact Nat.mod_eq_of_lt (by have:=x.toNat_lt;omega)
def zH x:IntKind.i64.wrap (x.toNat:Int)=V x:=by have:=x.toNat_lt;exact IntWalk.i64_in _ (by omega)
@[go_sem] def aiH x y:bits .xor .i64 (V x) (V y)=V (x ^^^ y):=by show IntKind.i64.wrap ((BitVec.ofInt 64 (V x) ^^^ BitVec.ofInt 64 (V y)).toNat:Int)=_;rw[BitVec.toNat_xor,k7,k7,<-UInt32.toNat_xor,zH]
@[go_sem] def amq x y:bits .or .i64 (V x) (V y)=V (x ||| y):=by show IntKind.i64.wrap ((BitVec.ofInt 64 (V x) ||| BitVec.ofInt 64 (V y)).toNat:Int)=_;rw[BitVec.toNat_or,k7,k7,<-UInt32.toNat_or,zH]
@[go_sem] def Xd x y:bits .and .i64 (V x) (V y)=V (x&&&y):=by show IntKind.i64.wrap ((BitVec.ofInt 64 (V x)&&&BitVec.ofInt 64 (V y)).toNat:Int)=_;rw[BitVec.toNat_and,k7,k7,<-UInt32.toNat_and,zH]
@[go_sem] def aiI x:bits .and .i64 (V x) 4294967295=V x:=by have h:=Xd x 4294967295;have e:V 4294967295=4294967295:=rfl;rw[e]at h;rw[h];congr 1;apply UInt32.toNat_inj.1;rw[UInt32.toNat_and];have:=x.toNat_lt;exact Nat.and_two_pow_sub_one_of_lt_two_pow (n:=32) this
@[go_sem high] def ae0 yk (h:0<=y) (h':y<=32):binOp .shr t (.int .i64 (V x)) (.int yk y)=pure (.int .i64 (V (kE x y.toNat))):=by simp only[binOp,Op.shift,if_neg (show¬y<0 by omega),Pf];rw[show min y.toNat IntKind.i64.bits=y.toNat from Nat.min_eq_left (show y.toNat<=64 by omega)]
@[go_sem high] def ae1 yk (h:0<=y) (h':y<=30):binOp .shl t (.int .i64 (V x)) (.int yk y)=pure (.int .i64 (SH x y.toNat)):=by
 simp only[binOp,Op.shift,if_neg (show¬y<0 by omega)];rw[show min y.toNat IntKind.i64.bits=y.toNat from Nat.min_eq_left (show y.toNat<=64 by omega)];have hb:V x*2^y.toNat<=4294967296*1073741824:=by
  have h1:=yU x;have h2:(2:Int)^y.toNat<=1073741824:=by have:(2:Nat)^y.toNat<=2^30:=Nat.pow_le_pow_right (by decide) (by omega);have h3:((2^y.toNat:Nat):Int)<=((2^30:Nat):Int):=Int.ofNat_le.2 this;rw[Int.natCast_pow]at h3;exact h3
  exact Int.mul_le_mul (by omega) h2 (Int.pow_nonneg (by decide)) (by decide)
 have h0:0<=V x*2^y.toNat:=Int.mul_nonneg (yU x).1 (Int.pow_nonneg (by decide));rw[IntWalk.i64_in _ (by omega)];rfl
@[go_sem high] def aaV n:binOp .rem t (.int .i64 (SH x n)) (.int .i64 4294967296)=pure (.int .i64 (V (tL x n))):=by
 have h0:0<=SH x n:=Int.mul_nonneg (yU x).1 (Int.pow_nonneg (by decide));have e:(SH x n).tmod 4294967296=V (tL x n):=by rw[Int.tmod_eq_emod_of_nonneg h0,<-Pg,IntKind.wrap_u32'];rfl
 simp only[binOp,Op.intDiv,e];rfl
@[go_sem high] def ac4 x y:binOp .add t (.int .i64 (V x)) (.int .i64 (V y))=pure (.int .i64 (SM [x,y])):=by
 have e:IntKind.i64.wrap (V x+V y)=SM [x,y]:=by have:=yU x;have:=yU y;simp only[SM];rw[IntWalk.i64_in _ (by omega)];omega
 simp only[binOp,Op.intArith,e];rfl
@[go_sem high] def ac3 l y (h:l.length<=1000):binOp .add t (.int .i64 (SM l)) (.int .i64 (V y))=pure (.int .i64 (SM (l++[y]))):=by
 have e:IntKind.i64.wrap (SM l+V y)=SM (l++[y]):=by have:=QV l;have:=yU y;rw[Uz];simp only[SM];rw[IntWalk.i64_in _ (by omega)];omega
 simp only[binOp,Op.intArith,e];rfl
@[go_sem high] def ac2 l y (h:l.length<=1000):binOp .add t (.int .i64 (V y)) (.int .i64 (SM l))=pure (.int .i64 (SM (y::l))):=by
 have e:IntKind.i64.wrap (V y+SM l)=SM (y::l):=by have:=QV l;have:=yU y;simp only[SM];rw[IntWalk.i64_in _ (by omega)]
 simp only[binOp,Op.intArith,e];rfl
@[go_sem high] def aaU l:binOp .rem t (.int .i64 (SM l)) (.int .i64 4294967296)=pure (.int .i64 (V (fQ l))):=by
 have e:(SM l).tmod 4294967296=V (fQ l):=by rw[Int.tmod_eq_emod_of_nonneg (QV l).1,Zu]
 simp only[binOp,Op.intDiv,e];rfl
@[go_sem high] def ae2:binOp .sub t (.int .i64 4294967295) (.int .i64 (V x))=pure (.int .i64 (V (~~~x))):=by
 have e:IntKind.i64.wrap (4294967295-V x)=V (~~~x):=by have:=yU x;rw[IntWalk.i64_in _ (by omega)];unfold V;rw[UInt32.toNat_not];have:=x.toNat_lt;have hs:UInt32.size=4294967296:=rfl;omega
 simp only[binOp,Op.intArith,e];rfl
def Wn x:(4294967295:UInt32) ^^^ x= ~~~x:=by rw[show(4294967295:UInt32)= -1 from rfl,UInt32.neg_one_xor]
@[go_sem high] def amd:Op.unary .xor (.int .u32 (V x))=pure (.int .u32 (V (~~~x))):=by rw[<-Wn,<-Ja];rfl
end
@[go_sem] def acQ b:IntKind.u32.wrap (Y b)=V b.toUInt32:=by have:=b.toNat_lt;rw[IntKind.wrap_u32'];unfold Y V;rw[UInt8.toNat_toUInt32];omega
@[go_sem] def aes x:IntKind.u32.wrap (V x)=V x:=by have:=yU x;rw[IntKind.wrap_u32'];omega
@[go_sem] def ahi x:IntKind.u8.wrap (V x)=Y x.toUInt8:=by rw[IntKind.wrap_u8'];unfold Y V;rw[UInt32.toNat_toUInt8];omega
def xp{P id Q a w}{l:List Oper} n(hm:P.follows .mixedOrders=true)(hB:Region.lexTailB .any l.toArray n=true) (h:wpStill P l.toArray w.drew (λa'=>wpList P l.toArray Q (l.drop n) a' w.drew) (l.take n) a):(Code.region id l.toArray true).wp P Q a w:=wp_region_still_tail n hm hB h
def jb(a:Act) n v(h:n<a.tmps.size):(a.put (some n) v).eval (.tmp n)=v:=by simp[Act.put,Act.eval,h]
def jE(a:Act) n m v(h:n≠m):(a.put (some n) v).eval (.tmp m)=a.eval (.tmp m):=by simp[Act.put,Act.eval,h]
def lu(a:Act) n v:(a.put (some n) v).tmps.size=a.tmps.size:=by simp[Act.put]
section
variable{P:Program}{ops:Array Oper}{w:World}{Q:Act->Prop}{a:Act}{o:Oper}{rest:List Oper}
def kW(hg:o.guard=none){v}(hr:(execOp a.eval o).run P w=.ok (.value v) w)(h:wpStill P ops w Q rest (a.put o.dst v)):wpStill P ops w Q (o::rest) a:=by unfold wpStill;rw[if_pos (by simp[Region.wanted,hg])];unfold Oper.still;rw[hr];exact⟨rfl,h⟩
def Jk(hg:o.guard=none){v f args}(hr:(execOp a.eval o).run P w=.ok (.enter f args) w) (hc:Calls P f args w λe u9=>e=.returned v/\u9=w) (h:wpStill P ops w Q rest (a.put o.dst v)):wpStill P ops w Q (o::rest) a:=by unfold wpStill;rw[if_pos (by simp[Region.wanted,hg])];unfold Oper.still;rw[hr];exact⟨rfl,v,hc,h⟩
def lG{ops Q w'}(hg:o.guard=none){v}(hr:(execOp a.eval o).run P w=.ok (.value v) w')(h:wpList P ops Q rest (a.put o.dst v) w'):wpList P ops Q (o::rest) a w:=by refine wpList_plain hg λK hK=>?_;unfold Oper.wp;rw[hr];exact hK _ _ h
def Fh{ops Q w'}(hg:o.guard=none)(hr:(execOp a.eval o).run P w=.ok .skip w')(h:wpList P ops Q rest (a.put o.dst undef) w'):wpList P ops Q (o::rest) a w:=by refine wpList_plain hg λK hK=>?_;unfold Oper.wp;rw[hr];exact hK _ _ h
end
def str(l:List UInt8):ByteArray:=⟨l.toArray⟩
def nth(l:List UInt8)(i:Nat):UInt8:=l.getD i 0
@[go_sem] def ahm l:ByteArray.mk l.toArray=str l:=rfl
@[go_sem] def zY l:(str l).toList=l:=ByteArray.toList_mk l
@[go_sem] def ie l:(str l).size=l.length:=by simp[str,ByteArray.size]
def aat l i(h:i< (str l).size):(str l)[i]=nth l i:=by
 have h':i<l.length:=by rw[ie]at h;exact h
 unfold nth;rw[List.getD_eq_getElem?_getD,List.getElem?_eq_getElem h'];rfl
def Mj a b:str a++str b=str (a++b):=ByteArray.mk_append_mk a b
def pA l a b:(str l).extract a b=str ((l.drop a).take (b-a)):=ByteArray.extract_mk l a b
section
variable{P:Program}(w:World)
@[go_sem high] def aaT t l k i (h:P.underlying t=some .string):(Instr.index t (.string (str l)) (.int k i)).run P w =if 0<=i/\i< (l.length:Int)then .ok (.int .u8 (Y (nth l i.toNat))) w else(boundsPanic k i l.length .index).run P w:=by rw[run_index_string w t _ k i h];simp only[ie];split;rename_i hi;rw[aat];rfl;rfl
@[go_sem high] def ac1 t l k i (h:P.underlying t=some .string):(Instr.slice t (.string (str l)) (some (.int k i)) none none).run P w =if 0<=i/\i<=(l.length:Int)then .ok (.string (str (l.drop i.toNat))) w else((boundsPanic k i l.length .sliceB:Sem Nat).run P w).andThen λa w'=>.ok (.string (str (l.drop a))) w':=by rw[run_slice_string_from_if w t _ k i h];simp only[ie,pA];have e:∀a,(l.drop a).take (l.length-a)=l.drop a:=λa=>List.take_of_length_le (by simp);simp only[e]
@[go_sem high] def ahq t l k j (h:P.underlying t=some .string):(Instr.slice t (.string (str l)) none (some (.int k j)) none).run P w =if 0<=j/\j<=(l.length:Int)then .ok (.string (str (l.take j.toNat))) w else((boundsPanic k j l.length .sliceAlen:Sem Nat).run P w).andThen λa w'=>.ok (.string (str (l.take a))) w':=by rw[run_slice_string_to_if w t _ k j h];simp only[ie,pA,List.drop_zero,Nat.sub_zero]
@[go_sem high] def aeY t l k k' i j (h:P.underlying t=some .string) :
  (Instr.slice t (.string (str l)) (some (.int k i)) (some (.int k' j)) none).run P w =
   if 0<=j/\j<=(l.length:Int)then
    (if 0<=i/\i<=j then .ok (.string (str ((l.drop i.toNat).take (j.toNat-i.toNat)))) w
     else((boundsPanic k i j.toNat .sliceB:Sem Nat).run P w).andThen λa w'=>.ok (.string (str ((l.drop a).take (j.toNat-a)))) w')
   else((boundsPanic k' j l.length .sliceAlen:Sem Nat).run P w).andThen λb w'=>
    ((Instr.sliceBound (.int k i) b .sliceB).run P w').andThen λa u9=>.ok (.string (str ((l.drop a).take (b-a)))) u9:=by
 rw[run_slice_string_if w t _ k k' i j h];simp only[ie,pA]
@[go_sem high] def aeZ a b:(Op.stringOp .add (str a) (str b)).run P w =if a.length+b.length>9223372036854775807 then .halt (.unsupported (.resourceLimit "string concatenation: a sum of the lengths that is no int")) w else .ok (.string (str (a++b))) w:=by rw[run_string_add_if];simp only[ie,Mj]
end
def jK{P} w src dst e b o cap l(hs:P.underlying src=some (.slice e))(he:P.underlying e=some (.int .u8))(hd:P.underlying dst=some .string) (hc:∀j,j<l.length->w.cell? ⟨b,o+j,none⟩=some (.int .u8 (Y (nth l j)))):(convert src dst (.slice (some ⟨b,o,none⟩) l.length cap)).run P w=.ok (.string (str l)) w:=by refine run_convert_bytes_back w src dst e _ cap l hs he hd λj hj=>?_;rw[Addr.add_lit,hc j hj];unfold nth;rw[List.getD_eq_getElem?_getD,List.getElem?_eq_getElem hj];rfl
@[go_sem high] def alj {P} (w:World) src dst e x (hs:P.underlying src=some (.slice e)) (he:P.underlying e=some (.int .u8)) (hd:P.underlying dst=some .string):(convert src dst (.slice (some ⟨w.heap.size,0,none⟩) 1 1)).run P (w.alloc (.cells #[.int .u8 (Y x)] e))=.ok (.string (str [x])) (w.alloc (.cells #[.int .u8 (Y x)] e)):=jK _ src dst e _ 0 1 [x] hs he hd λj hj=>by
 obtain rfl:j=0:=by simp at hj;omega
 rw[World.cell?_alloc_new];rfl
end bd
def Fc:∀(fn:Fn)(first cap:Array Value)(w:World),(Instr.makeFunc fn first cap).run prog w=.ok (.func fn first cap) w:=λ_ _ _ _=>rfl
end
section
open bd
namespace ax
def plain:Op->Bool
 |.move _|.assign _|.load _ _|.binOp _ _ _ _ _|.unOp _ _ _|.convert _ _ _|.fieldAddr _ _ _|.indexAddr _ _ _|.index _ _ _|.nilCheck _|.slice _ _ _ _ _|.build _ _=>true|_=>false
def WG{P w w' s f args}:(s >>= λv=>pure (Next.value v):Sem Next).run P w≠.ok (.enter f args) w':=by intro h;rw[Sem.run_bind]at h;cases hr:s.run P w with|ok v w1=>rw[hr]at h;simp[Result.andThen,Sem.run_pure]at h|halt x w1=>rw[hr]at h;simp[Result.andThen]at h
def Ie{α P w w' s}{g:α->Sem Next}{f args}(h:∀v w1,(g v).run P w1≠.ok (.enter f args) w'):(s >>= g).run P w≠.ok (.enter f args) w':=by intro hr;rw[Sem.run_bind]at hr;cases hs:s.run P w with|ok v w1=>rw[hs]at hr;exact h v w1 hr|halt x w1=>rw[hs]at hr;simp[Result.andThen]at hr
def qP{P w w' v f args}:(pure (Next.value v):Sem Next).run P w≠.ok (.enter f args) w':=by simp[Sem.run_pure]
def ae6{P w w' x f args o y ev}(ho:o.op=.nilCheck y)(hx:ev y=x):(execOp ev o).run P w≠.ok (.enter f args) w':=by intro hr;unfold execOp at hr;simp only[ho,hx]at hr;split at hr;simp[runtimePanic]at hr;simp[runtimePanic]at hr;simp[runtimePanic]at hr;split at hr;simp[runtimePanic]at hr;refine Ie (λv w1=>?_) hr;refine Ie (λv2 w2=>?_);split;exact Ie (λv3 w3=>qP);exact qP;exact qP hr;exact qP hr
def JR{P ev o w w' f args}(h:plain o.op=true):(execOp ev o).run P w≠.ok (.enter f args) w':=by
 cases ho:o.op<;>rw[ho]at h<;>simp only[plain,Bool.false_eq_true]at h;case nilCheck x=>exact ae6 ho rfl
 all_goals (unfold execOp;simp only[ho];first|exact qP|exact WG)
def zZ{P}{o:Oper}{a C w K}(hp:plain o.op=true)(hC:C w)(h:o.quiet P a C K):o.still P a w K:=by
 obtain⟨v,h1,h2⟩:=h;have h3:=h1 w hC;unfold Oper.quietAt at h3;unfold Oper.still;have bZ:=λf args w'=>JR (P:=P) (ev:=a.eval) (o:=o) (w:=w) (w':=w') (f:=f) (args:=args) hp;generalize(execOp a.eval o).run P w=r at *;cases r with
 |ok n w'=>
 cases n<;>simp only[Oper.quietUpon]at h3<;>simp only[Oper.stillUpon];case value u=>obtain⟨e1,rfl⟩:=h3;exact⟨e1,h2⟩
 case skip=>obtain⟨e1,rfl⟩:=h3;exact⟨e1,h2⟩
 case enter f args=>exact absurd rfl (bZ f args w')
 |halt x w'=>simp only[Oper.quietUpon]at h3
theorem eU{P ops C w Q}(hC:C w):∀l a,l.all (λo=>plain o.op)=true->wpQuiet P ops C Q l a->wpStill P ops w Q l a
 |[],_,_,h=>h|o::l,a,hp,h=>by simp only[List.all_cons,Bool.and_eq_true]at hp;unfold wpQuiet at h;unfold wpStill;split;rename_i hw;rw[if_pos hw]at h;exact Oper.still_mono (λa' h'=>eU hC l a' hp.2 h') (zZ hp.1 hC h);rename_i hw;rw[if_neg hw]at h;exact eU hC l _ hp.2 h
def tail{P id Q a w}{l:List Oper} n(hm:P.follows .mixedOrders=true)(hB:Region.lexTailB .any l.toArray n=true) (hp:(l.take n).all (λo=>plain o.op)=true) (h:wpQuiet P l.toArray (λw'=>∃m,w'=w.drewN m) (λa'=>wpList P l.toArray Q (l.drop n) a' w.drew) (l.take n) a):(Code.region id l.toArray true).wp P Q a w:=xp n hm hB (eU ⟨1,rfl⟩ _ _ hp h)
end ax
def bX{P f args}{w:World}{a n v} (h:Calls P f args (w.drewN (a+n)) λe w'=>e=.returned v/\w.drewN (a+n)=w'):Calls P f args (w.drewN (a+n)) λe u9=>e=.returned v/\∃m,u9=w.drewN (a+m):=h.mono λ_ _ ⟨he,hm⟩=>⟨he,n,hm.symm⟩
namespace aQ
structure H8 where
 (a b c d e f g h:UInt32)
def begin:H8:=⟨1779033703,3144134277,1013904242,2773480762,1359893119,2600822924,528734635,1541459225⟩
def rounds:List UInt32:=[1116352408,1899447441,3049323471,3921009573,961987163,1508970993,2453635748,2870763221,3624381080,310598401,607225278,1426881987,1925078388,2162078206,2614888103,3248222580,3835390401,4022224774,264347078,604807628,770255983,1249150122,1555081692,1996064986,2554220882,2821834349,2952996808,3210313671,3336571891,3584528711,113926993,338241895,666307205,773529912,1294757372,1396182291,1695183700,1986661051,2177026350,2456956037,2730485921,2820302411,3259730800,3345764771,3516065817,3600352804,4094571909,275423344,430227734,506948616,659060556,883997877,958139571,1322822218,1537002063,1747873779,1955562222,2024104815,2227730452,2361852424,2428436474,2756734187,3204031479,3329325298]
def nw(l:List UInt32)(i:Nat):UInt32:=l.getD i 0
def s0(x:UInt32):UInt32:=fq x 7 ^^^ fq x 18 ^^^ kE x 3
def s1(x:UInt32):UInt32:=fq x 17 ^^^ fq x 19 ^^^ kE x 10
def S0(x:UInt32):UInt32:=fq x 2 ^^^ fq x 13 ^^^ fq x 22
def S1(x:UInt32):UInt32:=fq x 6 ^^^ fq x 11 ^^^ fq x 25
def ch(e f g:UInt32):UInt32:=e&&&f ^^^ ~~~e&&&g
def maj(a b c:UInt32):UInt32:=a&&&b ^^^ a&&&c ^^^ b&&&c
def acN(b:List UInt8)(i:Nat):UInt32:=tL (nth b (4*i)).toUInt32 24 ||| tL (nth b (4*i+1)).toUInt32 16 ||| tL (nth b (4*i+2)).toUInt32 8 |||(nth b (4*i+3)).toUInt32
def first(b:List UInt8):Nat->List UInt32
 |0=>[]|n+1=>first b n++[acN b n]
def next(w:List UInt32):UInt32:=nw w (w.length-16)+s0 (nw w (w.length-15))+nw w (w.length-7)+s1 (nw w (w.length-2))
def sched(b:List UInt8):Nat->List UInt32
 |0=>first b 16
 |n+1=>sched b n++[next (sched b n)]
def oD b n:(first b n).length=n:=by induction n with|zero=>rfl|succ n ih=>simp[first,ih]
def tN b n:(sched b n).length=16+n:=by induction n with|zero=>exact oD b 16|succ n ih=>simp[sched,ih];omega
def rnd(s:H8)(k w:UInt32):H8:=
 let t:=s.h+S1 s.e+ch s.e s.f s.g+k+w;let u:=S0 s.a+maj s.a s.b s.c
 ⟨t+u,s.a,s.b,s.c,s.d+t,s.e,s.f,s.g⟩
def RJ(ws:List UInt32)(s:H8):Nat->H8
 |0=>s|n+1=>rnd (RJ ws s n) (nw rounds n) (nw ws n)
def plus(s t:H8):H8:=⟨s.a+t.a,s.b+t.b,s.c+t.c,s.d+t.d,s.e+t.e,s.f+t.f,s.g+t.g,s.h+t.h⟩
def block(s:H8)(b:List UInt8):H8:=plus s (RJ (sched b 48) s 64)
def blocks:Nat->H8->List UInt8->H8
 |0,s,_=>s|n+1,s,l=>block (blocks n s l) ((l.drop (64*n)).take 64)
def be4(x:UInt32):List UInt8:=[(kE x 24).toUInt8,(kE x 16).toUInt8,(kE x 8).toUInt8,x.toUInt8]
def out(s:H8):List UInt8:=be4 s.a++be4 s.b++be4 s.c++be4 s.d++be4 s.e++be4 s.f++be4 s.g++be4 s.h
def be8(x:UInt64):List UInt8:=[(shr x 56).toUInt8,(shr x 48).toUInt8,(shr x 40).toUInt8,(shr x 32).toUInt8,(shr x 24).toUInt8,(shr x 16).toUInt8,(shr x 8).toUInt8,(shr x 0).toUInt8]
def lY(n:Nat):Nat:=(119-n % 64) % 64
def pad(l:List UInt8):List UInt8:=l++[128]++List.replicate (lY l.length) 0++be8 (UInt64.ofNat (8*l.length))
def sum(l:List UInt8):List UInt8:=out (blocks ((pad l).length/64) begin (pad l))
def iD s:(out s).length=32:=rfl
def Eg n s l m(h:64*n<=l.length):blocks n s (l++m)=blocks n s l:=by induction n with|zero=>rfl|succ n ih=>rw[blocks,blocks,ih (by omega),List.drop_append_of_le_length (by omega),List.take_append_of_le_length (by rw[List.length_drop];omega)]
def SQ l m j(h:j<l.length):nw (l++m) j=nw l j:=by unfold nw;rw[List.getD_eq_getElem?_getD,List.getD_eq_getElem?_getD,List.getElem?_append_left h]
def aa1 l i(h:i<l.length):l.drop i=nw l i::l.drop (i+1):=by rw[List.drop_eq_getElem_cons h];unfold nw;rw[List.getD_eq_getElem?_getD,List.getElem?_eq_getElem h];rfl
def aa0 l i(h:i<l.length):l.take (i+1)=l.take i++[nw l i]:=by rw[List.take_succ_eq_append_getElem h];unfold nw;rw[List.getD_eq_getElem?_getD,List.getElem?_eq_getElem h];rfl
def aa5(p s:List UInt32) i(hp:i<p.length):nw (p.take i++s.drop i) i=nw s i:=by
 have e:(p.take i).length=i:=by rw[List.length_take];omega
 unfold nw;rw[List.getD_eq_getElem?_getD,List.getElem?_append_right (by omega),e,Nat.sub_self,List.getElem?_drop,List.getD_eq_getElem?_getD];rfl
def aa4(p s:List UInt32) i(hp:i<p.length)(hs:i<s.length):(p.take i++s.drop i).set i (nw p i)=p.take (i+1)++s.drop (i+1):=by
 have e:(p.take i).length=i:=by rw[List.length_take];omega
 rw[List.set_append_right _ _ (by omega),e,Nat.sub_self,aa1 s i hs,List.set_cons_zero,aa0 p i hp,List.append_assoc];rfl
def Jm{l i n m}{x:UInt32}(h:l.length=i)(hn:n=m+1):(l++List.replicate n 0).set i x=(l++[x])++List.replicate m 0:=by subst h hn;rw[List.set_append_right _ _ ν,Nat.sub_self,List.replicate_succ,List.set_cons_zero,List.append_assoc];rfl
end aQ
end
section
open bd Go.RowKit
def Row(w:World)(b:Nat)(l:List Value):Prop:=∃T,w.heap[b]? =some (.cells l.toArray T)
namespace Row
variable{w:World}{b:Nat}{l:List Value}
def cell(h:Row w b l) i:w.cell? ⟨b,i,none⟩=l[i]?:=by obtain⟨T,h⟩:=h;simp[World.cell?,h]
def free(h:Row w b l) i:w.frozen? ⟨b,i,none⟩=false:=by obtain⟨T,h⟩:=h;simp[World.frozen?,h]
def set(h:Row w b l) i v:Row (w.setCell ⟨b,i,none⟩ v) b (l.set i v):=by obtain⟨T,h⟩:=h;exact⟨T,by simp[World.setCell,Array.getElem?_modify,h]⟩
def other(h:Row w b l){a}(ha:a.block≠b) v:Row (w.setCell a v) b l:=by obtain⟨T,h⟩:=h;exact⟨T,by rw[Below.heap_setCell _ _ _ _ (Ne.symm ha)];exact h⟩
def drew(h:Row w b l):Row w.drew b l:=h
def drewN(h:Row w b l) n:Row (w.drewN n) b l:=h
def lt(h:Row w b l):b<w.heap.size:=by obtain⟨T,h⟩:=h;exact(Array.getElem?_eq_some_iff.1 h).1
def alloc(h:Row w b l) o:Row (w.alloc o) b l:=by have hl:=h.lt;obtain⟨T,h⟩:=h;exact⟨T,by rw[Below.heap_alloc _ _ _ hl];exact h⟩
def below{B w'}(h:Row w b l)(hb:Below B w w')(hB:b<B):Row w' b l:=by obtain⟨T,h⟩:=h;exact⟨T,by rw[hb.block b hB];exact h⟩
def new(w:World) l T:Row (w.alloc (.cells l.toArray T)) w.heap.size l:=⟨T,by show(w.heap.push _)[w.heap.size]? =_;rw[Array.getElem?_push_size]⟩
end Row
def iL(l:List UInt32):List Value:=l.map λx=>.int .u32 (V x)
def qF l i(h:i<l.length):(iL l)[i]? =some (.int .u32 (V (aQ.nw l i))):=by unfold iL aQ.nw;rw[List.getElem?_map,List.getD_eq_getElem?_getD,List.getElem?_eq_getElem h];rfl
def FT l i x:(iL l).set i (.int .u32 (V x))=iL (l.set i x):=by unfold iL;rw[List.map_set]
def Row.word{w b l}(h:Row w b (iL l)) i(hi:i<l.length):w.cell? ⟨b,i,none⟩=some (.int .u32 (V (aQ.nw l i))):=by rw[h.cell,qF l i hi]
def w8(l:List UInt8):List Value:=l.map λx=>.int .u8 (Y x)
def iX l i(h:i<l.length):(w8 l)[i]? =some (.int .u8 (Y (nth l i))):=by unfold w8 nth;rw[List.getElem?_map,List.getD_eq_getElem?_getD,List.getElem?_eq_getElem h];rfl
def po l i x:(w8 l).set i (.int .u8 (Y x))=w8 (l.set i x):=by unfold w8;rw[List.map_set]
def Bytes(w:World)(b o:Nat)(l:List UInt8):Prop:=∀j,j<l.length->w.cell? ⟨b,o+j,none⟩=some (.int .u8 (Y (nth l j)))
structure cA(B S:Nat)(w w':World):Prop where
 os:w'.os=w.os
 tape:w'.tape=w.tape
 output:w'.output=w.output
 size:w.heap.size<=w'.heap.size
 block:∀k,k<B->k≠S->w'.heap[k]? =w.heap[k]?
namespace cA
variable{B S:Nat}{w w':World}
def refl B S w:cA B S w w:=⟨rfl,rfl,rfl,ν,λ_ _ _=>rfl⟩
theorem trans{u9}(h:cA B S w w')(k:cA B S w' u9):cA B S w u9:=⟨k.os.trans h.os,k.tape.trans h.tape,k.output.trans h.output,Nat.le_trans h.size k.size,λi hi hs=>(k.block i hi hs).trans (h.block i hi hs)⟩
def aH(h:Below B w w'):cA B S w w':=⟨h.os,h.tape,h.output,h.size,λk hk _=>h.block k hk⟩
theorem alloc(h:cA B S w w')(hB:B<=w'.heap.size) o:cA B S w (w'.alloc o):=h.trans (aH ((Below.refl _ _).alloc hB o))
theorem drew(h:cA B S w w'):cA B S w w'.drew:=h.trans (aH (Below.refl _ _).drew)
def drewN(h:cA B S w w') n:cA B S w (w'.drewN n):=h.trans (aH (below_drewN (Below.refl _ _) n))
def eA(h:cA B S w w') i v:cA B S w (w'.setCell ⟨S,i,none⟩ v):=h.trans ⟨rfl,rfl,rfl,by simp[World.setCell],λk _ hs=>Below.heap_setCell _ _ _ _ hs⟩
def mono{B'}(h:cA B S w w')(hB:B'<=B):cA B' S w w':=⟨h.os,h.tape,h.output,h.size,λk hk hs=>h.block k (by omega) hs⟩
def row{b l}(h:cA B S w w')(hr:Row w b l)(hb:b<B)(hs:b≠S):Row w' b l:=by obtain⟨T,hr⟩:=hr;exact⟨T,by rw[h.block b hb hs];exact hr⟩
def bytes{b o l}(h:cA B S w w')(hr:Bytes w b o l)(hb:b<B)(hs:b≠S):Bytes w' b o l:=λj hj=>by rw[<-hr j hj];exact World.cell?_of_block (w:=w) (h.block b hb hs)
def below(h:cA B S w w')(hS:B<=S):Below B w w':=⟨h.os,h.tape,h.output,h.size,λk hk=>h.block k hk (by omega)⟩
end cA
def Bytes.below{B b o l w w'}(hr:Bytes w b o l)(h:Below B w w')(hb:b<B):Bytes w' b o l:=λj hj=>by rw[<-hr j hj];exact World.cell?_of_block (w:=w) (h.block b hb)
end
section
open Go.RowKit bd
def mixed:prog.follows .mixedOrders=true:=by kernel_rfl
def RH x k z n(hk:iY k&&&iY 31=z)(h1:U z=((32-n:Nat):Int))(h2:U (iY 32-z)=(n:Int))(hn:n<=32) w:Calls prog 153 #[.int .u32 (V x),.int .i64 k] w λe w'=>e=.returned (.int .u32 (V (fq x n)))/\w=w':=by
 have e1:=η h1;have e2:=η h2;have l1:U z<=32:=by omega
 have l2:U (iY 32-z)<=32:=by omega
 clear h1 h2;go_enter func153,ntmps153;go_wp2;go_ret;refine⟨?_,rfl⟩;have h1:=e1.o;have h2:=e2.o;have f1:(U z).toNat=32-n:=by omega
 have f2:(U (iY 32-z)).toNat=n:=by omega
 unfold fq;rw[UInt32.or_comm];rw[<-f1];conv=>rhs;rw[<-f2]
 rfl
def gV x k n(h:(n=2/\k= -2)∨(n=6/\k= -6)∨(n=7/\k= -7)∨(n=11/\k= -11)∨(n=13/\k= -13)∨(n=17/\k= -17)∨(n=18/\k= -18)∨(n=19/\k= -19)∨(n=22/\k= -22)∨(n=25/\k= -25)) w:Calls prog 153 #[.int .u32 (V x),.int .i64 k] w λe w'=>e=.returned (.int .u32 (V (fq x n)))/\w=w':=by rcases h with⟨rfl,rfl⟩|⟨rfl,rfl⟩|⟨rfl,rfl⟩|⟨rfl,rfl⟩|⟨rfl,rfl⟩|⟨rfl,rfl⟩|⟨rfl,rfl⟩|⟨rfl,rfl⟩|⟨rfl,rfl⟩|⟨rfl,rfl⟩<;>exact RH x _ _ _ rfl rfl rfl (by decide) w
def eM(s:aQ.H8):List UInt32:=[s.a,s.b,s.c,s.d,s.e,s.f,s.g,s.h]
def LD S g o cap s rv nv b(hb:b.length=64) w(Ym:1<w.heap.size) (bQ:Row w S (iL (eM s)++[rv,nv])) (hg:g<w.heap.size) (yO:Bytes w g o b) (hK:Row w 1 (iL aQ.rounds)):Calls prog 136 #[.pointer (some ⟨S,0,none⟩),.slice (some ⟨g,o,none⟩) 64 cap] w λe w'=>e=.returned (.tuple #[])/\Row w' S (iL (eM (aQ.block s b))++[rv,nv])/\cA w.heap.size S w w':=by
 go_enter func136,ntmps136;go_wp2;have hz:Row (w.alloc (.cells (iL (List.replicate 64 0)).toArray 209)) w.heap.size (iL (List.replicate 64 0)):=Row.new w _ _;have UQ:Below w.heap.size w (w.alloc (.cells (iL (List.replicate 64 0)).toArray 209)):=(Below.refl _ _).alloc ν _;have e0:(iL (List.replicate 64 0)).toArray=#[.int .u32 0,.int .u32 0,.int .u32 0,.int .u32 0,.int .u32 0,.int .u32 0,.int .u32 0,.int .u32 0,.int .u32 0,.int .u32 0,.int .u32 0,.int .u32 0,.int .u32 0,.int .u32 0,.int .u32 0,.int .u32 0,.int .u32 0,.int .u32 0,.int .u32 0,.int .u32 0,.int .u32 0,.int .u32 0,.int .u32 0,.int .u32 0,.int .u32 0,.int .u32 0,.int .u32 0,.int .u32 0,.int .u32 0,.int .u32 0,.int .u32 0,.int .u32 0,.int .u32 0,.int .u32 0,.int .u32 0,.int .u32 0,.int .u32 0,.int .u32 0,.int .u32 0,.int .u32 0,.int .u32 0,.int .u32 0,.int .u32 0,.int .u32 0,.int .u32 0,.int .u32 0,.int .u32 0,.int .u32 0,.int .u32 0,.int .u32 0,.int .u32 0,.int .u32 0,.int .u32 0,.int .u32 0,.int .u32 0,.int .u32 0,.int .u32 0,.int .u32 0,.int .u32 0,.int .u32 0,.int .u32 0,.int .u32 0,.int .u32 0,.int .u32 0]:=by kernel_rfl
 rw[e0]at hz UQ;have hSA:S≠w.heap.size:=by have:=bQ.lt;omega
 have QD:w.heap.size< (w.alloc (.cells #[.int .u32 0,.int .u32 0,.int .u32 0,.int .u32 0,.int .u32 0,.int .u32 0,.int .u32 0,.int .u32 0,.int .u32 0,.int .u32 0,.int .u32 0,.int .u32 0,.int .u32 0,.int .u32 0,.int .u32 0,.int .u32 0,.int .u32 0,.int .u32 0,.int .u32 0,.int .u32 0,.int .u32 0,.int .u32 0,.int .u32 0,.int .u32 0,.int .u32 0,.int .u32 0,.int .u32 0,.int .u32 0,.int .u32 0,.int .u32 0,.int .u32 0,.int .u32 0,.int .u32 0,.int .u32 0,.int .u32 0,.int .u32 0,.int .u32 0,.int .u32 0,.int .u32 0,.int .u32 0,.int .u32 0,.int .u32 0,.int .u32 0,.int .u32 0,.int .u32 0,.int .u32 0,.int .u32 0,.int .u32 0,.int .u32 0,.int .u32 0,.int .u32 0,.int .u32 0,.int .u32 0,.int .u32 0,.int .u32 0,.int .u32 0,.int .u32 0,.int .u32 0,.int .u32 0,.int .u32 0,.int .u32 0,.int .u32 0,.int .u32 0,.int .u32 0] 209)).heap.size:=by simp
 clear e0;generalize w.alloc _=w1 at hz UQ QD|-;have hSl:=bQ.lt;generalize hA:w.heap.size=A at hz UQ QD hSA Ym hg hSl|-;have hA':=η hA;clear hA;have adP:=η bQ;have abT:=η yO;have hHK:=η hK;clear bQ yO hK;go_loopw [18] (λv wr=>∃i:Nat,i<=16/\v=.int .i64 i/\Row wr A (iL (aQ.first b i++List.replicate (64-i) 0))/\Below A w wr/\A<wr.heap.size) (λv _=>16-(intOf v).toNat);exact⟨0,by omega,rfl,hz,UQ,QD⟩;clear hz UQ QD;obtain⟨i,hi,rfl,hz,hk,QD⟩:=hrel;by_cases aM:i<16
 ·have b0:=(abT.o.below hk hg) (4*i) (by omega);have b1:=(abT.o.below hk hg) (4*i+1) (by omega);have b2:=(abT.o.below hk hg) (4*i+2) (by omega);have b3:=(abT.o.below hk hg) (4*i+3) (by omega);have DQ:=aQ.oD b i;have pe:(iL (aQ.first b i++List.replicate (64-i) 0)).length=64:=by simp[iL,DQ];omega
  have cw:∃v,wr.cell? ⟨A,i,none⟩=some v:=⟨_,by rw[hz.cell];exact List.getElem?_eq_getElem (by omega)⟩;obtain⟨u,cu⟩:=cw;have fz:=hz.free i;clear DQ pe;have p0:(0:Int)<=4*(i:Int):=by omega
  have p1:4*(i:Int)<64:=by omega
  have p2:4*(i:Int)+1<64:=by omega
  have p3:4*(i:Int)+2<64:=by omega
  have p4:4*(i:Int)+3<64:=by omega
  have p5:(i:Int)<64:=by omega
  go_wp2_with fail;refine ax.tail 35 mixed (by as_aux_lemma=>kernel_rfl) rfl ?_
  simp only[List.take_succ_cons,List.take_zero,List.drop_succ_cons,List.drop_zero];repeat(go_big_quiet_step (fail))
  refine wpQuiet_nil ?_;go_wp2_with fail;go_roundw
  ·refine⟨i+1,by omega,by go_num,?_,(hk.setCell (p:=⟨A,i,none⟩) ν _).drew,by simpa[World.setCell]using QD⟩;have:=(hz.set i (.int .u32 (V (aQ.acN b i)))).drew;rw[FT,aQ.Jm (m:=64-(i+1)) (aQ.oD b i) (by omega)]at this;exact this
  simp[intOf];omega
 obtain rfl:i=16:=by omega
 have hzz:Row wr A (iL (aQ.sched b 0++List.replicate 48 0)):=hz;clear hz;rw[show((16:Nat):Int)=16 from rfl];go_wp2_with fail;obtain⟨wq,rfl⟩:∃wq:World,wq=wr:=⟨_,rfl⟩;go_loopw [6] (λv wr=>∃n:Nat,16<=n/\n<=64/\v=.int .i64 n/\Row wr A (iL (aQ.sched b (n-16)++List.replicate (64-n) 0))/\Below A w wr/\A<wr.heap.size) (λv _=>64-(intOf v).toNat);exact⟨16,by omega,by omega,rfl,hzz,hk,QD⟩;clear hzz hk QD;obtain⟨n,XR,ax5,rfl,hz,hk,QD⟩:=hrel;by_cases aM:n<64
 ·have Fo:=aQ.tN b (n-16);have afA:(aQ.sched b (n-16)).length=n:=by omega
  have hg:∀j,j<n->wr.cell? ⟨A,j,none⟩=some (.int .u32 (V (aQ.nw (aQ.sched b (n-16)) j))):=λj hj=>by rw[hz.word j (by simp;omega),aQ.SQ _ _ _ (by omega)]
  have g15:=hg (n-15) (by omega);have g2:=hg (n-2) (by omega);have g16:=hg (n-16) (by omega);have g7:=hg (n-7) (by omega);have cw:∃v,wr.cell? ⟨A,n,none⟩=some v:=⟨_,hz.word n (by simp;omega)⟩;obtain⟨u,cu⟩:=cw;have fz:=hz.free n;have Qq:aQ.next (aQ.sched b (n-16))=aQ.nw (aQ.sched b (n-16)) (n-16)+aQ.s0 (aQ.nw (aQ.sched b (n-16)) (n-15))+aQ.nw (aQ.sched b (n-16)) (n-7)+aQ.s1 (aQ.nw (aQ.sched b (n-16)) (n-2)):=by unfold aQ.next;rw[afA]
  have hNX:=η Qq;have hSL:=η afA;clear Qq Fo afA hg;generalize aQ.nw (aQ.sched b (n-16)) (n-15)=kH at g15 hNX;generalize aQ.nw (aQ.sched b (n-16)) (n-2)=x2 at g2 hNX;generalize aQ.nw (aQ.sched b (n-16)) (n-16)=jC at g16 hNX;generalize aQ.nw (aQ.sched b (n-16)) (n-7)=x7 at g7 hNX;have p0:(0:Int)<=(n:Int) - 15:=by omega
  have p1:(n:Int) - 15<64:=by omega
  have p2:(0:Int)<=(n:Int) - 2:=by omega
  have p3:(n:Int) - 2<64:=by omega
  have p4:(0:Int)<=(n:Int) - 16:=by omega
  have p5:(n:Int) - 16<64:=by omega
  have p6:(0:Int)<=(n:Int) - 7:=by omega
  have p7:(n:Int) - 7<64:=by omega
  have p8:(n:Int)<64:=by omega
  go_wp2_with fail;go_quiet (fail)
  go_wp2_with (go_at_call 153;(first|refine(gV _ _ 7 (by omega) _).mono ?_|refine(gV _ _ 18 (by omega) _).mono ?_|refine(gV _ _ 17 (by omega) _).mono ?_|refine(gV _ _ 19 (by omega) _).mono ?_);rintro e w' ⟨rfl,rfl⟩)
  refine ax.tail 15 mixed (by as_aux_lemma=>kernel_rfl) rfl ?_;simp only[List.take_succ_cons,List.take_zero,List.drop_succ_cons,List.drop_zero];repeat(go_big_quiet_step (fail))
  refine wpQuiet_nil ?_;go_wp2_with fail;go_roundw
  ·have e1:aQ.sched b (n+1-16)=aQ.sched b (n-16)++[aQ.next (aQ.sched b (n-16))]:=by rw[show n+1-16=(n-16)+1 by omega];rfl
   refine⟨n+1,by omega,by omega,by go_num,?_,?_,by simpa[World.setCell]using QD⟩;have:=hz.set n (.int .u32 (V (aQ.next (aQ.sched b (n-16)))));rw[FT,aQ.Jm (m:=64-(n+1)) hSL.o (by omega),<-e1,hNX.o]at this;exact this;exact(below_drewN hk _).setCell (p:=⟨A,n,none⟩) ν _
  simp[intOf];omega
 obtain rfl:n=64:=by omega
 replace hz:Row wr A (iL (aQ.sched b 48)):=by simpa using hz
 rw[show((64:Nat):Int)=64 from rfl];have hr:=adP.o.below hk hSl;have qb:∀j,j<8->wr.cell? ⟨S,j,none⟩=some (.int .u32 (V (aQ.nw (eM s) j))):=λj hj=>by rw[hr.cell,List.getElem?_append_left (by simp[iL,eM];omega),qF _ _ (by simp[eM];omega)]
 have c0:=qb 0 (by omega);have c1:=qb 1 (by omega);have c2:=qb 2 (by omega);have c3:=qb 3 (by omega);have c4:=qb 4 (by omega);have c5:=qb 5 (by omega);have c6:=qb 6 (by omega);have c7:=qb 7 (by omega);simp only[show aQ.nw (eM s) 0=s.a from rfl,show aQ.nw (eM s) 1=s.b from rfl,show aQ.nw (eM s) 2=s.c from rfl,show aQ.nw (eM s) 3=s.d from rfl,show aQ.nw (eM s) 4=s.e from rfl,show aQ.nw (eM s) 5=s.f from rfl,show aQ.nw (eM s) 6=s.g from rfl,show aQ.nw (eM s) 7=s.h from rfl]at c0 c1 c2 c3 c4 c5 c6 c7;clear qb;go_wp2_with fail;have nz:Row (wr.alloc (.cells (iL (eM s)).toArray 169)) wr.heap.size (iL (eM s)):=Row.new wr _ _;have DO:Below A w (wr.alloc (.cells (iL (eM s)).toArray 169)):=hk.alloc (by omega) _;have hw3:Row (wr.alloc (.cells (iL (eM s)).toArray 169)) A (iL (aQ.sched b 48)):=hz.alloc _;have e3:(iL (eM s)).toArray=#[.int .u32 (V s.a),.int .u32 (V s.b),.int .u32 (V s.c),.int .u32 (V s.d),.int .u32 (V s.e),.int .u32 (V s.f),.int .u32 (V s.g),.int .u32 (V s.h)]:=rfl;rw[e3]at nz DO hw3;clear e3 hz hk c0 c1 c2 c3 c4 c5 c6 c7 hr;generalize wr.alloc _=w3 at nz DO hw3|-;generalize wr.heap.size=Hb at nz QD|-;have hwl:(aQ.sched b 48).length=64:=aQ.tN b 48;generalize hws:aQ.sched b 48=ws at hw3 hwl;have hWS:=η hws;have hWL:=η hwl;clear hws hwl;have hHs:Hb<w3.heap.size:=nz.lt;obtain⟨wp,rfl⟩:∃wp:World,wp=wr:=⟨_,rfl⟩;go_loopw [104] (λv wr=>∃i:Nat,i<=64/\v=.int .i64 i/\Row wr Hb (iL (eM (aQ.RJ ws s i)))/\Row wr A (iL ws)/\Below A w wr) (λv _=>64-(intOf v).toNat);exact⟨0,by omega,rfl,nz,hw3,DO⟩;clear nz hw3 DO hHs;obtain⟨i,ayq,rfl,hz,hw,hk⟩:=hrel;generalize aS:aQ.RJ ws s i=st at hz;have hST:=η aS;clear aS;obtain⟨a1,b1,c1,d1,e1,f1,g1,h1⟩:=st;by_cases aM:i<64
 ·have nD:∀j,j<8->wr.cell? ⟨Hb,j,none⟩=some (.int .u32 (V (aQ.nw (eM ⟨a1,b1,c1,d1,e1,f1,g1,h1⟩) j))):=λj hj=>hz.word j (by simp[eM];omega);have x0:wr.cell? ⟨Hb,0,none⟩=some (.int .u32 (V a1)):=nD 0 (by omega);have x1:wr.cell? ⟨Hb,1,none⟩=some (.int .u32 (V b1)):=nD 1 (by omega);have x2:wr.cell? ⟨Hb,2,none⟩=some (.int .u32 (V c1)):=nD 2 (by omega);have x3:wr.cell? ⟨Hb,3,none⟩=some (.int .u32 (V d1)):=nD 3 (by omega);have x4:wr.cell? ⟨Hb,4,none⟩=some (.int .u32 (V e1)):=nD 4 (by omega);have x5:wr.cell? ⟨Hb,5,none⟩=some (.int .u32 (V f1)):=nD 5 (by omega);have x6:wr.cell? ⟨Hb,6,none⟩=some (.int .u32 (V g1)):=nD 6 (by omega);have x7:wr.cell? ⟨Hb,7,none⟩=some (.int .u32 (V h1)):=nD 7 (by omega);have xw:=hw.word i (by have:=hWL.o;omega);have xk:=(hHK.o.below hk Ym).word i aM;have p0:(i:Int)<64:=by omega
  clear nD;generalize UP:aQ.nw aQ.rounds i=kk at xk;have hKK:=η UP;generalize hwk:aQ.nw ws i=wk at xw;have hWK:=η hwk;clear UP hwk;go_wp2_with fail;go_quiet (fail)
  obtain⟨q1,rfl⟩:∃q1:Nat,q1=nq:=⟨_,rfl⟩;go_wp2_with fail;go_quiet ((go_at_call 153;first|(exact bX (gV _ _ 6 (by omega) _))|(exact bX (gV _ _ 11 (by omega) _))|(exact bX (gV _ _ 25 (by omega) _))|(exact bX (gV _ _ 2 (by omega) _))|(exact bX (gV _ _ 13 (by omega) _))|(exact bX (gV _ _ 22 (by omega) _))))
  obtain⟨q2,rfl⟩:∃q2:Nat,q2=nq:=⟨_,rfl⟩;go_wp2_with fail;go_quiet ((go_at_call 153;first|(exact bX (gV _ _ 6 (by omega) _))|(exact bX (gV _ _ 11 (by omega) _))|(exact bX (gV _ _ 25 (by omega) _))|(exact bX (gV _ _ 2 (by omega) _))|(exact bX (gV _ _ 13 (by omega) _))|(exact bX (gV _ _ 22 (by omega) _))))
  obtain⟨q3,rfl⟩:∃q3:Nat,q3=nq:=⟨_,rfl⟩;go_wp2_with fail;generalize htt:h1+(fq e1 6 ^^^ fq e1 11 ^^^ fq e1 25)+(e1&&&f1 ^^^ ~~~e1&&&g1)+kk+wk=tt;have hTT:=η htt;clear htt;generalize huu:(fq a1 2 ^^^ fq a1 13 ^^^ fq a1 22)+(a1&&&b1 ^^^ a1&&&c1 ^^^ b1&&&c1)=uu;have hUU:=η huu;clear huu x0 x1 x2 x3 x4 x5 x6 x7 xw xk;replace hz:=((hz.drewN q1).drewN q2).drewN q3;replace hw:=((hw.drewN q1).drewN q2).drewN q3;replace hk:=below_drewN (below_drewN (below_drewN hk q1) q2) q3;generalize((wr.drewN q1).drewN q2).drewN q3=wg at hz hw hk|-;refine ax.tail 2 mixed (by as_aux_lemma=>kernel_rfl) rfl ?_;simp only[List.take_succ_cons,List.take_zero,List.drop_succ_cons,List.drop_zero];repeat(go_big_quiet_step (fail))
  refine wpQuiet_nil ?_;replace hz:=hz.drew;replace hw:=hw.drew;replace hk:=hk.drew;generalize wg.drew=wd at hz hw hk|-;obtain⟨T,hT⟩:=hz;have ep:∀(j:Nat)(v:Value),(iL [a1,b1,c1,d1,e1,f1,g1])[j]? =some v->wd.cell? (Addr.add ⟨Hb,0,none⟩ j)=some v:=λj v hj=>by
   rw[Addr.add_lit,Nat.zero_add,Row.cell ⟨T,hT⟩,<-hj];match j with
   |0|1|2|3|4|5|6=>rfl
   |j+7=>simp[iL]at hj
  refine wpList_copy_splice rfl _ _ _ _ rfl 168 underlying211 (by kernel_rfl) _ _ 7 7 7 8 rfl rfl Hb 1 (iL (eM ⟨a1,b1,c1,d1,e1,f1,g1,h1⟩)) T hT (iL [a1,b1,c1,d1,e1,f1,g1]) rfl (λ_=>⟨rfl,_,rfl,ep⟩) (by simp[iL,eM]) ?_ Hb wd (Below.refl _ _) ν ?_;intro v hv;obtain⟨x,_,rfl⟩:=List.mem_map.1 hv;rfl;intro w' Tj pf;have hz':Row w' Hb (iL [a1,a1,b1,c1,d1,e1,f1,g1]):=⟨T,Tj.o⟩;replace hw:=hw.below pf QD;replace hk:=hk.trans (pf.mono (Nat.le_of_lt QD));clear Tj pf hT ep;have y0:w'.cell? ⟨Hb,0,none⟩=some (.int .u32 (V a1)):=hz'.word 0 (by simp);have y4:w'.cell? ⟨Hb,4,none⟩=some (.int .u32 (V d1)):=hz'.word 4 (by simp);have z0:=hz'.free 0;have z4:=hz'.free 4;go_wp2_with fail;go_roundw
  ·have hkA:A<=Hb:=Nat.le_of_lt QD;refine⟨i+1,by omega,by go_num,?_,(hw.other (a:=⟨Hb,4,none⟩) (show Hb≠A by omega) _).other (a:=⟨Hb,0,none⟩) (show Hb≠A by omega) _,(hk.setCell (p:=⟨Hb,4,none⟩) hkA _).setCell (p:=⟨Hb,0,none⟩) hkA _⟩;have e:eM (aQ.RJ ws s (i+1))=[tt+uu,a1,b1,c1,d1+tt,e1,f1,g1]:=by show eM (aQ.rnd (aQ.RJ ws s i) (aQ.nw aQ.rounds i) (aQ.nw ws i))=_;rw[hST.o,hKK.o,hWK.o,<-hTT.o,<-hUU.o];rfl
   rw[e];have:=(hz'.set 4 (.int .u32 (V (d1+tt)))).set 0 (.int .u32 (V (tt+uu)));exact this
  simp[intOf];omega
 obtain rfl:i=64:=by omega
 have hr:=adP.o.below hk hSl;rw[show((64:Nat):Int)=64 from rfl];go_wp2_with fail;obtain⟨wt,rfl⟩:∃wt:World,wt=wr:=⟨_,rfl⟩;generalize il:(⟨a1,b1,c1,d1,e1,f1,g1,h1⟩:aQ.H8)=fin at hz hST;have azE:=η il;clear il;have hP8:(eM (aQ.plus s fin)).length=8:=rfl;have hS8:(eM s).length=8:=rfl;have hF8:(eM fin).length=8:=rfl;have hPL:=η hP8;have hSL:=η hS8;have hFL:=η hF8;have hHS:Hb≠S:=by omega
 clear hP8 hS8 hF8;go_loopw [178] (λv wr=>∃i:Nat,i<=8/\v=.int .i64 i/\Row wr S (iL ((eM (aQ.plus s fin)).take i++(eM s).drop i)++[rv,nv])/\Row wr Hb (iL (eM fin))/\cA A S w wr) (λv _=>8-(intOf v).toNat);exact⟨0,by omega,rfl,hr,hz,cA.aH hk⟩;clear hr hz hk hw;obtain⟨i,hi8,rfl,hr,hz,hk⟩:=hrel;have XT:(iL ((eM (aQ.plus s fin)).take i++(eM s).drop i)).length=8:=by simp[iL,hPL.o,hSL.o];omega
 by_cases aM:i<8
 ·have cs:wr.cell? ⟨S,i,none⟩=some (.int .u32 (V (aQ.nw (eM s) i))):=by rw[hr.cell,List.getElem?_append_left (by omega),qF _ _ (by simpa[iL]using(by omega:i< (iL ((eM (aQ.plus s fin)).take i++(eM s).drop i)).length)),aQ.aa5 _ _ _ (by rw[hPL.o];omega)]
  have cf:=hz.word i (by rw[hFL.o];omega);have fz:=hr.free i;have hpl:aQ.nw (eM (aQ.plus s fin)) i=aQ.nw (eM s) i+aQ.nw (eM fin) i:=by
   match i,aM with
   |0,_|1,_|2,_|3,_|4,_|5,_|6,_|7,_=>rfl
  have hPP:=η hpl;have hML:=η XT;clear hpl XT;have p0:(i:Int)<8:=by omega
  go_wp2_with fail;refine ax.tail 13 mixed (by as_aux_lemma=>kernel_rfl) rfl ?_
  simp only[List.take_succ_cons,List.take_zero,List.drop_succ_cons,List.drop_zero];repeat(go_big_quiet_step (fail))
  refine wpQuiet_nil ?_;go_wp2_with fail;go_roundw
  ·refine⟨i+1,by omega,by go_num,?_,(hz.other (a:=⟨S,i,none⟩) (show S≠Hb by omega) _).drew,(hk.eA i _).drew⟩;have:=(hr.set i (.int .u32 (V (aQ.nw (eM (aQ.plus s fin)) i)))).drew;rw[List.set_append_left _ _ (by rw[hML.o];omega),FT,aQ.aa4 _ _ _ (by rw[hPL.o];omega) (by rw[hSL.o];omega),hPP.o]at this;exact this
  simp[intOf];omega
 obtain rfl:i=8:=by omega
 go_wp2_with fail;go_end0;have e8:(eM (aQ.plus s fin)).take 8++(eM s).drop 8=eM (aQ.block s b):=by
  have:aQ.block s b=aQ.plus s fin:=by unfold aQ.block;rw[hWS.o,hST.o]
  rw[this];rfl
 rw[e8]at hr;exact⟨rfl,hr,by rw[hA'.o];exact hk⟩
end
section
open bd Go.RowKit
structure aU(O:Nat->Prop)(w w':World):Prop where
 os:w'.os=w.os
 tape:w'.tape=w.tape
 output:w'.output=w.output
 size:w.heap.size<=w'.heap.size
 block:∀k,k<w.heap.size->¬O k->w'.heap[k]? =w.heap[k]?
namespace aU
variable{O O':Nat->Prop}{w w' u9:World}
def refl O w:aU O w w:=⟨rfl,rfl,rfl,ν,λ_ _ _=>rfl⟩
theorem trans(h:aU O w w')(k:aU O w' u9):aU O w u9:=⟨k.os.trans h.os,k.tape.trans h.tape,k.output.trans h.output,Nat.le_trans h.size k.size,λi hi ho=>(k.block i (Nat.lt_of_lt_of_le hi h.size) ho).trans (h.block i hi ho)⟩
def weaken(h:aU O w w')(ho:∀k,k<w.heap.size->O k->O' k):aU O' w w':=⟨h.os,h.tape,h.output,h.size,λk hk hn=>h.block k hk λhh=>hn (ho k hk hh)⟩
def aH(h:Below w.heap.size w w'):aU O w w':=⟨h.os,h.tape,h.output,h.size,λk hk _=>h.block k hk⟩
def jg{S}(h:cA w.heap.size S w w')(hS:O S):aU O w w':=⟨h.os,h.tape,h.output,h.size,λk hk ho=>h.block k hk λhe=>ho (he▸hS)⟩
def set(h:aU O w w') a v(ho:O a.block):aU O w (w'.setCell a v):=⟨h.os,h.tape,h.output,by have:=h.size;simp[World.setCell];omega,λk hk hn=>(Below.heap_setCell _ _ _ _ (by intro he;apply hn;first|rw[he];exact ho|rw[<-he];exact ho)).trans (h.block k hk hn)⟩
theorem alloc(h:aU O w w') o:aU O w (w'.alloc o):=h.trans (aH ((Below.refl _ _).alloc ν o))
theorem drew(h:aU O w w'):aU O w w'.drew:=h.trans (aH (Below.refl _ _).drew)
def drewN(h:aU O w w') n:aU O w (w'.drewN n):=h.trans (aH (below_drewN (Below.refl _ _) n))
def row{b l}(h:aU O w w')(hr:Row w b l)(hb:¬O b):Row w' b l:=by obtain⟨T,hT⟩:=hr;exact⟨T,by rw[h.block b (Array.getElem?_eq_some_iff.1 hT).1 hb,hT]⟩
def but{B S}(h:aU (λk=>k=S∨O k) w w')(hB:B<=w.heap.size)(ho:∀k,O k->B<=k):cA B S w w':=⟨h.os,h.tape,h.output,h.size,λk hk hs=>h.block k (by omega) λhh=>hh.elim hs λhO=>by have:=ho k hO;omega⟩
end aU
def sr(w:World)(O:Nat->Prop)(rv:Value)(l:List UInt8):Prop:=(rv=.slice none 0 0/\l=[])∨∃g off cap,rv=.slice (some ⟨g,off,none⟩) l.length cap/\l.length<=cap/\O g/\g<w.heap.size/\Bytes w g off l/\∀j,j<cap->(w.cell? ⟨g,off+j,none⟩).isSome=true/\w.frozen? ⟨g,off+j,none⟩=false
namespace sr
variable{w w':World}{O:Nat->Prop}{rv:Value}{l:List UInt8}
def nil w O:sr w O (.slice none 0 0) []:=.inl ⟨rfl,rfl⟩
def same(h:sr w O rv l)(hs:w.heap.size<=w'.heap.size)(hk:∀k,O k->k<w.heap.size->w'.heap[k]? =w.heap[k]?):sr w' O rv l:=by rcases h with h|⟨g,off,cap,h1,h2,h3,h4,h5,h6⟩;exact .inl h;have hb:=hk g h3 h4;refine .inr ⟨g,off,cap,h1,h2,h3,by omega,λj hj=>?_,λj hj=>?_⟩;rw[<-h5 j hj];exact World.cell?_of_block (w:=w) hb;rw[World.cell?_of_block (w:=w) (w':=w') (a:=⟨g,off+j,none⟩) hb,World.frozen?_of_block (w:=w) (w':=w') (a:=⟨g,off+j,none⟩) hb];exact h6 j hj
def alloc(h:sr w O rv l) o:sr (w.alloc o) O rv l:=h.same (by simp) λk _ hk=>Below.heap_alloc _ _ _ hk
def drew(h:sr w O rv l):sr w.drew O rv l:=h
def drewN(h:sr w O rv l) n:sr (w.drewN n) O rv l:=h
def other(h:sr w O rv l){a}(ha:¬O a.block) v:sr (w.setCell a v) O rv l:=h.same (by simp[World.setCell]) λk hk _=>Below.heap_setCell _ _ _ _ (λhe=>ha (he▸hk))
def but{S}(h:sr w O rv l)(hb:cA w.heap.size S w w')(hS:¬O S):sr w' O rv l:=h.same hb.size λk hk hl=>hb.block k hl (λhe=>hS (he▸hk))
def len(h:sr w O rv l):∃a cap,rv=.slice a l.length cap/\l.length<=cap:=by rcases h with⟨h,rfl⟩|⟨g,off,cap,h1,h2,_⟩;exact⟨none,0,h,by simp⟩;exact⟨_,cap,h1,h2⟩
end sr
def aV l:(w8 l).length=l.length:=by simp[w8]
def nS l:∀u∈w8 l,u.oneCell'=true:=by intro u hu;obtain⟨x,_,rfl⟩:=List.mem_map.1 hu;rfl
def oK l m j(h:j<l.length):nth (l++m) j=nth l j:=by unfold nth;rw[List.getD_eq_getElem?_getD,List.getD_eq_getElem?_getD,List.getElem?_append_left h]
def np l m j(h:l.length<=j):nth (l++m) j=nth m (j-l.length):=by unfold nth;rw[List.getD_eq_getElem?_getD,List.getD_eq_getElem?_getD,List.getElem?_append_right h]
theorem rZ b:∀vs o (w:World),(w.setCells b o vs).heap.size=w.heap.size/\(∀k,k≠b->(w.setCells b o vs).heap[k]? =w.heap[k]?)/\(w.setCells b o vs).os=w.os/\(w.setCells b o vs).tape=w.tape/\(w.setCells b o vs).output=w.output
 |[],_,_=>⟨rfl,λ_ _=>rfl,rfl,rfl,rfl⟩|v::r,o,w=>by obtain⟨h1,h2,h3,h4,h5⟩:=rZ b r (o+1) (w.setCell ⟨b,o,none⟩ v);rw[World.setCells];exact⟨by rw[h1];simp[World.setCell],λk hk=>by rw[h2 k hk];exact Below.heap_setCell _ _ _ _ hk,h3,h4,h5⟩
def tr{P} w{ops rest o a Q} (hg:o.guard=none) s x t (cI:o.op=Op.call {callee:=Callee.builtin Builtin.append,args:=#[s,x],argTypes:=#[t,t]}) e i (h1:P.underlying t=some (.slice e)) (h2:P.info? e=some i) (h3:i.zero=some (.int .u8 0)) (h4:i.size=1) (h5:i.bytes=1) O rv l b (hs:a.eval s=rv) (DS:sr w O rv l) (hB:∀k,w.heap.size<=k->O k) gb ob c (hx:a.eval x=.slice (some ⟨gb,ob,none⟩) b.length c) (yO:Bytes w gb ob b) (hm:l.length+b.length<=140737488355328) (hK:∀v' w',sr w' O v' (l++b)->aU O w w'->wpList P ops Q rest (a.put o.dst v') w'):wpList P ops Q (o::rest) a w:=by
 have ajx:l.length+b.length<=maxLen:=by unfold maxLen;omega
 have adn:∀(j:Nat)(u:Value),(w8 b)[j]? =some u->w.cell? (Addr.add ⟨gb,ob,none⟩ j)=some u:=λj u hu=>by
  have hj:j<b.length:=by have:=(List.getElem?_eq_some_iff.1 hu).1;rwa[aV]at this
  rw[Addr.add_lit,yO j hj,<-hu,iX b j hj]
 have X7:∀v' w',w'.ownsRow w.heap.size e 1 v' (l.length+b.length) (w8 l++w8 b)->w.grownBy w' none->0<l.length+b.length->sr w' O v' (l++b)/\aU O w w':=by
  intro v' w' bY jY dX;obtain⟨hlen,hor⟩:=bY;rcases hor with⟨_,h0⟩|⟨g,cap,cur,rfl,hgg,Yf,abL,_,ep,aiZ⟩;omega;refine⟨.inr ⟨g,0,cap,by rw[List.length_append],by rw[List.length_append];exact abL,hB _ (by omega),(Array.getElem?_eq_some_iff.1 Yf).1,λj hj=>?_,λj hj=>?_⟩,aU.aH ((Below.refl w.heap.size w).grown jY ν (λk hk=>by cases hk))⟩;rw[Nat.zero_add];have Hc:j<l.length+b.length:=by rw[List.length_append]at hj;exact hj
  have e1:(w8 (l++b))[j]? =some (.int .u8 (Y (nth (l++b) j))):=iX _ j hj;have e2:w8 (l++b)=w8 l++w8 b:=by simp[w8]
  rw[e2,<-aiZ,Nat.mul_one,List.getElem?_take_of_lt Hc]at e1;simpa[World.cell?,Yf]using e1;have Hc:j<cur.size:=by rw[ep];omega
  simp[World.cell?,World.frozen?,Yf,Hc]
 rcases DS with⟨rfl,rfl⟩|⟨g,off,cap,rfl,abL,hgB,zp,hold,Cc⟩;by_cases hb0:b=[];subst hb0;refine wpList_plain hg λK hK'=>?_;have cD:(Builtin.append_ #[t,t] o.type #[.slice none 0 0,.slice (some ⟨gb,ob,none⟩) 0 c]).run P w=.ok (.slice none 0 0) w:=by have hfc:=run_firstCells_some (P:=P) w i.size 0 ⟨gb,ob,none⟩ 0 c [] (by simp) (by simp);simp[Builtin.append_,run_underlying h1,sizeOf,typeInfo,h2,Builtin.lenOf,hfc]
 unfold Oper.wp;have xN:a.eval x=.slice (some ⟨gb,ob,none⟩) 0 c:=hx;simp[execOp,cI,resolve,invoke,builtin,hs,xN,cD,Result.andThen];exact hK' _ _ (hK _ _ (sr.nil w O) (aU.refl O w));have dX:0<b.length:=List.length_pos_iff.2 hb0;refine wpList_append_grows w hg s x t cI e i _ 1 1 h1 h2 h3 h4 h5 rfl (by decide) none 0 0 [] hs (λ_=>⟨rfl,rfl⟩) rfl (λ_ h=>by cases h) ⟨gb,ob,none⟩ b.length c (w8 b) hx (by rw[aV,Nat.mul_one]) adn (nS b) (by omega) (by simpa using ajx) (by simp at hm|-;omega) ?_;intro v' w' bY jY;have:=X7 v' w' (by simpa[w8]using bY) jY (by simp;omega);exact hK v' w' this.1 this.2;refine wpList_append_arg w hg s x t cI e i _ 1 1 h1 h2 h3 h4 h5 rfl (by decide) g off l.length cap (w8 l) hs (by rw[aV,Nat.mul_one]) (λj u hu=>?_) ⟨gb,ob,none⟩ b.length c (w8 b) hx (by rw[aV,Nat.mul_one]) adn (nS b) (λOa j hj=>?_) ajx (by omega) (λOa=>?_) (λxW v' w' bY jY=>?_);have hj:j<l.length:=by have:=(List.getElem?_eq_some_iff.1 hu).1;rwa[aV]at this
 rw[hold j hj,<-hu,iX l j hj];rw[aV]at hj;rw[Nat.mul_one,Nat.add_assoc];exact Cc _ (by omega);rw[Nat.mul_one];have ai4:∀j,j< (w8 b).length->(w.cell? ⟨g,off+l.length+j,none⟩).isSome=true:=λj hj=>by rw[aV]at hj;rw[Nat.add_assoc];exact(Cc _ (by omega)).1
 have UR:=World.cell?_setCells_in g (w8 b) (off+l.length) w ai4;have oB:=World.cell?_setCells_out g (w8 b) (off+l.length) w;have fS:=World.frozen?_setCells g (w8 b) (off+l.length) w;obtain⟨k1,k2,k3,k4,k5⟩:=rZ g (w8 b) (off+l.length) w;generalize w.setCells g (off+l.length) (w8 b)=w' at UR oB fS k1 k2 k3 k4 k5|-;have hlo:∀j,j<l.length->w'.cell? ⟨g,off+j,none⟩=w.cell? ⟨g,off+j,none⟩:=λj hj=>oB _ (λ_ _=>Or.inl (by show off+j<off+l.length;omega));have hhi:∀j,l.length<=j->j<l.length+b.length->w'.cell? ⟨g,off+j,none⟩=some (.int .u8 (Y (nth b (j-l.length)))):=λj h1 h2=>by
  have hj:j-l.length< (w8 b).length:=by rw[aV];omega
  have:=UR (j-l.length) hj;rw[show off+l.length+(j-l.length)=off+j by omega]at this;rw[this];have e:=iX b (j-l.length) (by omega);rw[List.getElem?_eq_getElem hj]at e;exact e
 refine hK _ w' (.inr ⟨g,off,cap,by rw[List.length_append],by rw[List.length_append];omega,hgB,by omega,λj hj=>?_,λj hj=>?_⟩) ⟨k3,k4,k5,by omega,λk _ hn=>k2 k (λhe=>hn (he▸hgB))⟩;rw[List.length_append]at hj;by_cases hl:j<l.length;rw[hlo j hl,oK _ _ _ hl];exact hold j hl;rw[hhi j (by omega) hj,np _ _ _ (by omega)];refine⟨?_,by rw[fS];exact(Cc j hj).2⟩;by_cases hl:j<l.length;rw[hlo j hl];exact(Cc j hj).1;by_cases h2:j<l.length+b.length;rw[hhi j (by omega) h2];rfl;rw[oB ⟨g,off+j,none⟩ (λ_ _=>Or.inr (by show off+l.length+(w8 b).length<=off+j;rw[aV];omega))];exact(Cc j hj).1;have:=X7 v' w' bY jY (by omega);exact hK v' w' this.1 this.2
end
section
open Go.RowKit bd
def StH(w:World)(S:Nat)(O:Nat->Prop)(k:Nat)(L:List UInt8)(rv:Value):Prop:=Row w S (iL (eM (aQ.blocks k aQ.begin L))++[rv,.int .u64 (U (UInt64.ofNat L.length))])/\sr w O rv (L.drop (64*k))
def St(w:World)(S:Nat)(O:Nat->Prop)(L:List UInt8):Prop:=∃rv,StH w S O (L.length/64) L rv
def Tryz.aiG:(prog.info? 5).map (λi=>(i.zero,i.size,i.bytes))=some (some (.int .u8 0),1,1):=by kernel_rfl
def sr.YJ{w O g off cap l}(h:sr w O (.slice (some ⟨g,off,none⟩) l.length cap) l)(hl:64<=l.length):(cap=64->sr w O (.slice (some ⟨g,off,none⟩) (l.length-64) 0) (l.drop 64))/\(cap≠64->sr w O (.slice (some ⟨g,off+64,none⟩) (l.length-64) (cap-64)) (l.drop 64)):=by rcases h with⟨_,h1⟩|⟨g',ae4,CL,h1,h2,h3,h4,h5,h6⟩;exact absurd hl (by rw[h1];decide);simp only[Value.slice.injEq,Option.some.injEq,Addr.mk.injEq]at h1;obtain⟨⟨rfl,rfl,-⟩,-,rfl⟩:=h1;have hd:(l.drop 64).length=l.length-64:=List.length_drop;refine⟨λhc=>.inr ⟨_,_,0,by rw[hd],by omega,h3,h4,λj hj=>by omega,λj hj=>by omega⟩,λhc=>.inr ⟨_,_,_,by rw[hd],by omega,h3,h4,λj hj=>?_,λj hj=>?_⟩⟩;rw[Nat.add_assoc,h5 (64+j) (by omega)];simp[nth,List.getD_eq_getElem?_getD];rw[Nat.add_assoc];exact h6 _ (by omega)
def StH.next{w S O k M rv rv' n} (hr:Row w S (iL (eM (aQ.block (aQ.blocks k aQ.begin M) ((M.drop (64*k)).take 64)))++[rv,n])) (hb:sr w O rv' ((M.drop (64*k)).drop 64)) (hn:n=.int .u64 (U (UInt64.ofNat M.length))) (QA:¬O S):StH (w.setCell ⟨S,8,none⟩ rv') S O (k+1) M rv':=by subst hn;refine⟨?_,?_⟩;exact hr.set 8 rv';rw[List.drop_drop]at hb;exact hb.other (a:=⟨S,8,none⟩) QA _
def lZ S O L b gb ob c w(aS:St w S O L)(QA:¬O S)(Ym:S≠1)(h1B:¬O 1)(hB:∀k,w.heap.size<=k->O k)(hgS:gb≠S)(yO:Bytes w gb ob b) (hm:L.length+b.length<=70368744177664) (hK:Row w 1 (iL aQ.rounds)):Calls prog 107 #[.pointer (some ⟨S,0,none⟩),.slice (some ⟨gb,ob,none⟩) b.length c] w λe w'=>e=.returned (.tuple #[])/\St w' S O (L++b)/\aU (λk=>k=S∨O k) w w':=by
 obtain⟨i0,fP,oL,kP,ik⟩:=info_parts Tryz.aiG;obtain⟨rv,bQ,DS⟩:=aS;have pe:(iL (eM (aQ.blocks (L.length/64) aQ.begin L))).length=8:=rfl;have c9:w.cell? ⟨S,9,none⟩=some (.int .u64 (U (UInt64.ofNat L.length))):=by rw[bQ.cell,List.getElem?_append_right (by rw[pe];decide),pe];rfl
 have c8:w.cell? ⟨S,8,none⟩=some rv:=by rw[bQ.cell,List.getElem?_append_right (by rw[pe];decide),pe];rfl
 have z8:=bQ.free 8;have z9:=bQ.free 9;have hbw:=DS.other (a:=⟨S,9,none⟩) QA (.int .u64 (U (UInt64.ofNat L.length+UInt64.ofNat b.length)));have XE:(L.drop (64*(L.length/64))).length<=L.length:=by rw[List.length_drop];omega
 obtain⟨ra,AG,hrv,ajc⟩:=DS.len;subst hrv;have XB:=bQ.set 9 (.int .u64 (U (UInt64.ofNat L.length+UInt64.ofNat b.length)));have Xu:(w.setCell ⟨S,9,none⟩ (.int .u64 (U (UInt64.ofNat L.length+UInt64.ofNat b.length)))).heap.size=w.heap.size:=by simp[World.setCell]
 have aj4:=(aU.refl (λk=>k=S∨O k) w).set ⟨S,9,none⟩ (.int .u64 (U (UInt64.ofNat L.length+UInt64.ofNat b.length))) (.inl rfl);have aj2:Bytes (w.setCell ⟨S,9,none⟩ (.int .u64 (U (UInt64.ofNat L.length+UInt64.ofNat b.length)))) gb ob b:=λj hj=>by rw[World.cell?_of_block (Below.heap_setCell _ _ _ _ (show gb≠S from hgS))];exact yO j hj
 generalize UO:L.drop (64*(L.length/64))=r at hbw XE ajc c8 XB bQ;have hRR:=η UO;have H1:=η bQ;have H2:=η DS;have H3:=η XB;have H4:=η hbw;have H5:=η aj2;have H6:=η aj4;have H7:=η pe;have H8:=η Xu;have H9:=η hK;have H10:=η yO;clear UO bQ DS XB hbw aj2 aj4 pe Xu hK yO;go_enter func107,ntmps107;go_wp2_with (at_builtin;refine tr _ rfl _ _ _ rfl 5 i0 underlying35 fP oL kP ik O _ r b rfl H4.o (λk hk=>hB k (by rw[<-H8.o];exact hk)) gb ob c rfl H5.o (by omega) ?_;intro v' w1 Ye Qz;obtain⟨ra1,JO,mq,axM⟩:=Ye.len;subst mq;have agb:=η Ye;have Yh:=η Qz;have y8:w1.cell? ⟨S,8,none⟩=some (.slice ra r.length AG):=(((Qz.row H3.o QA).cell 8).trans rfl);have y8f:w1.frozen? ⟨S,8,none⟩=false:=((Qz.row H3.o QA).free 8);clear Ye Qz)
 have hSA:StH (w1.setCell ⟨S,8,none⟩ (.slice ra1 (r++b).length JO)) S O (L.length/64) (L++b) (.slice ra1 (r++b).length JO):=by
  have XI:=(Yh.o.row H3.o QA).set 8 (.slice ra1 (r++b).length JO);refine⟨?_,?_⟩;rw[aQ.Eg _ _ _ _ (by omega)];have e:UInt64.ofNat (L++b).length=UInt64.ofNat L.length+UInt64.ofNat b.length:=by rw[List.length_append,UInt64.ofNat_add]
  rw[e];exact XI;rw[List.drop_append_of_le_length (by omega),hRR.o];exact agb.o.other (a:=⟨S,8,none⟩) QA _
 have ZX:aU (λk=>k=S∨O k) w (w1.setCell ⟨S,8,none⟩ (.slice ra1 (r++b).length JO)):=(H6.o.trans (Yh.o.weaken λ_ _ h=>.inr h)).set ⟨S,8,none⟩ _ (.inl rfl);have hML:(L++b).length=L.length+b.length:=List.length_append;have hrb:(r++b).length=r.length+b.length:=List.length_append;rw[<-hrb];clear c8 c9 y8 y8f z8 z9 hrb;have hZ:w.heap.size<=(w1.setCell ⟨S,8,none⟩ (.slice ra1 (r++b).length JO)).heap.size:=by exact ZX.size
 generalize(r++b).length=zz at hSA ZX hZ|-;generalize w1.setCell _ _=w2 at hSA ZX hZ|-;have hq:64*(L.length/64)<=(L++b).length:=by omega
 generalize hM:L++b=M at hSA hML hq;have hM':=η hM;have XT:M.length<=70368744177664:=by omega
 have azk:=η hML;clear hM hML;generalize L.length/64=q at hSA hq;have aqW:=η hSA;have arC:=η ZX;clear hSA ZX;go_loopg [] (M.length) (λn wr=>∃(k:Nat)(rv:Value),64*k<=M.length/\M.length-64*k<=n/\StH wr S O k M rv/\aU (λk=>k=S∨O k) w wr/\w.heap.size<=wr.heap.size);exact⟨q,_,hq,by omega,aqW.o,arC.o,hZ⟩;obtain⟨k,rv,hk,hkn,aS,o8,hz⟩:=hrel;obtain⟨bQ,DS⟩:=aS;have pe:(iL (eM (aQ.blocks k aQ.begin M))).length=8:=rfl;have c8:wr.cell? ⟨S,8,none⟩=some rv:=by rw[bQ.cell,List.getElem?_append_right (by rw[pe];decide),pe];rfl
 have z8:=bQ.free 8;obtain⟨ra,AG,hrv,ajc⟩:=DS.len;subst hrv;have H1:=η bQ;have H2:=η DS;clear bQ DS pe;by_cases aM:M.length-64*k<64
 ·have Tt:k=M.length/64:=by omega
  go_wp2_with fail;go_end0;rw[hM'.o];refine⟨rfl,?_,o8⟩;unfold St;rw[<-Tt];exact⟨_,H1.o,H2.o⟩
 rcases H2.o with⟨_,h1⟩|⟨g,off,cap,h1,h2,h3,h4,h5,h6⟩;exact absurd (by rw[<-List.length_drop,h1];decide) aM;simp only[Value.slice.injEq]at h1;obtain⟨rfl,-,rfl⟩:=h1;have abL:64<=AG:=by rw[List.length_drop]at h2;omega
 have H5:=η h5;have H6:=η h6;clear h5 h6;go_wp2_with fail;have akh:((M.drop (64*k)).take 64).length=64:=by rw[List.length_take,List.length_drop];omega
 have TC:Bytes wr g off ((M.drop (64*k)).take 64):=λj hj=>by rw[akh]at hj;rw[H5.o j (by rw[List.length_drop];omega)];simp[nth,List.getD_eq_getElem?_getD,hj]
 refine(LD S g off AG _ _ _ _ akh wr (o8.row H9.o (λh=>h.elim (λh=>Ym h.symm) h1B)).lt H1.o h4 TC (o8.row H9.o (λh=>h.elim (λh=>Ym h.symm) h1B))).mono ?_;rintro e u9⟨rfl,uC,Yd⟩;have y8:u9.cell? ⟨S,8,none⟩=some (.slice (some ⟨g,off,none⟩) (M.drop (64*k)).length AG):=by rw[uC.cell,List.getElem?_append_right (by show 8<=8;decide)];rfl
 have y8f:=uC.free 8;have adI:=η (H2.o.but Yd QA);have R2:=η uC;have B2:=η Yd;clear uC Yd c8 z8;have akN:64<=(M.drop (64*k)).length:=by rw[List.length_drop];omega
 by_cases hc:AG=64
 ·subst hc;go_wp2_with fail;have hn:=StH.next (k:=k) R2.o ((sr.YJ adI.o akN).1 rfl) rfl QA;rw[List.length_drop]at hn;go_roundg (gk-1);exact⟨k+1,_,by omega,by omega,hn,(o8.trans (aU.jg B2.o (.inl rfl))).set ⟨S,8,none⟩ _ (.inl rfl),by have:=B2.o.size;simp[World.setCell];omega⟩;omega
 go_wp2_with fail;have hn:=StH.next (k:=k) R2.o ((sr.YJ adI.o akN).2 hc) rfl QA
 rw[List.length_drop]at hn;go_roundg (gk-1);exact⟨k+1,_,by omega,by omega,hn,(o8.trans (aU.jg B2.o (.inl rfl))).set ⟨S,8,none⟩ _ (.inl rfl),by have:=B2.o.size;simp[World.setCell];omega⟩;omega
def sr.weaken{w O O' rv l}(h:sr w O rv l)(ho:∀k,k<w.heap.size->O k->O' k):sr w O' rv l:=by rcases h with h|⟨g,off,cap,h1,h2,h3,h4,h5,h6⟩;exact .inl h;exact .inr ⟨g,off,cap,h1,h2,ho _ h4 h3,h4,h5,h6⟩
def St.weaken{w S O O' L}(h:St w S O L)(ho:∀k,k<w.heap.size->O k->O' k):St w S O' L:=by obtain⟨rv,h1,h2⟩:=h;exact⟨rv,h1,h2.weaken ho⟩
def St.alloc{w S O L}(h:St w S O L) o:St (w.alloc o) S O L:=by obtain⟨rv,h1,h2⟩:=h;exact⟨rv,h1.alloc o,h2.alloc o⟩
def St.lt{w S O L}(h:St w S O L):S<w.heap.size:=by obtain⟨rv,h1,_⟩:=h;exact h1.lt
def St.alm{w S O L}(h:St w S O L):w.cell? ⟨S,9,none⟩=some (.int .u64 (U (UInt64.ofNat L.length))):=by obtain⟨rv,h1,_⟩:=h;have pe:(iL (eM (aQ.blocks (L.length/64) aQ.begin L))).length=8:=rfl;rw[h1.cell,List.getElem?_append_right (by rw[pe];decide),pe];rfl
def St.aln{w S O L}(h:St w S O L):∃ra AG,w.cell? ⟨S,8,none⟩=some (.slice ra (L.length % 64) AG):=by
 obtain⟨rv,h1,h2⟩:=h;have pe:(iL (eM (aQ.blocks (L.length/64) aQ.begin L))).length=8:=rfl;obtain⟨ra,AG,h3,_⟩:=h2.len;have e:(L.drop (64*(L.length/64))).length=L.length % 64:=by rw[List.length_drop];omega
 rw[e]at h3;exact⟨ra,AG,by rw[h1.cell,List.getElem?_append_right (by rw[pe];decide),pe,h3];rfl⟩
def Bytes.one(w:World) x v(hv:v=Y x) T:Bytes (w.alloc (.cells #[.int .u8 v] T)) w.heap.size 0 [x]:=λj hj=>by
 obtain rfl:j=0:=by simp at hj;omega
 subst hv;exact(Row.new w [.int .u8 (Y x)] T).cell 0
def Bytes.ao7(w:World) o x v(hv:v=Y x) T:Bytes ((w.alloc o).alloc (.cells #[.int .u8 v] T)) (w.heap.size+1) 0 [x]:=by have:=Bytes.one (w.alloc o) x v hv T;rw[World.size_alloc]at this;exact this
def St.keep{w w' S O P L}(h:St w S O L)(hk:aU P w w')(hS:¬P S)(hO:∀k,O k->¬P k):St w' S O L:=by obtain⟨rv,h1,h2⟩:=h;exact⟨rv,hk.row h1 hS,h2.same hk.size λk ho hl=>hk.block k hl (hO k ho)⟩
def aQ.QT N i(h:i<8):nth (aQ.be8 N) i=(shr N (56-8*i)).toUInt8:=by
 match i,h with
 |0,_=>rfl
 |1,_=>rfl
 |2,_=>rfl
 |3,_=>rfl
 |4,_=>rfl
 |5,_=>rfl
 |6,_=>rfl
 |7,_=>rfl
def nH l i m(h:i<l.length):(l.take i++List.replicate (m+1) 0).set i (nth l i)=l.take (i+1)++List.replicate m 0:=by
 have hl:(l.take i).length=i:=by rw[List.length_take];omega
 rw[List.set_append_right _ _ (by omega),hl,Nat.sub_self,List.replicate_succ,List.set_cons_zero];have e:nth l i=l[i]:=by simp[nth,h]
 rw[e,<-List.take_concat_get h,List.concat_eq_append,List.append_assoc,List.singleton_append]
def Dx{P} t e(n:Nat) cs k(i:Int)(h:P.underlying t=some (.array n e)) v(h0:0<=i)(hi:i<n)(hv:cs[i.toNat]? =some v)(hs:∀w,(sizeOf e).run P w=.ok 1 w)(ha:∀w,(isAgg e).run P w=.ok false w) w:(Instr.index t (.agg cs) (.int k i)).run P w=.ok v w:=by simp[Instr.index,run_underlying h,asIntOf,h0,hi,hs,ha,hv,part,go_sem]
def aQ.aaR s i(h:i<8):nth (aQ.out s) (4*i)=(kE (aQ.nw (eM s) i) 24).toUInt8/\nth (aQ.out s) (4*i+1)=(kE (aQ.nw (eM s) i) 16).toUInt8/\nth (aQ.out s) (4*i+2)=(kE (aQ.nw (eM s) i) 8).toUInt8/\nth (aQ.out s) (4*i+3)=(aQ.nw (eM s) i).toUInt8:=by
 match i,h with
 |0,_=>exact⟨rfl,rfl,rfl,rfl⟩
 |1,_=>exact⟨rfl,rfl,rfl,rfl⟩
 |2,_=>exact⟨rfl,rfl,rfl,rfl⟩
 |3,_=>exact⟨rfl,rfl,rfl,rfl⟩
 |4,_=>exact⟨rfl,rfl,rfl,rfl⟩
 |5,_=>exact⟨rfl,rfl,rfl,rfl⟩
 |6,_=>exact⟨rfl,rfl,rfl,rfl⟩
 |7,_=>exact⟨rfl,rfl,rfl,rfl⟩
def alg l i(h:i<8)(hl:l.length=32) a b c d(ha:nth l (4*i)=a)(hb:nth l (4*i+1)=b)(hc:nth l (4*i+2)=c)(hd:nth l (4*i+3)=d):((((w8 (l.take (4*i)++List.replicate (32-4*i) 0)).set (4*i) (.int .u8 (Y a))).set (4*i+1) (.int .u8 (Y b))).set (4*i+2) (.int .u8 (Y c))).set (4*i+3) (.int .u8 (Y d)) =w8 (l.take (4*(i+1))++List.replicate (32-4*(i+1)) 0):=by subst ha hb hc hd;rw[show 32-4*i=(32-4*(i+1))+1+1+1+1 by omega];rw[po,nH _ _ _ (by omega),po,nH _ _ _ (by omega),po,nH _ _ _ (by omega),po,nH _ _ _ (by omega)];rfl
def Tryz.BM:(prog.info? 76).map (λi=>i.size)=some 32:=by kernel_rfl
def Row.setRow{w b l}(h:Row w b l) m:Row (w.setRow b m.toArray) b m:=by obtain⟨T,h⟩:=h;exact⟨T,setRow_heap w b _ _ T _ h⟩
def Row.aG{w b g l}(h:Row w b l)(hb:b≠g) m:Row (w.setRow g m) b l:=by obtain⟨T,h⟩:=h;exact⟨T,by rw[setRow_other w g b m hb];exact h⟩
theorem aU.setRow{O w w'}(h:aU O w w') g m(hg:O g):aU O w (w'.setRow g m):=⟨h.os,h.tape,h.output,by rw[setRow_size];exact h.size,λk hk hn=>(setRow_other w' g k m (λhe=>hn (he▸hg))).trans (h.block k hk hn)⟩
def PZ{ops rest o a w Q}(iW:o.guard=none) x(ho:o.op=.load 76 x) g l (hl:l.length=32) (hx:a.eval x=.pointer (some ⟨g,0,none⟩)) (hr:Row w g (w8 l)) (h:wpList prog ops Q rest (a.put o.dst (.agg (w8 l).toArray)) w):wpList prog ops Q (o::rest) a w:=by obtain⟨T,hT⟩:=hr;exact wpList_load_row iW _ x ho g hx T _ (0,0) _ hT underlying76 rfl (by rw[Tryz.BM,List.size_toArray,aV,hl]) h
def fE{ops rest o a w Q}(iW:o.guard=none) x y(ho:o.op=.store 76 x y) g l m (hl:l.length=32) (hm:m.length=32) (hx:a.eval x=.pointer (some ⟨g,0,none⟩)) (hy:a.eval y=.agg (w8 m).toArray) (hr:Row w g (w8 l)) (h:wpList prog ops Q rest (a.put o.dst undef) (w.setRow g (w8 m).toArray)):wpList prog ops Q (o::rest) a w:=by obtain⟨T,hT⟩:=hr;refine wpList_store_row iW _ x y ho g _ hx hy T _ hT (by rw[Tryz.BM,List.size_toArray,aV,hm]) (by rw[List.size_toArray,List.size_toArray,aV,aV,hl,hm]) ?_ h;rw[List.all_toArray];exact List.all_eq_true.2 (nS m)
def Ro S O L w(aS:St w S O L)(QA:¬O S)(Ym:S≠1)(h1B:¬O 1)(hB:∀k,w.heap.size<=k->O k) (hm:L.length<=35184372088832) (hK:Row w 1 (iL aQ.rounds)):Calls prog 108 #[.pointer (some ⟨S,0,none⟩)] w λe w'=>e=.returned (.agg (w8 (aQ.sum L)).toArray)/\aU (λk=>k=S∨O k) w w':=by
 have c9:∀o,(w.alloc o).cell? ⟨S,9,none⟩=some (.int .u64 (U (UInt64.ofNat L.length))):=λo=>(aS.alloc o).alm;have hSl:=aS.lt;have hKl:=hK.lt;have HST:=η aS;have H9:=η hK;clear hK aS;go_enter func108,ntmps108;go_wp2_with fail;refine(lZ S (λk=>O k/\k≠w.heap.size) L [128] (w.heap.size+1) 0 1 _ (((HST.o.weaken λk hk ho=>⟨ho,by omega⟩).alloc _).alloc _) (λh=>QA h.1) Ym (λh=>h1B h.1) (λk hk=>⟨hB k (by simp at hk;omega),by simp at hk;omega⟩) (by omega) ?_ (by simp;omega) ((H9.o.alloc _).alloc _)).mono ?_
 exact Bytes.ao7 w _ 128 128 rfl _;rintro e w2⟨rfl,mJ,wE⟩;have UP:aU (λk=>k=S∨O k) w w2:=(((aU.refl _ w).alloc _).alloc _).trans (wE.weaken λk _ h=>h.imp id (λh=>h.1));have KR:=wE.row ((Row.new w (w8 (List.replicate 32 0)) _).alloc _) (λh=>h.elim (λh=>by omega) (λh=>h.2 rfl));have rQ:w.heap.size+2<=w2.heap.size:=by have:=wE.size;simpa using this
 clear wE c9;have K2:=η UP;have R2:=η KR;have S2:=η mJ;clear UP KR mJ;go_wp2_with fail;go_loopg [] (aQ.lY L.length) (λn wr=>∃j:Nat,j<=aQ.lY L.length/\aQ.lY L.length-j<=n/\St wr S (λk=>O k/\k≠w.heap.size) (L++[128]++List.replicate j 0)/\aU (λk=>k=S∨O k) w wr/\Row wr w.heap.size (w8 (List.replicate 32 0))/\w.heap.size+2<=wr.heap.size);exact⟨0,by omega,by omega,by rw[List.replicate_zero,List.append_nil];exact S2.o,K2.o,R2.o,rQ⟩;obtain⟨j,hj,hjn,aS,hk,hR,hz⟩:=hrel;obtain⟨ra,AG,c8⟩:=aS.aln;have hM:(L++[128]++List.replicate j (0:UInt8)).length=L.length+1+j:=by simp;omega
 rw[hM]at c8;have ajv:(L.length+1+j) % 64=56↔j=aQ.lY L.length:=by unfold aQ.lY at hj|-;omega
 have HS:=η aS;have HK:=η hk;have HR:=η hR;clear aS hk hR;by_cases hjz:j=aQ.lY L.length
 ·have he:=ajv.2 hjz;go_wp2_with fail;have hAR:Row (wr.alloc (.cells (w8 (List.replicate 8 0)).toArray 195)) wr.heap.size (w8 (List.replicate 8 0)):=Row.new wr _ _;have Xy:=(HS.o.weaken (O':=λk=>O k/\k≠w.heap.size/\k≠wr.heap.size) (λk hk ho=>⟨ho.1,ho.2,by omega⟩)).alloc (.cells (w8 (List.replicate 8 0)).toArray 195);have Qs:=HK.o.alloc (.cells (w8 (List.replicate 8 0)).toArray 195);have hR1:=HR.o.alloc (.cells (w8 (List.replicate 8 0)).toArray 195);have hN:UInt64.ofNat L.length*iY 8=UInt64.ofNat (8*L.length):=by rw[show iY 8=UInt64.ofNat 8 from rfl,<-UInt64.ofNat_mul,Nat.mul_comm]
  rw[hN];have e8:(w8 (List.replicate 8 0)).toArray=#[.int .u8 0,.int .u8 0,.int .u8 0,.int .u8 0,.int .u8 0,.int .u8 0,.int .u8 0,.int .u8 0]:=by kernel_rfl
  rw[e8]at hAR Xy Qs hR1;have hA1:wr.heap.size< (wr.alloc (.cells #[.int .u8 0,.int .u8 0,.int .u8 0,.int .u8 0,.int .u8 0,.int .u8 0,.int .u8 0,.int .u8 0] 195)).heap.size:=by simp
  generalize hNe:UInt64.ofNat (8*L.length)=N;have hNN:=η hNe;clear hNe;generalize wr.alloc _=wa at hAR Xy Qs hR1 hA1|-;generalize hA:wr.heap.size=A at hAR Xy hA1|-;have q1:=η hAR;have q2:=η Xy;have q3:=η Qs;have q4:=η hR1;have q5:=η hA;have ZM:w.heap.size+2<=A:=by omega
  clear hAR Xy Qs hR1 hA c8;obtain⟨wq,rfl⟩:∃wq:World,wq=wr:=⟨_,rfl⟩;go_loopw [26] (λv wl=>∃i:Nat,i<=8/\v=.int .i64 i/\Row wl A (w8 ((aQ.be8 N).take i++List.replicate (8-i) 0))/\aU (λk=>k=A) wa wl) (λv _=>8-(intOf v).toNat);exact⟨0,by omega,rfl,q1.o,aU.refl _ _⟩;obtain⟨i,hi,rfl,bQ,hk⟩:=hrel;by_cases aM:i<8
  ·have pe:(w8 ((aQ.be8 N).take i++List.replicate (8-i) 0)).length=8:=by simp[w8,aQ.be8];omega
   have cw:∃v,wr.cell? ⟨A,i,none⟩=some v:=⟨_,by rw[bQ.cell];exact List.getElem?_eq_getElem (by omega)⟩;obtain⟨u,cu⟩:=cw;have fz:=bQ.free i;have g1:=η bQ;have g2:=η hk;clear bQ hk pe;have p0:(0:Int)<=56-8*(i:Int):=by omega
   have p1:(i:Int)<8:=by omega
   go_wp2_with fail;refine⟨⟨i+1,by omega,by go_num,?_,g2.o.set ⟨A,i,none⟩ _ rfl⟩,by simp[intOf];omega⟩
   have:=g1.o.set i (.int .u8 (Y (shr N (56-8*i)).toUInt8));rw[show 8-i=(8-(i+1))+1 by omega,po,<-aQ.QT N i aM,nH _ _ _ (by show i<8;exact aM)]at this;rw[aQ.QT N i aM]at this;exact this
  obtain rfl:i=8:=by omega
  rw[show((8:Nat):Int)=8 from rfl];have ek:aU (λk=>k=S∨O k) w wr:=q3.o.trans (hk.weaken λk _ h=>.inr (hB k (by have h':k=A:=h;omega)));have es:St wr S (λk=>O k/\k≠w.heap.size/\k≠A) (L++[128]++List.replicate j 0):=q2.o.keep hk (λh:S=A=>by omega) (λk h=>h.2.2);have er:Row wr w.heap.size (w8 (List.replicate 32 0)):=hk.row q4.o (λh:w.heap.size=A=>by omega);have ea:Bytes wr A 0 (aQ.be8 N):=λj hj=>by have:=bQ.cell j;rw[List.take_of_length_le (Nat.le_refl 8),Nat.sub_self,List.replicate_zero,List.append_nil]at this;rw[Nat.zero_add,this];exact iX _ j hj
  have ez:=hk.size;have ajq:L++[128]++List.replicate j (0:UInt8)++aQ.be8 N=aQ.pad L:=by rw[hjz,<-hNN.o];rfl
  have hzz:aQ.lY L.length<64:=by unfold aQ.lY;omega
  have hpl:(L++[128]++List.replicate j (0:UInt8)).length+(aQ.be8 N).length<=70368744177664:=by rw[hM];show _+8<=_;omega
  have hw0:w.heap.size<A:=by omega
  have hpa:=η ajq;have Fo:=es.lt;have E1:=η ek;have E2:=η er;have E3:=η es;have E4:=η ea;clear ek er es ea ajq bQ hk;go_wp2_with fail;refine(lZ S (λk=>O k/\k≠w.heap.size/\k≠A) _ (aQ.be8 N) A 0 8 wr E3.o (λh=>QA h.1) Ym (λh=>h1B h.1) (λk hk=>⟨hB k (by omega),by omega,by omega⟩) (by omega) E4.o hpl (E1.o.row H9.o (λh=>h.elim (λh=>Ym h.symm) h1B))).mono ?_;rintro e w4⟨rfl,ai3,hk4⟩;rw[hpa.o]at ai3;have er4:=hk4.row E2.o (λh=>h.elim (λh=>by omega) (λh=>h.2.1 rfl));have ek4:aU (λk=>k=S∨O k) w w4:=E1.o.trans (hk4.weaken λk _ h=>h.imp id (λh=>h.1));have ez4:wr.heap.size<=w4.heap.size:=hk4.size;obtain⟨rv4,hs4,_⟩:=ai3;have qb:∀j,j<8->w4.cell? ⟨S,j,none⟩=some (.int .u32 (V (aQ.nw (eM (aQ.blocks ((aQ.pad L).length/64) aQ.begin (aQ.pad L))) j))):=λj hj=>by rw[hs4.cell,List.getElem?_append_left (by simp[iL,eM];omega),qF _ _ (by simp[eM];omega)]
  generalize BY:aQ.blocks ((aQ.pad L).length/64) aQ.begin (aQ.pad L)=s at hs4 qb;have ai2:Hid (aQ.sum L=aQ.out s):=η (by rw[<-BY];rfl);clear BY;have c0:=qb 0 (by omega);have c1:=qb 1 (by omega);have c2:=qb 2 (by omega);have c3:=qb 3 (by omega);have c4:=qb 4 (by omega);have c5:=qb 5 (by omega);have c6:=qb 6 (by omega);have c7:=qb 7 (by omega);simp only[show aQ.nw (eM s) 0=s.a from rfl,show aQ.nw (eM s) 1=s.b from rfl,show aQ.nw (eM s) 2=s.c from rfl,show aQ.nw (eM s) 3=s.d from rfl,show aQ.nw (eM s) 4=s.e from rfl,show aQ.nw (eM s) 5=s.f from rfl,show aQ.nw (eM s) 6=s.g from rfl,show aQ.nw (eM s) 7=s.h from rfl]at c0 c1 c2 c3 c4 c5 c6 c7;have axL:=hs4.lt;have F1:=η er4;have F2:=η ek4;clear qb hs4 er4 ek4 hk4;go_wp2_with fail;have hD:Row (w4.alloc (.cells (w8 (List.replicate 32 0)).toArray 76)) w4.heap.size (w8 (List.replicate 32 0)):=Row.new w4 _ _;have hk5:=F2.o.alloc (.cells (w8 (List.replicate 32 0)).toArray 76);have hR5:=F1.o.alloc (.cells (w8 (List.replicate 32 0)).toArray 76);have e32:(w8 (List.replicate 32 0)).toArray=#[.int .u8 0,.int .u8 0,.int .u8 0,.int .u8 0,.int .u8 0,.int .u8 0,.int .u8 0,.int .u8 0,.int .u8 0,.int .u8 0,.int .u8 0,.int .u8 0,.int .u8 0,.int .u8 0,.int .u8 0,.int .u8 0,.int .u8 0,.int .u8 0,.int .u8 0,.int .u8 0,.int .u8 0,.int .u8 0,.int .u8 0,.int .u8 0,.int .u8 0,.int .u8 0,.int .u8 0,.int .u8 0,.int .u8 0,.int .u8 0,.int .u8 0,.int .u8 0]:=by kernel_rfl
  rw[e32]at hD hk5 hR5;clear e32;generalize w4.alloc _=w5 at hD hk5 hR5|-;have hRD:w.heap.size<w4.heap.size:=by omega
  have hDB:w.heap.size<=w4.heap.size:=by omega
  generalize w4.heap.size=D at hD hRD hDB|-;clear c0 c1 c2 c3 c4 c5 c6 c7;have ep:#[Value.int .u32 (V s.a),.int .u32 (V s.b),.int .u32 (V s.c),.int .u32 (V s.d),.int .u32 (V s.e),.int .u32 (V s.f),.int .u32 (V s.g),.int .u32 (V s.h)]=(iL (eM s)).toArray:=rfl;have ajF:∀i:Nat,i<8->∀w':World,(Instr.index 169 (.agg #[Value.int .u32 (V s.a),.int .u32 (V s.b),.int .u32 (V s.c),.int .u32 (V s.d),.int .u32 (V s.e),.int .u32 (V s.f),.int .u32 (V s.g),.int .u32 (V s.h)]) (.int .i64 (i:Int))).run prog w'=.ok (.int .u32 (V (aQ.nw (eM s) i))) w':=λi hi w'=>Dx _ 168 8 _ _ _ underlying169 _ (by omega) (by omega) (by rw[ep,Int.toNat_natCast,List.getElem?_toArray];exact qF _ _ hi) (λ_=>by kernel_rfl) (λ_=>by kernel_rfl) _;have asq:=η ajF;have P1:=η hD;have P2:=η hk5;have P3:=η hR5;clear ajF ep hD hk5 hR5;obtain⟨wp,rfl⟩:∃wp:World,wp=wr:=⟨_,rfl⟩;go_loopw [45] (λv wl=>∃i:Nat,i<=8/\v=.int .i64 i/\Row wl D (w8 ((aQ.out s).take (4*i)++List.replicate (32-4*i) 0))/\aU (λk=>k=D) w5 wl) (λv _=>8-(intOf v).toNat);exact⟨0,by omega,rfl,P1.o,aU.refl _ _⟩;obtain⟨i,hi,rfl,bQ,hk⟩:=hrel;by_cases aM:i<8
  ·have hx:=asq.o i aM;have g1:=η bQ;have g2:=η hk;have pe:(w8 ((aQ.out s).take (4*i)++List.replicate (32-4*i) 0)).length=32:=by simp[w8,aQ.iD];omega
   have cw:∀j,j<32->∃v,wr.cell? ⟨D,j,none⟩=some v:=λj hj=>⟨_,by rw[bQ.cell];exact List.getElem?_eq_getElem (by omega)⟩;obtain⟨u0,d0⟩:=cw (4*i) (by omega);obtain⟨u1,d1⟩:=cw (4*i+1) (by omega);obtain⟨u2,d2⟩:=cw (4*i+2) (by omega);obtain⟨u3,d3⟩:=cw (4*i+3) (by omega);have z0:=bQ.free (4*i);have z1:=bQ.free (4*i+1);have z2:=bQ.free (4*i+2);have z3:=bQ.free (4*i+3);clear bQ hk pe cw;have p0:(0:Int)<=4*(i:Int):=by omega
   have p1:4*(i:Int)<32:=by omega
   have p2:4*(i:Int)+1<32:=by omega
   have p3:4*(i:Int)+2<32:=by omega
   have p4:4*(i:Int)+3<32:=by omega
   go_wp2_with fail;refine⟨⟨i+1,by omega,by go_num,?_,(((g2.o.set ⟨D,4*i,none⟩ _ rfl).set ⟨D,4*i+1,none⟩ _ rfl).set ⟨D,4*i+2,none⟩ _ rfl).set ⟨D,4*i+3,none⟩ _ rfl⟩,by simp[intOf];omega⟩
   obtain⟨q0,q1,q2,q3⟩:=aQ.aaR s i aM;have:=(((g1.o.set (4*i) (.int .u8 (Y (kE (aQ.nw (eM s) i) 24).toUInt8))).set (4*i+1) (.int .u8 (Y (kE (aQ.nw (eM s) i) 16).toUInt8))).set (4*i+2) (.int .u8 (Y (kE (aQ.nw (eM s) i) 8).toUInt8))).set (4*i+3) (.int .u8 (Y (aQ.nw (eM s) i).toUInt8));rw[alg _ i aM (aQ.iD s) _ _ _ _ q0 q1 q2 q3]at this;exact this
  obtain rfl:i=8:=by omega
  rw[show((8:Nat):Int)=8 from rfl];have kQ:Row wr D (w8 (aQ.out s)):=by have:=bQ;rw[List.take_of_length_le (by rw[aQ.iD];decide)]at this;simpa using this
  have XH:=hk.row P3.o (λh:w.heap.size=D=>by omega);go_wp2_with (first|(with_reducible refine PZ (o:=⟨some 76,_,_,_,_,_⟩) rfl _ rfl D (aQ.out s) (aQ.iD s) rfl kQ ?_)|(with_reducible refine fE (o:=⟨none,_,_,_,_,_⟩) rfl _ _ rfl w.heap.size (List.replicate 32 0) (aQ.out s) rfl (aQ.iD s) rfl rfl XH ?_))
  rw[ai2.o];have UP:=(P2.o.trans (hk.weaken λk hk he=>.inr (hB k (by have Qv:k=D:=he;omega)))).setRow w.heap.size (w8 (aQ.out s)).toArray (.inr (hB _ ν));obtain⟨T2,Cj⟩:=XH.setRow (w8 (aQ.out s));exact bodyPost_ret (v:=.agg (w8 (aQ.out s)).toArray) (results_cell_row (fn:=Tryz.f108) rfl _ _ w.heap.size T2 _ (0,0) _ rfl Cj underlying76 rfl (by rw[Tryz.BM,List.size_toArray,aV,aQ.iD])) rfl ⟨rfl,UP⟩
 have he:(L.length+1+j) % 64≠56:=λh=>hjz (ajv.1 h);have hzz:aQ.lY L.length<64:=by unfold aQ.lY;omega
 go_wp2_with fail;refine(lZ S (λk=>O k/\k≠w.heap.size) _ [0] wr.heap.size 0 1 _ (HS.o.alloc _) (λh=>QA h.1) Ym (λh=>h1B h.1) (λk hk=>⟨hB k (by simp at hk;omega),by simp at hk;omega⟩) (by omega) (Bytes.one wr 0 0 rfl _) (by rw[hM];simp;omega) ((HK.o.row H9.o (λh=>h.elim (λh=>Ym h.symm) h1B)).alloc _)).mono ?_
 rintro e w3⟨rfl,afw,DO⟩;have hs3:wr.heap.size+1<=w3.heap.size:=by have:=DO.size;simpa using this
 have Hg:=DO.row (HR.o.alloc _) (λh=>h.elim (λh=>by omega) (λh=>h.2 rfl));have hK3:aU (λk=>k=S∨O k) w w3:=(HK.o.alloc _).trans (DO.weaken λk _ h=>h.imp id (λh=>h.1));have e3:L++[128]++List.replicate j (0:UInt8)++[0]=L++[128]++List.replicate (j+1) 0:=by rw[List.append_assoc,List.replicate_succ']
 rw[e3]at afw;have A3:=η afw;have B3:=η Hg;have C3:=η hK3;clear afw Hg hK3 DO c8;go_wp2_with fail;go_roundg (gk-1);exact⟨j+1,by omega,by omega,A3.o,C3.o,B3.o,by omega⟩;omega
def eJ{P ops rest o a w Q}(iW:o.guard=none) src dst e x(ho:o.op=.convert src dst x) g off n cap l (hl:l.length=n) (hx:a.eval x=.slice (some ⟨g,off,none⟩) n cap) (hs:P.underlying src=some (.slice e)) (he:P.underlying e=some (.int .u8)) (hd:P.underlying dst=some .string) (hb:Bytes w g off l) (h:wpList P ops Q rest (a.put o.dst (.string (str l))) w):wpList P ops Q (o::rest) a w:=by subst hl;refine lG iW ?_ h;unfold execOp;simp only[ho,hx];rw[Sem.run_bind,jK w src dst e g off cap l hs he hd hb];rfl
def Row.bytes{w b l}(h:Row w b (w8 l)):Bytes w b 0 l:=λj hj=>by rw[Nat.zero_add,h.cell,iX l j hj]
def aQ.fQ l:(aQ.sum l).length=32:=aQ.iD _
def uS{P} w src dst e l(hs:P.underlying src=some .string)(hd:P.underlying dst=some (.slice e))(he:P.underlying e=some (.int .u8)):∃cap w',(convert src dst (.string (str l))).run P w=.ok (.slice (some ⟨w.heap.size,0,none⟩) l.length cap) w'/\Below w.heap.size w w'/\Bytes w' w.heap.size 0 l/\w'.heap.size=w.heap.size+1:=by
 refine⟨_,_,(by have:=run_bytes_of_string w src dst e (str l) hs hd he;rw[ie]at this;exact this),((Below.refl _ _).drew).alloc ν _,λj hj=>?_,by simp⟩;have e1:∀(C:Array Value)(fr:Nat×Nat),(w.drew.alloc (.cells C e fr)).heap[w.heap.size]? =some (.cells C e fr):=λC fr=>by show(w.heap.push _)[w.heap.size]? =_;rw[Array.getElem?_push_size]
 simp only[World.cell?,e1,Nat.zero_add,bytesRow];rw[Array.getElem?_append_left (by simp[str];exact hj)];simp[str,nth,hj,Y]
def yj(w:World)(b o:Nat)(ps:List (List UInt8)):Prop:=∀j,j<ps.length->w.cell? ⟨b,o+j,none⟩=some (.string (str (ps.getD j [])))
def yj.below{B b o ps w w'}(hr:yj w b o ps)(h:Below B w w')(hb:b<B):yj w' b o ps:=λj hj=>by rw[<-hr j hj];exact World.cell?_of_block (w:=w) (h.block b hb)
def join(ps:List (List UInt8)):List UInt8:=ps.flatten
def Td(ps:List (List UInt8)) i(h:i<ps.length):join (ps.take (i+1))=join (ps.take i)++ps.getD i []:=by unfold join;rw[List.take_succ_eq_append_getElem h,List.flatten_append,List.getD_eq_getElem?_getD,List.getElem?_eq_getElem h];simp
def join_le ps i:(join (ps.take i)).length<=(join ps).length:=by
 have:join ps=join (ps.take i)++join (ps.drop i):=by unfold join;rw[<-List.flatten_append,List.take_append_drop]
 rw[this,List.length_append];omega
def cH(w:World):Prop:=Row w 0 (iL (eM aQ.begin))/\Row w 1 (iL aQ.rounds)
theorem cH.below{B w w'}(h:cH w)(hb:Below B w w')(hB:1<B):cH w':=⟨h.1.below hb (by omega),h.2.below hb hB⟩
theorem cH.lt{w}(h:cH w):1<w.heap.size:=h.2.lt
def aU.below{O w w'}(h:aU O w w') B(hB:B<=w.heap.size)(ho:∀k,k<B->¬O k):Below B w w':=⟨h.os,h.tape,h.output,h.size,λk hk=>h.block k (by omega) (ho k hk)⟩
def sX b o c ps w(hT:cH w)(hb:b<w.heap.size)(hp:yj w b o ps)(hm:(join ps).length<=35184372088832)(hn:ps.length<=9223372036854775807):Calls prog 66 #[.slice (some ⟨b,o,none⟩) ps.length c] w λe w'=>e=.returned (.agg (w8 (aQ.sum (join ps))).toArray)/\Below w.heap.size w w':=by
 have h1:=hT.lt;have qb:∀j,j<8->(w.alloc (.cells (w8 (List.replicate 32 0)).toArray 76)).cell? ⟨0,j,none⟩=some (.int .u32 (V (aQ.nw (eM aQ.begin) j))):=λj hj=>by rw[(hT.1.alloc _).cell,qF _ _ (by simp[eM];omega)]
 have e32:(w8 (List.replicate 32 0)).toArray=#[.int .u8 0,.int .u8 0,.int .u8 0,.int .u8 0,.int .u8 0,.int .u8 0,.int .u8 0,.int .u8 0,.int .u8 0,.int .u8 0,.int .u8 0,.int .u8 0,.int .u8 0,.int .u8 0,.int .u8 0,.int .u8 0,.int .u8 0,.int .u8 0,.int .u8 0,.int .u8 0,.int .u8 0,.int .u8 0,.int .u8 0,.int .u8 0,.int .u8 0,.int .u8 0,.int .u8 0,.int .u8 0,.int .u8 0,.int .u8 0,.int .u8 0,.int .u8 0]:=by kernel_rfl
 rw[e32]at qb;have c0:=qb 0 (by omega);have c1:=qb 1 (by omega);have c2:=qb 2 (by omega);have c3:=qb 3 (by omega);have c4:=qb 4 (by omega);have c5:=qb 5 (by omega);have c6:=qb 6 (by omega);have c7:=qb 7 (by omega);have HT:=η hT;have HP:=η hp;clear hT hp qb e32;go_enter func66,ntmps66;go_wp2_with fail;have hW:∀(o1:Obj)(T:TypeId),Row ((w.alloc o1).alloc (.cells (iL (eM aQ.begin)++[Value.slice none 0 0,Value.int .u64 (U (UInt64.ofNat 0))]).toArray T)) (w.heap.size+1) (iL (eM aQ.begin)++[Value.slice none 0 0,Value.int .u64 (U (UInt64.ofNat 0))]):=λo1 T=>by have:=Row.new (w.alloc o1) (iL (eM aQ.begin)++[Value.slice none 0 0,Value.int .u64 (U (UInt64.ofNat 0))]) T;rwa[World.size_alloc]at this
 have hS:=hW (.cells (w8 (List.replicate 32 0)).toArray 76) 171;have hR:Row ((w.alloc (.cells (w8 (List.replicate 32 0)).toArray 76)).alloc (.cells (iL (eM aQ.begin)++[Value.slice none 0 0,Value.int .u64 (U (UInt64.ofNat 0))]).toArray 171)) w.heap.size (w8 (List.replicate 32 0)):=(Row.new w _ _).alloc _;have hB:Below w.heap.size w ((w.alloc (.cells (w8 (List.replicate 32 0)).toArray 76)).alloc (.cells (iL (eM aQ.begin)++[Value.slice none 0 0,Value.int .u64 (U (UInt64.ofNat 0))]).toArray 171)):=((Below.refl _ _).alloc ν _).alloc (by simp) _;have hZ:((w.alloc (.cells (w8 (List.replicate 32 0)).toArray 76)).alloc (.cells (iL (eM aQ.begin)++[Value.slice none 0 0,Value.int .u64 (U (UInt64.ofNat 0))]).toArray 171)).heap.size=w.heap.size+2:=by simp
 have ea:(.cells (w8 (List.replicate 32 0)).toArray 76:Obj)=.cells #[.int .u8 0,.int .u8 0,.int .u8 0,.int .u8 0,.int .u8 0,.int .u8 0,.int .u8 0,.int .u8 0,.int .u8 0,.int .u8 0,.int .u8 0,.int .u8 0,.int .u8 0,.int .u8 0,.int .u8 0,.int .u8 0,.int .u8 0,.int .u8 0,.int .u8 0,.int .u8 0,.int .u8 0,.int .u8 0,.int .u8 0,.int .u8 0,.int .u8 0,.int .u8 0,.int .u8 0,.int .u8 0,.int .u8 0,.int .u8 0,.int .u8 0,.int .u8 0] 76:=by kernel_rfl
 have eb:(.cells (iL (eM aQ.begin)++[Value.slice none 0 0,Value.int .u64 (U (UInt64.ofNat 0))]).toArray 171:Obj)=.cells #[.int .u32 (V (aQ.nw (eM aQ.begin) 0)),.int .u32 (V (aQ.nw (eM aQ.begin) 1)),.int .u32 (V (aQ.nw (eM aQ.begin) 2)),.int .u32 (V (aQ.nw (eM aQ.begin) 3)),.int .u32 (V (aQ.nw (eM aQ.begin) 4)),.int .u32 (V (aQ.nw (eM aQ.begin) 5)),.int .u32 (V (aQ.nw (eM aQ.begin) 6)),.int .u32 (V (aQ.nw (eM aQ.begin) 7)),.slice none 0 0,.int .u64 0] 171:=rfl;rw[ea,eb]at hS hR hB hZ;clear hW ea eb c0 c1 c2 c3 c4 c5 c6 c7;generalize(w.alloc _).alloc _=w1 at hS hR hB hZ|-;have aS:St w1 (w.heap.size+1) (λk=>w.heap.size<=k/\k≠w.heap.size/\k≠w.heap.size+1) []:=⟨_,hS,sr.nil w1 _⟩;have A1:=η aS;have A2:=η hR;have A3:=η hB;have hZ':w.heap.size+2<=w1.heap.size:=by omega
 clear aS hS hR hB hZ;go_loopw [11] (λv wr=>∃i:Nat,i<=ps.length/\v=.int .i64 i/\St wr (w.heap.size+1) (λk=>w.heap.size<=k/\k≠w.heap.size/\k≠w.heap.size+1) (join (ps.take i))/\Row wr w.heap.size (w8 (List.replicate 32 0))/\Below w.heap.size w wr/\w.heap.size+2<=wr.heap.size) (λv _=>ps.length-(intOf v).toNat);exact⟨0,by omega,rfl,A1.o,A2.o,A3.o,hZ'⟩;obtain⟨i,hi,rfl,aS,hR,hB,hz⟩:=hrel;by_cases aM:i<ps.length
 ·have cp:=(HP.o.below hB hb) i aM;have L5:=Td ps i aM;obtain⟨p,hp⟩:∃p,p=ps.getD i []:=⟨_,rfl⟩;rw[<-hp]at cp L5;clear hp;obtain⟨cap,wc,oM,uH,yO,lU⟩:=uS (P:=prog) wr 9 35 5 p underlying9 underlying35 underlying5;have B1:=η aS;have B2:=η hR;have B3:=η hB;have B4:=η uH;have B5:=η yO;have axE:wr.heap.size<wc.heap.size:=by omega
  have hjm:=join_le ps (i+1);rw[L5,List.length_append]at hjm;have B6:=η L5;clear aS hR hB uH yO lU L5;go_wp2_with fail;refine(lZ (w.heap.size+1) (λk=>w.heap.size<=k/\k≠w.heap.size/\k≠w.heap.size+1) (join (ps.take i)) p wr.heap.size 0 cap wc (B1.o.keep (aU.aH B4.o) (λh=>h) (λ_ _ h=>h)) (λh=>h.2.2 rfl) (by omega) (λh=>by have:=h.1;omega) (λk hk=>⟨by omega,by omega,by omega⟩) (by omega) B5.o (by omega) ((HT.o.below B3.o (by omega)).2.below B4.o (by omega))).mono ?_;rintro e w2⟨rfl,mJ,wE⟩;have Fu:Below w.heap.size w w2:=(B3.o.trans (B4.o.mono (by omega))).trans (wE.below _ (by omega) (λk hk h=>h.elim (λh=>by omega) (λh=>by omega)));have KR:=wE.row (B2.o.below B4.o (by omega)) (λh=>h.elim (λh=>by omega) (λh=>h.2.1 rfl));have rQ:w.heap.size+2<=w2.heap.size:=by have:=wE.size;omega
  rw[<-B6.o]at mJ;go_wp2_with fail;go_roundw
  ·exact⟨i+1,by omega,by go_num,mJ,KR,Fu,rQ⟩
  simp[intOf];omega
 obtain rfl:i=ps.length:=by omega
 rw[List.take_of_length_le ν]at aS;have B1:=η aS;have B2:=η hR;have B3:=η hB;have hz':=hz;clear aS hR hB;go_wp2_with fail;refine(Ro (w.heap.size+1) (λk=>w.heap.size<=k/\k≠w.heap.size/\k≠w.heap.size+1) (join ps) wr B1.o (λh=>h.2.2 rfl) (by omega) (λh=>by have:=h.1;omega) (λk hk=>⟨by omega,by omega,by omega⟩) hm (HT.o.below B3.o (by omega)).2).mono ?_;rintro e w2⟨rfl,wE⟩;have Fu:Below w.heap.size w w2:=B3.o.trans (wE.below _ (by omega) (λk hk h=>h.elim (λh=>by omega) (λh=>by omega)));have KR:=wE.row B2.o (λh=>h.elim (λh=>by omega) (λh=>h.2.1 rfl));have C1:=η Fu;clear wE Fu;go_wp2_with (with_reducible refine fE (o:=⟨none,_,_,_,_,_⟩) rfl _ _ rfl w.heap.size (List.replicate 32 0) (aQ.sum (join ps)) rfl (aQ.fQ _) rfl rfl KR ?_);obtain⟨T2,Cj⟩:=KR.setRow (w8 (aQ.sum (join ps)));have il:Below w.heap.size w (w2.setRow w.heap.size (w8 (aQ.sum (join ps))).toArray):=
  C1.o.trans (((aU.refl (λk=>k=w.heap.size) w2).setRow w.heap.size _ rfl).below _ (by have:=C1.o.size;omega) (λk hk he=>by have Qv:k=w.heap.size:=he;omega))
 exact bodyPost_ret (v:=.agg (w8 (aQ.sum (join ps))).toArray) (results_cell_row (fn:=Tryz.f66) rfl _ _ w.heap.size T2 _ (0,0) _ rfl Cj underlying76 rfl (by rw[Tryz.BM,List.size_toArray,aV];exact congrArg some (aQ.fQ _).symm)) rfl ⟨rfl,il⟩
def uq l:join [l]=l:=by simp[join]
def uo l m:join [l,m]=l++m:=by simp[join]
def KC b c l w(hT:cH w)(hc:w.cell? ⟨b,0,none⟩=some (.string (str l)))(hm:l.length<=35184372088832):Calls prog 66 #[.slice (some ⟨b,0,none⟩) 1 c] w λe w'=>e=.returned (.agg (w8 (aQ.sum l)).toArray)/\Below w.heap.size w w':=by
 have:=sX b 0 c [l] w hT (block_lt_of_cell hc) (λj hj=>by
 have Hc:j=0:=by simp at hj;omega
 subst Hc;exact hc) (by rw[uq];exact hm) (by simp)
 rw[uq]at this;exact this
def Xv b c l m w(hT:cH w)(hc:w.cell? ⟨b,0,none⟩=some (.string (str l)))(hd:w.cell? ⟨b,1,none⟩=some (.string (str m)))(hm:l.length+m.length<=35184372088832):Calls prog 66 #[.slice (some ⟨b,0,none⟩) 2 c] w λe w'=>e=.returned (.agg (w8 (aQ.sum (l++m))).toArray)/\Below w.heap.size w w':=by
 have:=sX b 0 c [l,m] w hT (block_lt_of_cell hc) (λj hj=>by
 have Hc:j=0∨j=1:=by simp at hj;omega
 rcases Hc with rfl|rfl;exact hc;exact hd) (by rw[uo,List.length_append];exact hm) (by simp)
 rw[uo]at this;exact this
def Tryz.nO:(w8 (List.replicate 32 0)).toArray=#[Value.int .u8 0,.int .u8 0,.int .u8 0,.int .u8 0,.int .u8 0,.int .u8 0,.int .u8 0,.int .u8 0,.int .u8 0,.int .u8 0,.int .u8 0,.int .u8 0,.int .u8 0,.int .u8 0,.int .u8 0,.int .u8 0,.int .u8 0,.int .u8 0,.int .u8 0,.int .u8 0,.int .u8 0,.int .u8 0,.int .u8 0,.int .u8 0,.int .u8 0,.int .u8 0,.int .u8 0,.int .u8 0,.int .u8 0,.int .u8 0,.int .u8 0,.int .u8 0]:=by kernel_rfl
def Mk.ak(l:List UInt8):List UInt8:=aQ.sum (aQ.sum l)
def uA b o c ps w(hT:cH w)(hb:b<w.heap.size)(hp:yj w b o ps)(hm:(join ps).length<=35184372088832)(hn:ps.length<=9223372036854775807):Calls prog 90 #[.slice (some ⟨b,o,none⟩) ps.length c] w λe w'=>e=.returned (.agg (w8 (Mk.ak (join ps))).toArray)/\Below w.heap.size w w':=by
 have h1:=hT.lt;have HT:=η hT;have HP:=η hp;clear hT hp;go_enter func90,ntmps90;go_wp2_with fail;have hR:Row (w.alloc (.cells (w8 (List.replicate 32 0)).toArray 76)) w.heap.size (w8 (List.replicate 32 0)):=Row.new w _ _;have hB:Below w.heap.size w (w.alloc (.cells (w8 (List.replicate 32 0)).toArray 76)):=(Below.refl _ _).alloc ν _;have hZ:(w.alloc (.cells (w8 (List.replicate 32 0)).toArray 76)).heap.size=w.heap.size+1:=by simp
 rw[Tryz.nO]at hR hB hZ;generalize w.alloc _=w1 at hR hB hZ|-;have B1:=η hR;have B2:=η hB;have hZ':w.heap.size+1<=w1.heap.size:=by omega
 clear hR hB hZ;refine(sX b o c ps w1 (HT.o.below B2.o (by omega)) (by omega) (HP.o.below B2.o (by omega)) hm hn).mono ?_;rintro e w2⟨rfl,Fu⟩;have ik:=Fu.size;have Hg:Row (w2.alloc (.cells (w8 (List.replicate 32 0)).toArray 76)) w2.heap.size (w8 (List.replicate 32 0)):=Row.new w2 _ _;have IY:Below w2.heap.size w2 ((w2.alloc (.cells (w8 (List.replicate 32 0)).toArray 76)).setRow w2.heap.size (w8 (aQ.sum (join ps))).toArray):=below_setRow ((Below.refl _ _).alloc ν _) ν _;have nz:((w2.alloc (.cells (w8 (List.replicate 32 0)).toArray 76)).setRow w2.heap.size (w8 (aQ.sum (join ps))).toArray).heap.size=w2.heap.size+1:=by simp
 have KQ:=Hg.setRow (w8 (aQ.sum (join ps)));rw[Tryz.nO]at Hg IY nz KQ;go_wp2_with (first|(with_reducible refine fE (o:=⟨none,_,_,_,_,_⟩) rfl _ _ rfl w2.heap.size (List.replicate 32 0) (aQ.sum (join ps)) rfl (aQ.fQ _) rfl rfl Hg ?_)|(with_reducible refine eJ (o:=⟨some 7,_,_,_,_,_⟩) rfl _ _ _ _ rfl w2.heap.size 0 32 32 (aQ.sum (join ps)) (aQ.fQ _) rfl underlying35 underlying5 underlying9 KQ.bytes ?_));clear Hg KQ;generalize World.setRow _ _ _=w3 at IY nz|-;have Qx:=Row.new w3 [.string (str (aQ.sum (join ps)))] 9;rw[nz]at Qx;have hB4:Below w.heap.size w w3:=(B2.o.trans (Fu.mono (by omega))).trans (IY.mono (by omega));refine(KC (w2.heap.size+1) 1 (aQ.sum (join ps)) _ (HT.o.below (hB4.alloc (by omega) _) (by omega)) (Qx.cell 0) (by rw[aQ.fQ];decide)).mono ?_;rintro e w5⟨rfl,hB5⟩;have Xg:=hB5.size;rw[World.size_alloc]at Xg;have hBB:Below w.heap.size w w5:=(hB4.alloc (by omega) _).trans (hB5.mono (by rw[World.size_alloc];omega));have hRR:Row w5 w.heap.size (w8 (List.replicate 32 0)):=((((B1.o.below Fu (by omega)).below IY (by omega)).alloc _).below hB5 (by rw[World.size_alloc];omega));clear Qx hB4 hB5 IY Fu;have C1:=η hBB;clear hBB;go_wp2_with (with_reducible refine fE (o:=⟨none,_,_,_,_,_⟩) rfl _ _ rfl w.heap.size (List.replicate 32 0) (aQ.sum (aQ.sum (join ps))) rfl (aQ.fQ _) rfl rfl hRR ?_);obtain⟨T2,Cj⟩:=hRR.setRow (w8 (aQ.sum (aQ.sum (join ps))));have il:Below w.heap.size w (w5.setRow w.heap.size (w8 (aQ.sum (aQ.sum (join ps)))).toArray):=below_setRow C1.o ν _;exact bodyPost_ret (v:=.agg (w8 (aQ.sum (aQ.sum (join ps)))).toArray) (results_cell_row (fn:=Tryz.f90) rfl _ _ w.heap.size T2 _ (0,0) _ rfl Cj underlying76 rfl (by rw[Tryz.BM,List.size_toArray,aV];exact congrArg some (aQ.fQ _).symm)) rfl ⟨rfl,il⟩
def BU b c l w(hT:cH w)(hc:w.cell? ⟨b,0,none⟩=some (.string (str l)))(hm:l.length<=35184372088832):Calls prog 90 #[.slice (some ⟨b,0,none⟩) 1 c] w λe w'=>e=.returned (.agg (w8 (Mk.ak l)).toArray)/\Below w.heap.size w w':=by
 have:=uA b 0 c [l] w hT (block_lt_of_cell hc) (λj hj=>by
 have Hc:j=0:=by simp at hj;omega
 subst Hc;exact hc) (by rw[uq];exact hm) (by simp)
 rw[uq]at this;exact this
def BS b c l m w(hT:cH w)(hc:w.cell? ⟨b,0,none⟩=some (.string (str l)))(hd:w.cell? ⟨b,1,none⟩=some (.string (str m)))(hm:l.length+m.length<=35184372088832):Calls prog 90 #[.slice (some ⟨b,0,none⟩) 2 c] w λe w'=>e=.returned (.agg (w8 (Mk.ak (l++m))).toArray)/\Below w.heap.size w w':=by
 have:=uA b 0 c [l,m] w hT (block_lt_of_cell hc) (λj hj=>by
 have Hc:j=0∨j=1:=by simp at hj;omega
 rcases Hc with rfl|rfl;exact hc;exact hd) (by rw[uo,List.length_append];exact hm) (by simp)
 rw[uo]at this;exact this
def Yz w m T:Below w.heap.size w ((w.alloc (.cells (w8 (List.replicate 32 0)).toArray T)).setRow w.heap.size (w8 m).toArray)/\((w.alloc (.cells (w8 (List.replicate 32 0)).toArray T)).setRow w.heap.size (w8 m).toArray).heap.size=w.heap.size+1/\Row ((w.alloc (.cells (w8 (List.replicate 32 0)).toArray T)).setRow w.heap.size (w8 m).toArray) w.heap.size (w8 m)/\Row (w.alloc (.cells (w8 (List.replicate 32 0)).toArray T)) w.heap.size (w8 (List.replicate 32 0)):=⟨below_setRow ((Below.refl _ _).alloc ν _) ν _,by simp,(Row.new w _ _).setRow _,Row.new w _ _⟩
end
section
open bd
open Go.ChangeShapes Go.WideShapes Go.ChangeAt Go.RowKit
open Go.ChangeMaps (open_string shut_string)
def Tryz.ownKnob:Go.ownKnob prog.godebug=none:=by kernel_rfl
def agr:prog.globalNamed "compact/hash.begin" =some 0:=by kernel_rfl
def abZ:prog.globalNamed "compact/hash.rounds" =some 1:=by kernel_rfl
def Oh:(prog.globals[0]?).map (·.type)=some 169:=by kernel_rfl
def KU:(prog.globals[1]?).map (·.type)=some 209:=by kernel_rfl
def ace:prog.cellsOf 169=8:=by kernel_rfl
def YX:prog.cellsOf 209=64:=by kernel_rfl
def Lt:prog.cellsOf 168=1:=by kernel_rfl
def xl{P W name k zs rest g t e n}(hz:zs≠ []) (hg:P.globalNamed name=some g) (hty:(P.globals[g]?).map (·.type)=some t) (ht:P.underlying t=some (.array n e)) (he:P.underlying e=some (.int k)) (hce:P.cellsOf e=1) (hct:P.cellsOf t=n) (h:laidMet P ((name,Lib.tabData k zs)::rest) W):Row W g (zs.map λz=>Value.int k z):=by
 have ht':=Lib.tabIs_of_head hg hty ht he hce hct h;obtain⟨ps,⟨g',t',cs,fuel,p,q,IT,_,aiT,_,_,rfl⟩,_,gJ⟩:=h;obtain rfl:=Option.some.inj (hg.symm.trans IT);unfold Lib.TabIs at ht';rw[aiT]at ht';obtain rfl:=Option.some.inj ht';have hm:MemPlace.cell g 0∈MemPlace.row ⟨g,0,none⟩ ((zs.map λz=>Value.int k z).toArray).size++p++q:=by refine List.mem_append_left _ (List.mem_append_left _ ?_);cases zs with|nil=>exact absurd rfl hz|cons z zs=>simp[MemPlace.row]
 obtain⟨⟨c,T,hc⟩,_⟩:=gJ g 0 hm;refine⟨T,?_⟩;have hv:=aiT;unfold World.var? at hv;rw[hg]at hv;simp only[Option.bind_some,hc,Option.some.injEq]at hv;rw[hc,hv]
def Tc{P W x rest}(h:laidMet P (x::rest) W):laidMet P rest W:=by obtain⟨name,d⟩:=x;obtain⟨ps,⟨g,t,cs,fuel,p,q,_,_,_,_,hr,rfl⟩,hn,gJ⟩:=h;exact⟨q,hr,(List.nodup_append.1 hn).2.1,λb off hb=>gJ b off (List.mem_append_right _ hb)⟩
def wX:List Int:=[1779033703,3144134277,1013904242,2773480762,1359893119,2600822924,528734635,1541459225]
def nW:List Int:=aQ.rounds.map V
def OE:(wX.map λz=>Value.int .u32 z)=iL (eM aQ.begin):=by kernel_rfl
def Jt:(nW.map λz=>Value.int .u32 z)=iL aQ.rounds:=by simp[nW,iL]
def OF:(Rows.laid_compact_hash_begin:DataW Unit)=Lib.tabData .u32 wX:=by kernel_rfl
def Ju:(Rows.laid_compact_hash_rounds:DataW Unit)=Lib.tabData .u32 nW:=by kernel_rfl
def aas{W}(h:laidMet prog [("compact/hash.begin",Rows.laid_compact_hash_begin),("compact/hash.rounds",Rows.laid_compact_hash_rounds)] W):cH W:=by rw[OF,Ju]at h;refine⟨?_,?_⟩;rw[<-OE];exact xl (by decide) agr Oh underlying169 underlying168 Lt ace h;rw[<-Jt];exact xl (by decide) abZ KU underlying209 underlying168 Lt YX (Tc h)
def Kr(l:List Value):Obj->Obj
 |.cells _ t frozen=>.cells l.toArray t frozen|o=>o
noncomputable def ahr(os:Os):World:={World.holding prog os ⟨#[],#[],[]⟩with heap:=((World.holding prog os ⟨#[],#[],[]⟩).heap.modify 0 (Kr (wX.map λz=>Value.int .u32 z))).modify 1 (Kr (nW.map λz=>Value.int .u32 z))}
end
