import Derived.Below
set_option linter.all false
namespace Go.RowKit
def Hid.o{p:Prop}(h:Hid p):p:=h
end Go.RowKit
namespace Go.Proofs.YtlpcjiollnnmgaaGreatDoor
def η{p:Prop}(h:p):RowKit.Hid p:=h
def ν{n:Nat}:n<=n:=Nat.le_refl n
end Go.Proofs.YtlpcjiollnnmgaaGreatDoor
