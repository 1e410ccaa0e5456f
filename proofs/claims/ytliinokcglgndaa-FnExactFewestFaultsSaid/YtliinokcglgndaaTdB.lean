/- The data of the laws' struct types. -/
import Derived.Test.YtliinokcglgndaaE4
namespace Go.Proofs.Ytliinokcglgndaa
structure Bound_ where
  lw : Int
  hi : Int
def Bound_.zero : Bound_ := ⟨0, 0⟩
instance : Inhabited Bound_ := ⟨Bound_.zero⟩
def Bound_.cells (x : Bound_) : List Value := [.int .i64 x.lw, .int .i64 x.hi]
def Bound_.ac (x : Bound_) : List AC := [.p (.int .i64 x.lw), .p (.int .i64 x.hi)]
end Go.Proofs.Ytliinokcglgndaa
