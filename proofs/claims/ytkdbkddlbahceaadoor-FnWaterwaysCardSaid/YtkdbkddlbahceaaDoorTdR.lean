/- The data of the laws' struct types. -/
import Derived.Test.YtkdbkddlbahceaaDoorE9
namespace Go.Proofs.YtkdbkddlbahceaaDoor
structure Reach_ where
  ln : Int
  dp : Int
  sp : Int
def Reach_.zero : Reach_ := ⟨0, 0, 0⟩
instance : Inhabited Reach_ := ⟨Reach_.zero⟩
def Reach_.cells (x : Reach_) : List Value := [.int .i64 x.ln, .int .i64 x.dp, .int .i64 x.sp]
def Reach_.ac (x : Reach_) : List AC := [.p (.int .i64 x.ln), .p (.int .i64 x.dp), .p (.int .i64 x.sp)]
end Go.Proofs.YtkdbkddlbahceaaDoor
