/- The data of the laws' struct types. -/
import Derived.Test.YtadjkldpflidhaaE4
namespace Go.Proofs.Ytadjkldpflidhaa
structure LockState_ where
  lo : Int
  up : Int
  le : Int
  lg : Bool
  hg : Bool
  lp : Bool
  hp : Bool
def LockState_.zero : LockState_ := ⟨0, 0, 0, false, false, false, false⟩
instance : Inhabited LockState_ := ⟨LockState_.zero⟩
def LockState_.cells (x : LockState_) : List Value := [.int .i64 x.lo, .int .i64 x.up, .int .i64 x.le, .bool x.lg, .bool x.hg, .bool x.lp, .bool x.hp]
def LockState_.ac (x : LockState_) : List AC := [.p (.int .i64 x.lo), .p (.int .i64 x.up), .p (.int .i64 x.le), .p (.bool x.lg), .p (.bool x.hg), .p (.bool x.lp), .p (.bool x.hp)]
end Go.Proofs.Ytadjkldpflidhaa
