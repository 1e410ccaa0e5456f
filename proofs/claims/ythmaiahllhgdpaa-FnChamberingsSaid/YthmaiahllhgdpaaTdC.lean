/- The data of the laws' struct types. -/
import Derived.Test.YthmaiahllhgdpaaE4
namespace Go.Proofs.Ythmaiahllhgdpaa
structure Hull_ where
  id : Int
  ln : Int
  wd : Int
def Hull_.zero : Hull_ := ⟨0, 0, 0⟩
instance : Inhabited Hull_ := ⟨Hull_.zero⟩
def Hull_.cells (x : Hull_) : List Value := [.int .i64 x.id, .int .i64 x.ln, .int .i64 x.wd]
def Hull_.ac (x : Hull_) : List AC := [.p (.int .i64 x.id), .p (.int .i64 x.ln), .p (.int .i64 x.wd)]
structure Spot_ where
  at_ : Int
  sd : Int
def Spot_.zero : Spot_ := ⟨0, 0⟩
instance : Inhabited Spot_ := ⟨Spot_.zero⟩
def Spot_.cells (x : Spot_) : List Value := [.int .i64 x.at_, .int .i64 x.sd]
def Spot_.ac (x : Spot_) : List AC := [.p (.int .i64 x.at_), .p (.int .i64 x.sd)]
structure Chamber_ where
  ln : Int
  wd : Int
def Chamber_.zero : Chamber_ := ⟨0, 0⟩
instance : Inhabited Chamber_ := ⟨Chamber_.zero⟩
def Chamber_.cells (x : Chamber_) : List Value := [.int .i64 x.ln, .int .i64 x.wd]
def Chamber_.ac (x : Chamber_) : List AC := [.p (.int .i64 x.ln), .p (.int .i64 x.wd)]
end Go.Proofs.Ythmaiahllhgdpaa
