/- The data of the laws' struct types. -/
import Derived.Test.YtdlebdgdcpemmaaGreatDoorE9
namespace Go.Proofs.YtdlebdgdcpemmaaGreatDoor
structure Vessel_ where
  id : Int
  nm : ByteArray
  ln : Int
  wd : Int
  dr : Int
  kd : Int
def Vessel_.zero : Vessel_ := ⟨0, ByteArray.empty, 0, 0, 0, 0⟩
instance : Inhabited Vessel_ := ⟨Vessel_.zero⟩
def Vessel_.cells (x : Vessel_) : List Value := [.int .i64 x.id, .string x.nm, .int .i64 x.ln, .int .i64 x.wd, .int .i64 x.dr, .int .i64 x.kd]
def Vessel_.ac (x : Vessel_) : List AC := [.p (.int .i64 x.id), .p (.string x.nm), .p (.int .i64 x.ln), .p (.int .i64 x.wd), .p (.int .i64 x.dr), .p (.int .i64 x.kd)]
end Go.Proofs.YtdlebdgdcpemmaaGreatDoor
