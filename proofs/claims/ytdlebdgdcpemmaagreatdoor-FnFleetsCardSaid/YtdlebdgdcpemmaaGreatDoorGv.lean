/- ParseVessel: the form of what is answered. -/
import Derived.Test.YtdlebdgdcpemmaaGreatDoorGq
namespace Go.Proofs.YtdlebdgdcpemmaaGreatDoor
open Go.RowKit
set_option linter.unusedVariables false
def wsV : Option Vessel_ → List AW
  | some x => [.agg [.p (.int .i64 (x).id), .p (.string (x).nm), .p (.int .i64 (x).ln), .p (.int .i64 (x).wd), .p (.int .i64 (x).dr), .p (.int .i64 (x).kd)], .c (.p (.bool true))]
  | none => [.agg [.p (.int .i64 (Vessel_.zero).id), .p (.string (Vessel_.zero).nm), .p (.int .i64 (Vessel_.zero).ln), .p (.int .i64 (Vessel_.zero).wd), .p (.int .i64 (Vessel_.zero).dr), .p (.int .i64 (Vessel_.zero).kd)], .c (.p (.bool false))]
theorem one_wsV (o : Option Vessel_) : one (wsV o) = .tup (wsV o) := by cases o <;> rfl
end Go.Proofs.YtdlebdgdcpemmaaGreatDoor
