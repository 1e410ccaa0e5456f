/- The abstract machine: more of what does not look at the world, taken first in a drawn region. -/
import Derived.Test.YtdlebdgdcpemmaaGreatDoorEW
namespace Go.Proofs.YtdlebdgdcpemmaaGreatDoor
open Go.RowKit
set_option linter.unusedVariables false
set_option linter.unusedSimpArgs false
section
variable {P : Program} {σ : AS}
variable {w0 : World} {m0 : Gv} {l : List Oper} {Q : Exit → AS → Prop} {listed : List Bool}
end
end Go.Proofs.YtdlebdgdcpemmaaGreatDoor
