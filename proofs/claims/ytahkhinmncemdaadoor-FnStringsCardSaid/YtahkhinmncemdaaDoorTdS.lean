/- The data of the laws' struct types. -/
import Derived.Test.YtahkhinmncemdaaDoorE4
namespace Go.Proofs.YtahkhinmncemdaaDoor
end Go.Proofs.YtahkhinmncemdaaDoor
