/- The data of the laws' struct types. -/
import Derived.Test.YtahkhinmncemdaaE4
namespace Go.Proofs.Ytahkhinmncemdaa
end Go.Proofs.Ytahkhinmncemdaa
