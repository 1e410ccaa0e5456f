/- The data of the laws' struct types. -/
import Derived.Test.YtheknfpgmmfheaaE4
namespace Go.Proofs.Ytheknfpgmmfheaa
end Go.Proofs.Ytheknfpgmmfheaa
