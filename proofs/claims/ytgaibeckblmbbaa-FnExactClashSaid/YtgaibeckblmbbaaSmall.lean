/- The sizes of what a reading of a struct gives. -/
import Derived.Test.YtgaibeckblmbbaaP0
namespace Go.Proofs.Ytgaibeckblmbbaa.Pure
open Go Go.Proofs.Ytgaibeckblmbbaa.P
end Go.Proofs.Ytgaibeckblmbbaa.Pure
