/- The sizes of what a reading of a struct gives. -/
import Derived.Test.YtgaibeckblmbbaaP0
namespace Go.Proofs.Ytgaibeckblmbbaa.Pure
open Go Go.Proofs.Ytgaibeckblmbbaa.P
/-- The sizes of what a reading at type 99 gives. -/
def Small99 (x : S99) : Prop := ((Lit.int .i64 x.f0).wf = true) ∧ (((Lit.int .i64 x.f1).wf = true) ∧ ((x.f2.size ≤ 140737488351232) ∧ ((Lit.int .i64 x.f3).wf = true)))
end Go.Proofs.Ytgaibeckblmbbaa.Pure
