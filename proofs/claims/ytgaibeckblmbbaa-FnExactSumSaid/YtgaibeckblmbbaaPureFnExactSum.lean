/- The law FnExactSum of the printed functions: for every text and width it is true. -/
import Derived.Test.YtgaibeckblmbbaaPLawsFnExactSum
import Derived.Test.YtgaibeckblmbbaaSum
namespace Go.Proofs.Ytgaibeckblmbbaa.Pure
open Go Go.RowKit Go.Proofs.Ytgaibeckblmbbaa.P Go.Proofs.YtgaibeckblmbbaaW.PrintWords Go.Proofs.YtgaibeckblmbbaaW.PrintLast
set_option linter.unusedVariables false
set_option linter.unusedSimpArgs false

theorem FnExactSum (a0 : ByteArray) (a1 : Int) (h0 : a0.size ≤ 140737488351232) (_h1 : (Lit.int .i64 a1).wf = true) : ∃ k, laws_FnExactSum.f k a0 a1 = some true := by
  refine ⟨a0.size + 10, ?_⟩
  unfold laws_FnExactSum.f
  split
  · rfl
  · rw [spec_Sum_eq a0 h0 a1 _ (by omega), Option.bind_some, impl_Sum_eq a0 h0 a1 _ (by omega), Option.bind_some, if_pos rfl]

end Go.Proofs.Ytgaibeckblmbbaa.Pure
