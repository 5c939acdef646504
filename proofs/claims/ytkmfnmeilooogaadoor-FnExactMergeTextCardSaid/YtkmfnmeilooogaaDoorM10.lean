/- The law FnExactMergeText of the printed functions: for all texts it is true. -/
import Derived.Test.YtkmfnmeilooogaaDoorM9
import Derived.Test.YtkmfnmeilooogaaDoorM8
namespace Go.Proofs.YtkmfnmeilooogaaDoor.Pure
open Go Go.RowKit Go.Proofs.YtkmfnmeilooogaaDoor.P Go.Proofs.YtkmfnmeilooogaaDoorW.PrintWords Go.Proofs.YtkmfnmeilooogaaDoorW.PrintLast
set_option linter.unusedVariables false
set_option linter.unusedSimpArgs false

theorem FnExactMergeText (a0 a1 a2 : ByteArray) (_h0 : a0.size ≤ 140737488351232) (_h1 : a1.size ≤ 140737488351232) (_h2 : a2.size ≤ 140737488351232) : ∃ k, laws_FnExactMergeText.f k a0 a1 a2 = some true := by
  apply Ev.rounds
  unfold laws_FnExactMergeText.f
  by_cases h0 : (a0.size : Int) > 1048576
  · exact Ev.pos h0 (Ev.now _)
  refine Ev.neg h0 ?_
  by_cases h1 : (a1.size : Int) > 1048576
  · exact Ev.pos h1 (Ev.now _)
  refine Ev.neg h1 ?_
  by_cases h2 : (a2.size : Int) > 1048576
  · exact Ev.pos h2 (Ev.now _)
  refine Ev.neg h2 (Ev.bind (spec_MergeText_ev a0 a1 a2) ?_)
  unfold impl_MergeText.f
  refine Ev.sb (Ev.pos rfl (Ev.neg ?_ (Ev.now _)))
  simp

end Go.Proofs.YtkmfnmeilooogaaDoor.Pure
