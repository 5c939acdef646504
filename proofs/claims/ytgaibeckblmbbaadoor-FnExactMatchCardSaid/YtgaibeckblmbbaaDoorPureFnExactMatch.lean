/- The law FnExactMatch of the printed functions: for all texts it is true. -/
import Derived.Test.YtgaibeckblmbbaaDoorPLawsFnExactMatch
import Derived.Test.YtgaibeckblmbbaaDoorMatchParts
namespace Go.Proofs.YtgaibeckblmbbaaDoor.Pure
open Go Go.RowKit Go.Proofs.YtgaibeckblmbbaaDoor.P Go.Proofs.YtgaibeckblmbbaaDoorW.PrintWords Go.Proofs.YtgaibeckblmbbaaDoorW.PrintLast
set_option linter.unusedVariables false
set_option linter.unusedSimpArgs false

theorem FnExactMatch (g p : ByteArray) (_h : g.size ≤ 140737488351232) (_h2 : p.size ≤ 140737488351232) : ∃ k, laws_FnExactMatch.f k g p = some true := by
  apply Ev.rounds
  unfold laws_FnExactMatch.f
  by_cases h : (g.size : Int) > 1048576
  · exact Ev.pos h (Ev.now _)
  by_cases h2 : (p.size : Int) > 1048576
  · exact Ev.neg h (Ev.pos h2 (Ev.now _))
  · exact Ev.neg h (Ev.neg h2 (Ev.bind (spec_Match_ev g p (by omega) (by omega)) (Ev.bind (impl_Match_ev g p (by omega) (by omega)) (Ev.neg (by simp) (Ev.now _)))))

end Go.Proofs.YtgaibeckblmbbaaDoor.Pure
