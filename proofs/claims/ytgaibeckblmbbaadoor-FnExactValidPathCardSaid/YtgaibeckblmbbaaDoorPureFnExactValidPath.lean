/- The law FnExactValidPath of the printed functions: for all texts it is true. -/
import Derived.Test.YtgaibeckblmbbaaDoorPLawsFnExactValidPath
import Derived.Test.YtgaibeckblmbbaaDoorPaths
namespace Go.Proofs.YtgaibeckblmbbaaDoor.Pure
open Go Go.RowKit Go.Proofs.YtgaibeckblmbbaaDoor.P Go.Proofs.YtgaibeckblmbbaaDoorW.PrintWords Go.Proofs.YtgaibeckblmbbaaDoorW.PrintLast
set_option linter.unusedVariables false
set_option linter.unusedSimpArgs false

theorem FnExactValidPath (s : ByteArray) (_h : s.size ≤ 140737488351232) : ∃ k, laws_FnExactValidPath.f k s = some true := by
  apply Ev.rounds
  unfold laws_FnExactValidPath.f
  by_cases h : (s.size : Int) > 1048576
  · exact Ev.pos h (Ev.now _)
  · have e1 : Ev (fun k => spec_ValidPath.f k s) (pathOk s false) := by
      unfold spec_ValidPath.f
      exact Ev.bind (spec_ok_ev s false) (Ev.now _)
    have e2 : Ev (fun k => impl_ValidPath.f k s) (pathOk s false) := by
      unfold impl_ValidPath.f
      exact Ev.bind (impl_parts_ev s (by omega) false) (Ev.now _)
    exact Ev.neg h (Ev.bind e1 (Ev.bind e2 (Ev.neg (by simp) (Ev.now _))))

end Go.Proofs.YtgaibeckblmbbaaDoor.Pure
