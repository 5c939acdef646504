/- The law FnExactValidGlob of the printed functions: for all texts it is true. -/
import Derived.Test.YtgaibeckblmbbaaDoorPLawsFnExactValidGlob
import Derived.Test.YtgaibeckblmbbaaDoorPaths
namespace Go.Proofs.YtgaibeckblmbbaaDoor.Pure
open Go Go.RowKit Go.Proofs.YtgaibeckblmbbaaDoor.P Go.Proofs.YtgaibeckblmbbaaDoorW.PrintWords Go.Proofs.YtgaibeckblmbbaaDoorW.PrintLast
set_option linter.unusedVariables false
set_option linter.unusedSimpArgs false

theorem FnExactValidGlob (s : ByteArray) (_h : s.size ≤ 140737488351232) : ∃ k, laws_FnExactValidGlob.f k s = some true := by
  apply Ev.rounds
  unfold laws_FnExactValidGlob.f
  by_cases h : (s.size : Int) > 1048576
  · exact Ev.pos h (Ev.now _)
  · have e1 : Ev (fun k => spec_ValidGlob.f k s) (pathOk s true) := by
      unfold spec_ValidGlob.f
      exact Ev.bind (spec_ok_ev s true) (Ev.now _)
    have e2 : Ev (fun k => impl_ValidGlob.f k s) (pathOk s true) := by
      unfold impl_ValidGlob.f
      exact Ev.bind (impl_parts_ev s (by omega) true) (Ev.now _)
    exact Ev.neg h (Ev.bind e1 (Ev.bind e2 (Ev.neg (by simp) (Ev.now _))))

end Go.Proofs.YtgaibeckblmbbaaDoor.Pure
