/- The law FnExactConstants: called in whatever memory, it returns true. No condition beside the row's own. -/
import Derived.Test.YtgaibeckblmbbaaPFnExactConstantsx1
namespace Go.Proofs.Ytgaibeckblmbbaa.Pure
open Go.RowKit Go.Proofs.Ytgaibeckblmbbaa.PFnExactConstants Go.Proofs.YtgaibeckblmbbaaW.PrintWords Go.Proofs.YtgaibeckblmbbaaW.PrintLast

/-- YOURS: laws_FnExactConstants.f  = some true
What it reaches (each with k first where it has rounds; `.mono`: more rounds tell the same; `.l0`, ..: its loops, with `.mono_l`): laws_FnExactConstants.f -/
theorem FnExactConstants : laws_FnExactConstants.Pure := by
  rfl

end Go.Proofs.Ytgaibeckblmbbaa.Pure
