/- The law FnExactValidValue of the printed functions: for all values it is true. -/
import Derived.Test.YtgaibeckblmbbaaPLawsFnExactValidValue
import Derived.Test.YtgaibeckblmbbaaValidValue
import Derived.Test.YtgaibeckblmbbaaSmall
namespace Go.Proofs.Ytgaibeckblmbbaa.Pure
open Go Go.RowKit Go.Proofs.Ytgaibeckblmbbaa.P Go.Proofs.YtgaibeckblmbbaaW.PrintWords Go.Proofs.YtgaibeckblmbbaaW.PrintLast
set_option linter.unusedVariables false
set_option linter.unusedSimpArgs false

theorem FnExactValidValue (l : List LAtom) (h : l.length * 40 ≤ 140737488351232 ∧ ∀ x ∈ l, Small99 x) : ∃ k, laws_FnExactValidValue.f k l = some true := by
  apply Ev.rounds
  unfold laws_FnExactValidValue.f
  obtain ⟨r, hr, hR⟩ := szValue_ev l (by omega) (fun s hs => (h.2 s hs).2.2.1) 1048576 (by omega) (by omega)
  refine Ev.bind hr ?_
  rcases hR with rfl | ⟨a, b, c, d⟩
  · exact Ev.pos (by omega) (Ev.now _)
  · have T := toValue_ev l (by omega)
    have hl : (l.map ofLaws).length ≤ 8796093022208 := by rw [List.length_map]; omega
    exact Ev.neg (by omega) (Ev.bind T (Ev.bind (spec_ValidValue_ev _ hl) (Ev.bind T (Ev.bind (impl_ValidValue_ev _ hl) (Ev.neg (by simp) (Ev.bind T (Ev.bind (eqValue_ev _ hl) (Ev.pos rfl (Ev.now _)))))))))

end Go.Proofs.Ytgaibeckblmbbaa.Pure
