/- The law FnExactEncode of the printed functions: for all payloads and widths it is true. -/
import Derived.Test.YtgaibeckblmbbaaPLawsFnExactEncode
import Derived.Test.YtgaibeckblmbbaaEncode
namespace Go.Proofs.Ytgaibeckblmbbaa.Pure
open Go Go.RowKit Go.Proofs.Ytgaibeckblmbbaa.P Go.Proofs.YtgaibeckblmbbaaW.PrintWords Go.Proofs.YtgaibeckblmbbaaW.PrintLast
set_option linter.unusedVariables false
set_option linter.unusedSimpArgs false

theorem FnExactEncode (l0 : List ByteArray) (a1 : Int) (h0 : l0.length * 16 ≤ 140737488351232 ∧ ∀ x ∈ l0, x.size ≤ 140737488351232) (_h1 : (Lit.int .i64 a1).wf = true) : ∃ k, laws_FnExactEncode.f k l0 a1 = some true := by
  apply Ev.rounds
  unfold laws_FnExactEncode.f
  obtain ⟨r, hr, hR⟩ := szTexts l0 h0.1 h0.2 1048576 (by omega) (by omega)
  refine Ev.bind hr ?_
  rcases hR with rfl | ⟨hr0, _, hl, hz⟩
  · exact Ev.pos (by omega) (Ev.now _)
  · have T := toTexts l0 h0.1
    exact Ev.neg (by omega) (Ev.bind T (Ev.bind (spec_Encode_ev l0 h0.2 a1) (Ev.bind T (Ev.bind (impl_Encode_ev l0 h0.2 a1) (Ev.pos rfl (Ev.bind T (Ev.bind (eqTexts l0 (by omega)) (Ev.pos rfl (Ev.now _)))))))))

end Go.Proofs.Ytgaibeckblmbbaa.Pure
