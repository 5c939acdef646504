/- The law FnExactValidDecoder of the printed functions: for all decoders it is true. -/
import Derived.Test.YtgaibeckblmbbaaPLawsFnExactValidDecoder
import Derived.Test.YtgaibeckblmbbaaDecoder
namespace Go.Proofs.Ytgaibeckblmbbaa.Pure
open Go Go.RowKit Go.Proofs.Ytgaibeckblmbbaa.P Go.Proofs.YtgaibeckblmbbaaW.PrintWords Go.Proofs.YtgaibeckblmbbaaW.PrintLast
set_option linter.unusedVariables false
set_option linter.unusedSimpArgs false

theorem FnExactValidDecoder (w : Int) (rest : ByteArray) (fr : List ByteArray) (bad : Bool)
    (h : (Lit.int .i64 w).wf = true ∧ rest.size ≤ 140737488351232 ∧ (fr.length * 16 ≤ 140737488351232 ∧ ∀ s ∈ fr, s.size ≤ 140737488351232) ∧ True) : ∃ k, laws_FnExactValidDecoder.f k w rest fr bad = some true := by
  apply Ev.rounds
  obtain ⟨_, hr, hf, _⟩ := h
  unfold laws_FnExactValidDecoder.f
  obtain ⟨r, hr1, hR⟩ := szDecoder_ev w rest hr fr hf bad 1048576 (by omega) (by omega)
  have T := toDecoder_ev w rest fr bad hf.1
  refine Ev.bind hr1 ?_
  rcases hR with rfl | ⟨a, b, c, d, e⟩
  · exact Ev.pos (by omega) (Ev.now _)
  · refine Ev.neg (by omega) (Ev.bind T (Ev.bind (spec_ValidDecoder_ev w rest hr fr bad) (Ev.bind T (Ev.bind (impl_ValidDecoder_ev w rest hr fr bad) (Ev.neg (by simp) (Ev.bind T (Ev.bind (eqDecoder_ev w rest fr bad (by omega)) (Ev.pos rfl (Ev.now _)))))))))

end Go.Proofs.Ytgaibeckblmbbaa.Pure
