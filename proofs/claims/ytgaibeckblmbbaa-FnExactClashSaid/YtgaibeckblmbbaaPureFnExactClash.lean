/- The law FnExactClash of the printed functions: for every list of texts and every width it is true. -/
import Derived.Test.YtgaibeckblmbbaaPLawsFnExactClash
import Derived.Test.YtgaibeckblmbbaaClash
import Derived.Test.YtgaibeckblmbbaaTexts
import Derived.Test.YtgaibeckblmbbaaSmall
namespace Go.Proofs.Ytgaibeckblmbbaa.Pure
open Go Go.RowKit Go.Proofs.Ytgaibeckblmbbaa.P Go.Proofs.YtgaibeckblmbbaaW.PrintWords Go.Proofs.YtgaibeckblmbbaaW.PrintLast
set_option linter.unusedVariables false
set_option linter.unusedSimpArgs false

theorem FnExactClash (l0 : List ByteArray) (a1 : Int) (h0 : l0.length * 16 ≤ 140737488351232 ∧ ∀ x ∈ l0, x.size ≤ 140737488351232) (_h1 : (Lit.int .i64 a1).wf = true) : ∃ k, laws_FnExactClash.f k l0 a1 = some true := by
  apply Ev.rounds
  unfold laws_FnExactClash.f
  obtain ⟨r, hr, hR⟩ := szTexts l0 h0.1 h0.2 1048576 (by omega) (by omega)
  refine Ev.bind hr ?_
  rcases hR with rfl | ⟨hr0, _, hl, hz⟩
  · exact Ev.congr (fun k => by rw [if_pos (by omega)]) (Ev.now _)
  · have hz' : Sized l0 := h0.2
    refine Ev.congr (fun k => by rw [if_neg (by omega)]) (Ev.bind (toTexts l0 h0.1) (Ev.bind (spec_Clash_ev l0 a1 hz') (Ev.bind (toTexts l0 h0.1) (Ev.bind (impl_Clash_ev l0 a1 hz') ?_))))
    refine Ev.congr (fun k => by rw [if_pos rfl, if_pos rfl]) ?_
    refine Ev.step (f := fun k => (laws_toStringS.f k l0).bind fun t160 => (laws_eqStringS.f k l0 t160).bind fun t163 => if t163 = true then some true else some false) (fun k => ?_) ?_
    · simp only [laws_FnExactClash.j0]
      rw [if_neg (by simp)]
    · refine Ev.bind (toTexts l0 h0.1) (Ev.bind (eqTexts l0 (by omega)) ?_)
      exact Ev.now _

end Go.Proofs.Ytgaibeckblmbbaa.Pure
