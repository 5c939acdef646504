/- The law FnExactEvidence of the printed functions: for all proofs and widths it is true. -/
import Derived.Test.YtgaibeckblmbbaaPLawsFnExactEvidence
import Derived.Test.YtgaibeckblmbbaaEvidence
import Derived.Test.YtgaibeckblmbbaaProofLaws
namespace Go.Proofs.Ytgaibeckblmbbaa.Pure
open Go Go.RowKit Go.Proofs.Ytgaibeckblmbbaa.P Go.Proofs.YtgaibeckblmbbaaW.PrintWords Go.Proofs.YtgaibeckblmbbaaW.PrintLast
set_option linter.unusedVariables false
set_option linter.unusedSimpArgs false

theorem FnExactEvidence (l0 : List ByteArray) (t0 : Bool) (x0 : ByteArray) (l1 : List ByteArray) (t1 : Bool) (x1 : ByteArray) (w : Int)
    (h0 : (l0.length * 16 ≤ 140737488351232 ∧ ∀ s ∈ l0, s.size ≤ 140737488351232) ∧ True ∧ x0.size ≤ 140737488351232) (h1 : (l1.length * 16 ≤ 140737488351232 ∧ ∀ s ∈ l1, s.size ≤ 140737488351232) ∧ True ∧ x1.size ≤ 140737488351232)
    (_hw : (Lit.int .i64 w).wf = true) : ∃ k, laws_FnExactEvidence.f k l0 t0 x0 l1 t1 x1 w = some true := by
  apply Ev.rounds
  unfold laws_FnExactEvidence.f
  obtain ⟨r, hr, hR⟩ := szProof_ev l0 t0 x0 h0.1 h0.2.2 1048576 (by omega) (by omega)
  refine Ev.bind hr ?_
  rcases hR with rfl | ⟨a, b, c, d, e⟩
  · exact Ev.congr (fun k => by rw [if_pos (by omega)]) (Ev.now _)
  · obtain ⟨q, hq, hQ⟩ := szProof_ev l1 t1 x1 h1.1 h1.2.2 r a (by omega)
    refine Ev.congr (fun k => by rw [if_neg (by omega)]) (Ev.bind hq ?_)
    rcases hQ with rfl | ⟨a2, b2, c2, d2, e2⟩
    · exact Ev.congr (fun k => by rw [if_pos (by omega)]) (Ev.now _)
    · have s0 : Small_ l0 := fun s hs => by have := d s hs; omega
      have s1 : Small_ l1 := fun s hs => by have := d2 s hs; omega
      have T0 := toProof_ev l0 t0 x0 h0.1.1
      have T1 := toProof_ev l1 t1 x1 h1.1.1
      refine Ev.congr (fun k => by rw [if_neg (by omega)]) (Ev.bind T0 (Ev.bind T1 (Ev.bind (spec_Evidence_ev l0 t0 x0 l1 t1 x1 w s0 (by omega) s1 (by omega)) (Ev.bind T0 (Ev.bind T1 (Ev.bind (impl_Evidence_ev l0 t0 x0 l1 t1 x1 w s0 (by omega) s1 (by omega)) ?_))))))
      refine Ev.pos rfl (Ev.pos rfl ?_)
      refine Ev.step (f := fun k => (laws_toProof.f k l0 t0 x0).bind fun b => (laws_eqProof.f k l0 t0 x0 b.1 b.2.1 b.2.2).bind fun t => if t = true then (laws_toProof.f k l1 t1 x1).bind fun b => (laws_eqProof.f k l1 t1 x1 b.1 b.2.1 b.2.2).bind fun t => if t = true then some true else some false else some false) (fun k => ?_) ?_
      · simp only [laws_FnExactEvidence.j0]
        rw [if_neg (by simp)]
      · exact Ev.bind T0 (Ev.bind (eqProof_ev l0 t0 x0 (by omega)) (Ev.pos rfl (Ev.bind T1 (Ev.bind (eqProof_ev l1 t1 x1 (by omega)) (Ev.pos rfl (Ev.now _))))))

end Go.Proofs.Ytgaibeckblmbbaa.Pure
