/- The law FnExactValidTree of the printed functions: for all trees it is true. -/
import Derived.Test.YtkdghhkpmkfjhaaDoorPLawsFnExactValidTree
import Derived.Test.YtkdghhkpmkfjhaaDoorTrees
import Derived.Test.YtkdghhkpmkfjhaaDoorSmall
namespace Go.Proofs.YtkdghhkpmkfjhaaDoor.Pure
open Go Go.RowKit Go.Proofs.YtkdghhkpmkfjhaaDoor.P Go.Proofs.YtkdghhkpmkfjhaaDoorW.PrintWords Go.Proofs.YtkdghhkpmkfjhaaDoorW.PrintLast
set_option linter.unusedVariables false
set_option linter.unusedSimpArgs false

theorem ofE_small {l : List LEntry} {left : Int} (h1 : left ≤ 1048576) (h : ∀ s ∈ l, (s.f0.size : Int) ≤ left ∧ (s.f1.size : Int) ≤ left) : ∀ e ∈ l.map ofE, e.f0.size ≤ 1048576 := by
  intro e he
  obtain ⟨s, hs, rfl⟩ := List.mem_map.1 he
  have := (h s hs).1
  show s.f0.size ≤ 1048576
  omega
theorem FnExactValidTree (l : List LEntry) (h : l.length * 40 ≤ 140737488351232 ∧ ∀ x ∈ l, Small62 x) : ∃ k, laws_FnExactValidTree.f k l = some true := by
  apply Ev.rounds
  unfold laws_FnExactValidTree.f
  obtain ⟨r, hr, hR⟩ := szTree_ev l (by omega) (fun s hs => ⟨(h.2 s hs).1, (h.2 s hs).2.1⟩) 1048576 (by omega) (by omega)
  refine Ev.bind hr ?_
  rcases hR with rfl | ⟨a, b, c, d⟩
  · exact Ev.pos (by omega) (Ev.now _)
  · have T := toTree_ev l (by omega)
    have hl : (l.map ofE).length ≤ 8796093022208 := by rw [List.length_map]; omega
    exact Ev.neg (by omega) (Ev.bind T (Ev.bind (spec_ValidTree_ev _) (Ev.bind T (Ev.bind (impl_ValidTree_ev _ (ofE_small (by omega) d)) (Ev.neg (by simp) (Ev.bind T (Ev.bind (eqTree_ev _ hl) (Ev.pos rfl (Ev.now _)))))))))

end Go.Proofs.YtkdghhkpmkfjhaaDoor.Pure
