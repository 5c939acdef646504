/- Rows of one's own out of what a call of the library leaves: a new block of cells. No condition beside sizes. -/
import Derived.Test.YtkdghhkpmkfjhaaDoorWWords
import Derived.Test.YtkdghhkpmkfjhaaDoorWLast
import Derived.Test.YtkdghhkpmkfjhaaDoorWApart
namespace Go.Proofs.YtkdghhkpmkfjhaaDoor.Ow
open Go Go.Proofs.YtkdghhkpmkfjhaaDoorW.PrintWords

theorem reps_map {α : Type} (enc : α → Value) (h1 : ∀ x, (enc x).oneCell' = true) (w : World) (base : Nat) (ok : Nat → Prop) (xs : List α) : Reps ((Kd.scalar enc h1).M w base ok) 1 xs (xs.map enc) := by
  refine ⟨by rw [List.length_map, Nat.mul_one], fun j p hj => ?_⟩
  have hl : j < xs.length := (List.getElem?_eq_some_iff.1 hj).1
  show ((xs.map enc).drop (j * 1)).take 1 = [enc p]
  rw [Nat.mul_one, List.drop_eq_getElem_cons (by rw [List.length_map]; exact hl), List.take_succ_cons, List.take_zero, List.getElem_map]
  have := (List.getElem?_eq_some_iff.1 hj).2
  rw [this]

/-- A new block of cells that are so encoded is a row of one's own. -/
theorem R_new_block {α : Type} (enc : α → Value) (h1 : ∀ x, (enc x).oneCell' = true) (e : Nat) (w : World) (xs : List α) (hl : xs.length ≤ maxLen) :
    Kd.R (Kd.scalar enc h1) e (w.alloc (.cells (xs.map enc).toArray e)) w.heap.size (fun _ => True) (.slice (some ⟨w.heap.size, 0, none⟩) xs.length xs.length) xs := by
  refine ⟨fun _ _ => trivial, xs.map enc, ⟨by rw [List.length_map]; exact (Nat.mul_one _).symm, .inr ⟨w.heap.size, xs.length, (xs.map enc).toArray, rfl, Nat.le_refl _, ?_, Nat.le_refl _, hl, ?_, ?_⟩⟩, reps_map enc h1 _ _ _ _⟩
  · exact heap_alloc_new w _
  · show (xs.map enc).toArray.size = xs.length * 1
    simp
  · show (xs.map enc).toArray.toList.take (xs.length * 1) = xs.map enc
    rw [Nat.mul_one]
    exact List.take_of_length_le (by simp)
end Go.Proofs.YtkdghhkpmkfjhaaDoor.Ow
