/- Marks: what the laws write into a list of texts, and whether it stands. Conditions: sizes. -/
import Derived.Test.YtnndpbkcldkbgaaPLawsHeldStringS
import Derived.Test.YtnndpbkcldkbgaaPLawsMarkStringS
import Derived.Test.YtnndpbkcldkbgaaMarkText
namespace Go.Proofs.Ytnndpbkcldkbgaa.Pure
open Go Go.RowKit Go.Proofs.Ytnndpbkcldkbgaa.P Go.Proofs.YtnndpbkcldkbgaaW.PrintWords Go.Proofs.YtnndpbkcldkbgaaW.PrintLast
set_option linter.unusedVariables false
set_option linter.unusedSimpArgs false

theorem rdL0 {l : List ByteArray} {i : Nat} (h : i < l.length) : rdOf ByteArray.empty l (i : Int) = l[i] := by
  unfold rdOf
  rw [Int.toNat_natCast, List.getD_eq_getElem?_getD, List.getElem?_eq_getElem h]
  rfl
def Marked (l : List ByteArray) (i : Nat) : Prop := ∀ j, (h : j < l.length) → j < i → l[j] = mark (1 + j)
theorem marks_ev : ∀ (d i : Nat) (l : List ByteArray), i + d = l.length → l.length ≤ 1100000 → Marked l i → Evs (fun k => laws_markStringS.l0 k l ((1 + i : Nat) : Int) (i : Int)) (fun r => r.1 = ((1 + l.length : Nat) : Int) ∧ r.2.length = l.length ∧ Marked r.2 l.length)
  | 0, i, l, hd, hl, hm => by
    refine Evs.step (fun k => laws_markStringS.l0.eq_2 ..) (Evs.neg (by omega) (Evs.ret ⟨by simp; omega, rfl, fun j h _ => hm j h (by omega)⟩))
  | d + 1, i, l, hd, hl, hm => by
    refine Evs.step (fun k => laws_markStringS.l0.eq_2 ..) (Evs.pos (by omega) (Evs.bind (Evs.of (mark_spec (1 + i) (by omega)) (Q := fun t => t = mark (1 + i)) rfl) (fun t ht => Evs.pos (by omega) ?_)))
    subst ht
    rw [Int.toNat_natCast, w64 (n := ((1 + i : Nat) : Int) + 1) (by omega) (by omega), w64 (n := (i : Int) + 1) (by omega) (by omega), show ((1 + i : Nat) : Int) + 1 = ((1 + (i + 1) : Nat) : Int) from by omega, show (i : Int) + 1 = ((i + 1 : Nat) : Int) from by omega]
    have := marks_ev d (i + 1) (l.set i (mark (1 + i))) (by rw [List.length_set]; omega) (by rw [List.length_set]; exact hl) (fun j h hj => by
      rw [List.getElem_set]
      split
      · rename_i e
        rw [e]
      · exact hm j (by simpa using h) (by omega))
    rw [List.length_set] at this
    exact this
theorem held_ev (l : List ByteArray) (hl : l.length ≤ 1100000) (hm : Marked l l.length) : ∀ (d i : Nat), i + d = l.length → Ev (fun k => laws_heldStringS.l0 k l ((1 + i : Nat) : Int) (i : Int)) ((1 + l.length : Nat) : Int)
  | 0, i, hd => by
    have e : ((1 + l.length : Nat) : Int) = ((1 + i : Nat) : Int) := by omega
    rw [e]
    exact Ev.step (fun k => laws_heldStringS.l0.eq_2 ..) (Ev.neg (by omega) (Ev.now _))
  | d + 1, i, hd => by
    refine Ev.step (fun k => laws_heldStringS.l0.eq_2 ..) (Ev.pos (by omega) (Ev.pos (by omega) (Ev.bind (mark_spec (1 + i) (by omega)) ?_)))
    rw [rdL0 (show i < l.length by omega), hm i (by omega) (by omega), w64 (n := ((1 + i : Nat) : Int) + 1) (by omega) (by omega), w64 (n := (i : Int) + 1) (by omega) (by omega), show ((1 + i : Nat) : Int) + 1 = ((1 + (i + 1) : Nat) : Int) from by omega, show (i : Int) + 1 = ((i + 1 : Nat) : Int) from by omega]
    exact Ev.pos rfl (held_ev l hl hm d (i + 1) (by omega))
/-- Marked, and held. -/
theorem marked_ev (l : List ByteArray) (hl : l.length ≤ 1100000) : ∃ L : List ByteArray, L.length = l.length ∧ Ev (fun k => laws_markStringS.f k l 1) (((1 + l.length : Nat) : Int), L) ∧ Ev (fun k => laws_heldStringS.f k L 1) ((1 + l.length : Nat) : Int) := by
  obtain ⟨p, ⟨p1, p2, p3⟩, hp⟩ := marks_ev l.length 0 l (by omega) hl (fun j _ hj => by omega)
  refine ⟨p.2, p2, ?_, ?_⟩
  · unfold laws_markStringS.f
    rw [← p1]
    exact hp
  · unfold laws_heldStringS.f
    have := held_ev p.2 (by omega) (by rw [p2]; exact p3) p.2.length 0 (by omega)
    rw [p2] at this
    exact this

end Go.Proofs.Ytnndpbkcldkbgaa.Pure
