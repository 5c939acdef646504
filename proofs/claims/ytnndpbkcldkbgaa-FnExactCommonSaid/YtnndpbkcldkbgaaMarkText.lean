/- Marks: the text that the laws write for a number. Conditions: sizes. -/
import Derived.Test.YtnndpbkcldkbgaaPLawsMarkText
import Derived.Test.YtnndpbkcldkbgaaBase
namespace Go.Proofs.Ytnndpbkcldkbgaa.Pure
open Go Go.RowKit Go.Proofs.Ytnndpbkcldkbgaa.P Go.Proofs.YtnndpbkcldkbgaaW.PrintWords Go.Proofs.YtnndpbkcldkbgaaW.PrintLast
set_option linter.unusedVariables false
set_option linter.unusedSimpArgs false

/-! ### marks -/
theorem mark_l0 : ∀ (m : Nat) (x : Int) (t : ByteArray), 0 ≤ x → x ≤ m → t.size + m ≤ 100000000 → ∃ r, Ev (fun k => laws_markText.l0 k x t) r
  | 0, x, t, h0, h1, h2 => ⟨_, Ev.step (fun k => laws_markText.l0.eq_2 ..) (Ev.neg (by omega) (Ev.pos (by omega) (Ev.now _)))⟩
  | m + 1, x, t, h0, h1, h2 => by
    by_cases h : x > 0
    · have hd : Int.tdiv x 10 = x / 10 := Int.tdiv_eq_ediv_of_nonneg h0
      obtain ⟨r, hr⟩ := mark_l0 m (Int.tdiv x 10) (strOfNums [(wrap64 (48 + (Int.tmod x 10))) % 256] ++ t) (by omega) (by omega) (by rw [ByteArray.size_append, son_size]; simp; omega)
      refine ⟨r, Ev.step (fun k => laws_markText.l0.eq_2 ..) (Ev.pos h (Ev.sb (Ev.pos (by rw [son_size]; simp; omega) ?_)))⟩
      rw [w64 (n := Int.tdiv x 10) (by omega) (by omega)]
      exact hr
    · exact ⟨_, Ev.step (fun k => laws_markText.l0.eq_2 ..) (Ev.neg h (Ev.pos (by omega) (Ev.now _)))⟩
theorem mark_ev (n : Nat) (h : n ≤ 10000000) : ∃ r, Ev (fun k => laws_markText.f k (n : Int)) r := by
  unfold laws_markText.f
  by_cases h0 : (n : Int) ≤ 0
  · exact ⟨_, Ev.pos h0 (Ev.now _)⟩
  · obtain ⟨r, hr⟩ := mark_l0 n n ⟨#[]⟩ (by omega) (by omega) (by have : (⟨#[]⟩ : ByteArray).size = 0 := rfl; omega)
    exact ⟨r, Ev.neg h0 hr⟩
noncomputable def mark (n : Nat) : ByteArray := if h : n ≤ 10000000 then (mark_ev n h).choose else ⟨#[]⟩
theorem mark_spec (n : Nat) (h : n ≤ 10000000) : Ev (fun k => laws_markText.f k (n : Int)) (mark n) := by
  unfold mark
  rw [dif_pos h]
  exact (mark_ev n h).choose_spec

end Go.Proofs.Ytnndpbkcldkbgaa.Pure
