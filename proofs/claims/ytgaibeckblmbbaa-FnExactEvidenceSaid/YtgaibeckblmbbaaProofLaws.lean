/- The helpers of the exact laws over proofs. Conditions: sizes. -/
import Derived.Test.YtgaibeckblmbbaaPLawsEqProof
import Derived.Test.YtgaibeckblmbbaaPLawsSzProof
import Derived.Test.YtgaibeckblmbbaaPLawsToProof
import Derived.Test.YtgaibeckblmbbaaTexts
namespace Go.Proofs.Ytgaibeckblmbbaa.Pure
open Go Go.RowKit Go.Proofs.Ytgaibeckblmbbaa.P Go.Proofs.YtgaibeckblmbbaaW.PrintWords Go.Proofs.YtgaibeckblmbbaaW.PrintLast
set_option linter.unusedVariables false
set_option linter.unusedSimpArgs false

def RoomProof (l : List ByteArray) (x : ByteArray) (left r : Int) : Prop := r = -1 ∨ (0 ≤ r ∧ r ≤ left ∧ (l.length : Int) ≤ left ∧ (∀ s ∈ l, (s.size : Int) ≤ left) ∧ (x.size : Int) ≤ left)
theorem szProof_ev (l : List ByteArray) (t : Bool) (x : ByteArray) (h : (l.length * 16 ≤ 140737488351232 ∧ ∀ s ∈ l, s.size ≤ 140737488351232)) (hx : x.size ≤ 140737488351232) (left : Int) (h0 : 0 ≤ left) (h1 : left ≤ 1048576) :
    ∃ r, Ev (fun k => laws_szProof.f k l t x left) r ∧ RoomProof l x left r := by
  obtain ⟨r, hr, hR⟩ := szTexts l h.1 h.2 left h0 h1
  unfold laws_szProof.f RoomProof
  rcases hR with rfl | ⟨a, b, c, d⟩
  · exact ⟨-1, Ev.bind hr (Ev.congr (fun k => by rw [if_pos (by omega)]) (Ev.now _)), .inl rfl⟩
  · by_cases hn : r - (x.size : Int) < 0
    · exact ⟨-1, Ev.bind hr (Ev.congr (fun k => by rw [if_neg (by omega), w64 (by omega) (by omega), if_pos hn]) (Ev.now _)), .inl rfl⟩
    · exact ⟨r - (x.size : Int), Ev.bind hr (Ev.congr (fun k => by rw [if_neg (by omega), w64 (by omega) (by omega), if_neg hn]) (Ev.now _)), .inr ⟨by omega, by omega, c, d, by omega⟩⟩
theorem toProof_ev (l : List ByteArray) (t : Bool) (x : ByteArray) (h : l.length * 16 ≤ 140737488351232) : Ev (fun k => laws_toProof.f k l t x) (l, t, x) := by
  unfold laws_toProof.f
  exact Ev.bind (toTexts l h) (Ev.now _)
theorem eqProof_ev (l : List ByteArray) (t : Bool) (x : ByteArray) (h : l.length ≤ 8796093022208) : Ev (fun k => laws_eqProof.f k l t x l t x) true := by
  unfold laws_eqProof.f
  refine Ev.bind (eqTexts l h) (Ev.congr (fun k => ?_) (Ev.now _))
  cases t <;> simp

end Go.Proofs.Ytgaibeckblmbbaa.Pure
