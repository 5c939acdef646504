/- Valid decoders, in the reference and in the program; the exact laws' helpers over decoders. Conditions: sizes. -/
import Derived.Test.YtgaibeckblmbbaaPImplValidDecoder
import Derived.Test.YtgaibeckblmbbaaPLawsEqDecoder
import Derived.Test.YtgaibeckblmbbaaPLawsSzDecoder
import Derived.Test.YtgaibeckblmbbaaPLawsToDecoder
import Derived.Test.YtgaibeckblmbbaaPSpecValidDecoder
import Derived.Test.YtgaibeckblmbbaaFront
import Derived.Test.YtgaibeckblmbbaaTexts
namespace Go.Proofs.Ytgaibeckblmbbaa.Pure
open Go Go.RowKit Go.Proofs.Ytgaibeckblmbbaa.P Go.Proofs.YtgaibeckblmbbaaW.PrintWords Go.Proofs.YtgaibeckblmbbaaW.PrintLast
set_option linter.unusedVariables false
set_option linter.unusedSimpArgs false

def framesOk : List ByteArray → Bool
  | [] => true
  | f :: r => if 1 ≤ (f.size : Int) ∧ (f.size : Int) ≤ 1000 then framesOk r else false
def restOk (w : Int) (rest : ByteArray) (bad : Bool) : Bool := if bad = true then rest.toList == ([] : List UInt8) else (front rest w).1 == 0
def validDec (w : Int) (rest : ByteArray) (fr : List ByteArray) (bad : Bool) : Bool :=
  if (1 ≤ w ∧ w ≤ 8) ∧ fr.length ≤ 500 then (if framesOk fr = true then restOk w rest bad else false) else false

theorem spec_VD0 (w : Int) (hw : 1 ≤ w ∧ w ≤ 8) (rest : ByteArray) (hr : rest.size ≤ 140737488351232) (fr : List ByteArray) (bad : Bool) (hl : fr.length ≤ 500) : ∀ (d i : Nat), i + d = fr.length →
    Ev (fun k => spec_ValidDecoder.l0 k (i : Int) w rest fr bad) (if framesOk (fr.drop i) = true then restOk w rest bad else false)
  | 0, i, hd => by
    refine Ev.step (fun k => spec_ValidDecoder.l0.eq_2 ..) (Ev.neg (by omega) ?_)
    rw [List.drop_of_length_le (by omega), framesOk, if_pos rfl]
    unfold restOk
    refine Ev.both (fun _ => Ev.now _) (fun _ => ?_)
    exact Ev.bind (spec_front_ev rest hr w hw) (Ev.now _)
  | d + 1, i, hd => by
    have hi : i < fr.length := by omega
    refine Ev.step (fun k => spec_ValidDecoder.l0.eq_2 ..) (Ev.pos (by omega) (Ev.pos (by omega) ?_))
    rw [rd_eq _ hi, in_eq, List.drop_eq_getElem_cons hi, framesOk]
    refine Ev.sb ?_
    by_cases h : 1 ≤ (fr[i].size : Int) ∧ (fr[i].size : Int) ≤ 1000
    · rw [if_pos h, w64 (by omega) (by omega), show (i : Int) + 1 = ((i + 1 : Nat) : Int) from by omega]
      exact Ev.pos (decide_eq_true h) (spec_VD0 w hw rest hr fr bad hl d (i + 1) (by omega))
    · rw [if_neg h, if_neg (by simp)]
      exact Ev.neg (by simpa using h) (Ev.now _)
theorem spec_ValidDecoder_ev (w : Int) (rest : ByteArray) (hr : rest.size ≤ 140737488351232) (fr : List ByteArray) (bad : Bool) : Ev (fun k => spec_ValidDecoder.f k w rest fr bad) (validDec w rest fr bad) := by
  unfold spec_ValidDecoder.f validDec
  rw [in_eq]
  refine Ev.sb ?_
  by_cases hw : 1 ≤ w ∧ w ≤ 8
  · refine Ev.pos (decide_eq_true hw) (Ev.step (fun k => spec_ValidDecoder.j0.eq_2 ..) ?_)
    by_cases hl : fr.length ≤ 500
    · rw [if_pos ⟨hw, hl⟩]
      exact Ev.neg (by simp; omega) (spec_VD0 w hw rest hr fr bad hl fr.length 0 (by omega))
    · rw [if_neg (fun h => hl h.2)]
      exact Ev.pos (by simp; omega) (Ev.now _)
  · rw [if_neg (fun h => hw h.1)]
    exact Ev.neg (by simpa using hw) (Ev.step (fun k => spec_ValidDecoder.j0.eq_2 ..) (Ev.pos rfl (Ev.now _)))
theorem impl_VD0 (w : Int) (hw : 1 ≤ w ∧ w ≤ 8) (rest : ByteArray) (hr : rest.size ≤ 140737488351232) (fr : List ByteArray) (bad : Bool) (hl : fr.length ≤ 500) : ∀ (d i : Nat), i + d = fr.length →
    Ev (fun k => impl_ValidDecoder.l0 k fr (fr.length : Int) (i : Int) w rest fr bad) (if framesOk (fr.drop i) = true then restOk w rest bad else false)
  | 0, i, hd => by
    refine Ev.step (fun k => impl_ValidDecoder.l0.eq_2 ..) (Ev.neg (by omega) ?_)
    rw [List.drop_of_length_le (by omega), framesOk, if_pos rfl]
    unfold restOk
    refine Ev.both (fun _ => Ev.now _) (fun _ => ?_)
    exact Ev.bind (impl_front_ev rest hr w hw) (Ev.now _)
  | d + 1, i, hd => by
    have hi : i < fr.length := by omega
    refine Ev.step (fun k => impl_ValidDecoder.l0.eq_2 ..) (Ev.pos (by omega) (Ev.pos (by omega) (Ev.pos (by omega) ?_)))
    rw [rd_eq _ hi, impl_in_eq, List.drop_eq_getElem_cons hi, framesOk]
    refine Ev.sb ?_
    by_cases h : 1 ≤ (fr[i].size : Int) ∧ (fr[i].size : Int) ≤ 1000
    · rw [if_pos h, w64 (by omega) (by omega), show (i : Int) + 1 = ((i + 1 : Nat) : Int) from by omega]
      exact Ev.pos (decide_eq_true h) (impl_VD0 w hw rest hr fr bad hl d (i + 1) (by omega))
    · rw [if_neg h, if_neg (by simp)]
      exact Ev.neg (by simpa using h) (Ev.now _)
theorem impl_ValidDecoder_ev (w : Int) (rest : ByteArray) (hr : rest.size ≤ 140737488351232) (fr : List ByteArray) (bad : Bool) : Ev (fun k => impl_ValidDecoder.f k w rest fr bad) (validDec w rest fr bad) := by
  unfold impl_ValidDecoder.f validDec
  rw [impl_in_eq]
  refine Ev.sb ?_
  by_cases hw : 1 ≤ w ∧ w ≤ 8
  · refine Ev.pos (decide_eq_true hw) (Ev.step (fun k => impl_ValidDecoder.j0.eq_2 ..) ?_)
    by_cases hl : fr.length ≤ 500
    · rw [if_pos ⟨hw, hl⟩]
      exact Ev.neg (by simp; omega) (impl_VD0 w hw rest hr fr bad hl fr.length 0 (by omega))
    · rw [if_neg (fun h => hl h.2)]
      exact Ev.pos (by simp; omega) (Ev.now _)
  · rw [if_neg (fun h => hw h.1)]
    exact Ev.neg (by simpa using hw) (Ev.step (fun k => impl_ValidDecoder.j0.eq_2 ..) (Ev.pos rfl (Ev.now _)))

/-! ### the laws' helpers -/
def RoomDec (rest : ByteArray) (fr : List ByteArray) (left r : Int) : Prop := r = -1 ∨ (0 ≤ r ∧ r ≤ left ∧ (fr.length : Int) ≤ left ∧ (∀ s ∈ fr, (s.size : Int) ≤ left) ∧ (rest.size : Int) ≤ left)
theorem szDecoder_ev (w : Int) (rest : ByteArray) (hr : rest.size ≤ 140737488351232) (fr : List ByteArray) (h : fr.length * 16 ≤ 140737488351232 ∧ ∀ s ∈ fr, s.size ≤ 140737488351232) (bad : Bool) (left : Int) (h0 : 0 ≤ left) (h1 : left ≤ 1048576) :
    ∃ r, Ev (fun k => laws_szDecoder.f k w rest fr bad left) r ∧ RoomDec rest fr left r := by
  unfold laws_szDecoder.f RoomDec
  rw [w64 (by omega) (by omega)]
  by_cases hn : left - (rest.size : Int) < 0
  · exact ⟨-1, Ev.pos hn (Ev.now _), .inl rfl⟩
  · obtain ⟨r, hr, hR⟩ := szTexts fr h.1 h.2 (left - (rest.size : Int)) (by omega) (by omega)
    rcases hR with rfl | ⟨a, b, c, d⟩
    · exact ⟨-1, Ev.neg hn (Ev.bind hr (Ev.pos (by omega) (Ev.now _))), .inl rfl⟩
    · exact ⟨r, Ev.neg hn (Ev.bind hr (Ev.neg (by omega) (Ev.now _))), .inr ⟨a, by omega, by omega, fun s hs => by have := d s hs; omega, by omega⟩⟩
theorem toDecoder_ev (w : Int) (rest : ByteArray) (fr : List ByteArray) (bad : Bool) (h : fr.length * 16 ≤ 140737488351232) : Ev (fun k => laws_toDecoder.f k w rest fr bad) (w, rest, fr, bad) := by
  unfold laws_toDecoder.f
  exact Ev.bind (toTexts fr h) (Ev.now _)
theorem eqDecoder_ev (w : Int) (rest : ByteArray) (fr : List ByteArray) (bad : Bool) (h : fr.length ≤ 8796093022208) : Ev (fun k => laws_eqDecoder.f k w rest fr bad w rest fr bad) true := by
  unfold laws_eqDecoder.f
  refine Ev.pos rfl (Ev.pos rfl (Ev.bind (eqTexts fr h) (Ev.pos rfl (Ev.neg (by simp) (Ev.now _)))))

end Go.Proofs.Ytgaibeckblmbbaa.Pure
