/- Several texts of this claim in one file: YtnndpbkcldkbgaaFeed, YtnndpbkcldkbgaaFeedAll, YtnndpbkcldkbgaaPureFnExactFeed. -/
import Derived.Test.YtnndpbkcldkbgaaPLawsFnExactFeed
import Derived.Test.YtnndpbkcldkbgaaPImplShort
import Derived.Test.YtnndpbkcldkbgaaOpens
namespace Go.Proofs.Ytnndpbkcldkbgaa.Pure
open Go Go.RowKit Go.Proofs.Ytnndpbkcldkbgaa.P Go.Proofs.YtnndpbkcldkbgaaW.PrintWords Go.Proofs.YtnndpbkcldkbgaaW.PrintLast
set_option linter.unusedVariables false
set_option linter.unusedSimpArgs false

theorem body_one {s : ByteArray} {w n h : Int} (hw : 1 ≤ w) (hh : 1 ≤ h) (h0 : (body s w n h).1 ≠ 0) (h2 : (body s w n h).1 ≠ 2) : 1 ≤ (body s w n h).2.2 ∧ (body s w n h).2.2 ≤ (s.size : Int) := by
  unfold body at h0 h2 ⊢
  split at h0
  · rename_i hn
    rw [if_pos hn] at h2 ⊢
    split at h0
    · exact absurd rfl h0
    · rename_i hz
      rw [if_neg hz] at h2 ⊢
      split at h0
      · rename_i he
        rw [if_pos he]
        dsimp only
        omega
      · rename_i he
        rw [if_neg he] at h2
        exact absurd rfl h2
  · rename_i hn
    rw [if_neg hn] at h2
    exact absurd rfl h2
theorem front_one {s : ByteArray} {w : Int} (hw : 1 ≤ w) (h0 : (front s w).1 ≠ 0) (h2 : (front s w).1 ≠ 2) : 1 ≤ (front s w).2.2 ∧ (front s w).2.2 ≤ (s.size : Int) := by
  unfold front at h0 h2 ⊢
  by_cases a : s.size = 0
  · rw [if_pos a] at h0
    exact absurd rfl h0
  rw [if_neg a] at h0 h2 ⊢
  by_cases b : bt s 0 < 128
  · rw [if_pos b] at h0 h2 ⊢
    exact body_one hw (by omega) h0 h2
  rw [if_neg b] at h0 h2 ⊢
  by_cases c : s.size = 1
  · rw [if_pos c] at h0
    exact absurd rfl h0
  rw [if_neg c] at h0 h2 ⊢
  by_cases d : bt s 1 = 0 ∨ bt s 1 ≥ 128
  · rw [if_pos d] at h2
    exact absurd rfl h2
  rw [if_neg d] at h0 h2 ⊢
  exact body_one hw (by omega) h0 h2
def feedFrom (w : Int) : Nat → ByteArray → List ByteArray → ByteArray × List ByteArray × Bool
  | 0, s, fr => (s, fr, false)
  | m + 1, s, fr =>
    if (front s w).1 = 0 then (s, fr, false)
    else if (front s w).1 = 2 then (⟨#[]⟩, fr, true)
    else if fr.length ≥ 500 then (⟨#[]⟩, fr, true)
    else feedFrom w m (s.extract (front s w).2.2.toNat s.size) (fr ++ [(front s w).2.1])
theorem spec_Fd0 (w : Int) (hw : 1 ≤ w ∧ w ≤ 8) (a1 : ByteArray) (a2 : List ByteArray) (a3 : Bool) : ∀ (m : Nat) (s : ByteArray) (fr : List ByteArray), s.size < m → s.size ≤ 140737488351232 → fr.length ≤ 500 →
    Ev (fun k => spec_Feed.l0 k s w a1 a2 a3 w ⟨#[]⟩ fr false) (w, (feedFrom w m s fr).1, (feedFrom w m s fr).2.1, (feedFrom w m s fr).2.2)
  | 0, s, fr, h, _, _ => by omega
  | m + 1, s, fr, h, hs, hf => by
    refine Ev.step (fun k => spec_Feed.l0.eq_2 ..) (Ev.bind (spec_front_ev s hs w hw) ?_)
    rw [feedFrom]
    by_cases h0 : (front s w).1 = 0
    · rw [if_pos h0]
      exact Ev.pos h0 (Ev.now _)
    rw [if_neg h0]
    refine Ev.neg h0 ?_
    by_cases h2 : (front s w).1 = 2
    · rw [if_pos h2]
      exact Ev.pos h2 (Ev.now _)
    rw [if_neg h2]
    refine Ev.neg h2 ?_
    by_cases h5 : fr.length ≥ 500
    · rw [if_pos h5]
      exact Ev.pos (by omega) (Ev.now _)
    rw [if_neg h5]
    obtain ⟨f0, f1⟩ := front_one hw.1 h0 h2
    refine Ev.neg (by omega) (Ev.pos (by omega) (Ev.pos (by omega) (Ev.pos f1 ?_)))
    have e : (s.extract (front s w).2.2.toNat s.size).size = s.size - (front s w).2.2.toNat := extract_size _ _ _ (Nat.le_refl _)
    exact spec_Fd0 w hw a1 a2 a3 m _ _ (by omega) (by omega) (by simp; omega)
theorem impl_Fd0 (w : Int) (hw : 1 ≤ w ∧ w ≤ 8) (a1 : ByteArray) : ∀ (m : Nat) (s : ByteArray) (fr : List ByteArray), s.size < m → s.size ≤ 140737488351232 → fr.length ≤ 500 →
    Ev (fun k => impl_Feed.l0 k s w a1 fr false) (w, (feedFrom w m s fr).1, (feedFrom w m s fr).2.1, (feedFrom w m s fr).2.2)
  | 0, s, fr, h, _, _ => by omega
  | m + 1, s, fr, h, hs, hf => by
    refine Ev.step (fun k => impl_Feed.l0.eq_2 ..) (Ev.bind (impl_front_ev s hs w hw) ?_)
    rw [feedFrom]
    by_cases h0 : (front s w).1 = 0
    · rw [if_pos h0]
      exact Ev.pos h0 (Ev.now _)
    rw [if_neg h0]
    refine Ev.neg h0 ?_
    by_cases h2 : (front s w).1 = 2
    · rw [if_pos h2]
      exact Ev.pos h2 (Ev.now _)
    rw [if_neg h2]
    refine Ev.neg h2 ?_
    by_cases h5 : fr.length ≥ 500
    · rw [if_pos h5]
      exact Ev.pos (by omega) (Ev.now _)
    rw [if_neg h5]
    obtain ⟨f0, f1⟩ := front_one hw.1 h0 h2
    refine Ev.neg (by omega) (Ev.pos (by omega) (Ev.pos (by omega) (Ev.pos f1 ?_)))
    have e : (s.extract (front s w).2.2.toNat s.size).size = s.size - (front s w).2.2.toNat := extract_size _ _ _ (Nat.le_refl _)
    exact impl_Fd0 w hw a1 m _ _ (by omega) (by omega) (by simp; omega)

end Go.Proofs.Ytnndpbkcldkbgaa.Pure


namespace Go.Proofs.Ytnndpbkcldkbgaa.Pure
open Go Go.RowKit Go.Proofs.Ytnndpbkcldkbgaa.P Go.Proofs.YtnndpbkcldkbgaaW.PrintWords Go.Proofs.YtnndpbkcldkbgaaW.PrintLast
set_option linter.unusedVariables false
set_option linter.unusedSimpArgs false

def feed (w : Int) (rest : ByteArray) (fr : List ByteArray) (bad : Bool) (b : ByteArray) : Int × ByteArray × List ByteArray × Bool :=
  if validDec w rest fr bad = true then
    (if bad = true then (w, ⟨#[]⟩, fr, true)
    else (w, (feedFrom w ((rest ++ b).size + 1) (rest ++ b) fr).1, (feedFrom w ((rest ++ b).size + 1) (rest ++ b) fr).2.1, (feedFrom w ((rest ++ b).size + 1) (rest ++ b) fr).2.2))
  else (0, ⟨#[]⟩, [], false)
theorem validDec_parts {w : Int} {rest : ByteArray} {fr : List ByteArray} {bad : Bool} (h : validDec w rest fr bad = true) : (1 ≤ w ∧ w ≤ 8) ∧ fr.length ≤ 500 ∧ (bad = true → rest = ⟨#[]⟩) := by
  unfold validDec at h
  by_cases h1 : (1 ≤ w ∧ w ≤ 8) ∧ fr.length ≤ 500
  · rw [if_pos h1] at h
    by_cases h2 : framesOk fr = true
    · rw [if_pos h2] at h
      refine ⟨h1.1, h1.2, fun hb => ?_⟩
      unfold restOk at h
      rw [if_pos hb] at h
      apply ba_ext
      rw [← Lib.toList_data, beq_iff_eq.1 h]
    · rw [if_neg h2] at h
      cases h
  · rw [if_neg h1] at h
    cases h
theorem spec_Feed_ev (w : Int) (rest : ByteArray) (fr : List ByteArray) (bad : Bool) (b : ByteArray) (hr : rest.size ≤ 10000000) (hb : b.size ≤ 10000000) : Ev (fun k => spec_Feed.f k w rest fr bad b) (feed w rest fr bad b) := by
  unfold spec_Feed.f feed
  refine Ev.bind (spec_ValidDecoder_ev w rest (by omega) fr bad) ?_
  by_cases h : validDec w rest fr bad = true
  · obtain ⟨hw, hl, _⟩ := validDec_parts h
    rw [if_pos h]
    refine Ev.pos h (Ev.sb (Ev.pos (by simp; omega) (Ev.sb ?_)))
    rw [List.nil_append]
    by_cases hbad : bad = true
    · subst hbad
      rw [if_pos rfl]
      exact Ev.pos rfl (Ev.now _)
    · rw [if_neg hbad]
      obtain rfl : bad = false := Bool.eq_false_iff.2 hbad
      have e : (rest ++ b).size = rest.size + b.size := ByteArray.size_append
      exact Ev.neg hbad (Ev.pos (by omega) (spec_Fd0 w hw rest fr false _ _ fr (Nat.lt_succ_self _) (by omega) hl))
  · rw [if_neg h]
    exact Ev.neg h (Ev.now _)
theorem impl_Feed_ev (w : Int) (rest : ByteArray) (fr : List ByteArray) (bad : Bool) (b : ByteArray) (hr : rest.size ≤ 10000000) (hb : b.size ≤ 10000000) : Ev (fun k => impl_Feed.f k w rest fr bad b) (feed w rest fr bad b) := by
  unfold impl_Feed.f feed
  refine Ev.bind (impl_ValidDecoder_ev w rest (by omega) fr bad) ?_
  by_cases h : validDec w rest fr bad = true
  · obtain ⟨hw, hl, hre⟩ := validDec_parts h
    have hc : slices_Clone_string_string.f fr = some fr := by
      unfold slices_Clone_string_string.f
      rw [if_pos (by omega)]
    rw [if_pos h, hc]
    refine Ev.pos h (Ev.sb ?_)
    by_cases hbad : bad = true
    · rw [if_pos hbad, hre hbad]
      subst hbad
      exact Ev.pos rfl (Ev.now _)
    · rw [if_neg hbad]
      obtain rfl : bad = false := Bool.eq_false_iff.2 hbad
      have e : (rest ++ b).size = rest.size + b.size := ByteArray.size_append
      exact Ev.neg hbad (Ev.pos (by omega) (impl_Fd0 w hw rest _ _ fr (Nat.lt_succ_self _) (by omega) hl))
  · rw [if_neg h]
    exact Ev.neg h (Ev.now _)

end Go.Proofs.Ytnndpbkcldkbgaa.Pure


namespace Go.Proofs.Ytnndpbkcldkbgaa.Pure
open Go Go.RowKit Go.Proofs.Ytnndpbkcldkbgaa.P Go.Proofs.YtnndpbkcldkbgaaW.PrintWords Go.Proofs.YtnndpbkcldkbgaaW.PrintLast
set_option linter.unusedVariables false
set_option linter.unusedSimpArgs false

theorem feedFrom_len (w : Int) : ∀ (m : Nat) (s : ByteArray) (fr : List ByteArray), fr.length ≤ 500 → (feedFrom w m s fr).2.1.length ≤ 500
  | 0, s, fr, h => h
  | m + 1, s, fr, h => by
    unfold feedFrom
    split
    · exact h
    · split
      · exact h
      · split
        · exact h
        · exact feedFrom_len w m _ _ (by rw [List.length_append, List.length_singleton]; omega)
theorem feed_len (w : Int) (rest : ByteArray) (fr : List ByteArray) (bad : Bool) (b : ByteArray) : (feed w rest fr bad b).2.2.1.length ≤ 500 := by
  unfold feed
  split
  · rename_i h
    have hl := (validDec_parts h).2.1
    split
    · exact hl
    · exact feedFrom_len w _ _ fr hl
  · simp
theorem markDec {w : Int} {rest : ByteArray} {l L : List ByteArray} {bad : Bool} {n : Int} (h : Ev (fun k => laws_markStringS.f k l 1) (n, L)) : Ev (fun k => laws_markDecoder.f k w rest l bad 1) (n, L) := by
  unfold laws_markDecoder.f
  exact Ev.bind h (Ev.now _)
theorem heldDec {w : Int} {rest : ByteArray} {L : List ByteArray} {bad : Bool} {n : Int} (hn : ¬ n < 0) (h : Ev (fun k => laws_heldStringS.f k L 1) n) : Ev (fun k => laws_heldDecoder.f k w rest L bad 1) n := by
  unfold laws_heldDecoder.f
  exact Ev.bind h (Ev.neg hn (Ev.now _))
theorem FnExactFeed (w : Int) (rest : ByteArray) (fr : List ByteArray) (bad : Bool) (b : ByteArray)
    (h : (Lit.int .i64 w).wf = true ∧ rest.size ≤ 140737488351232 ∧ (fr.length * 16 ≤ 140737488351232 ∧ ∀ s ∈ fr, s.size ≤ 140737488351232) ∧ True) (_hb : b.size ≤ 140737488351232) : ∃ k, laws_FnExactFeed.f k w rest fr bad b = some true := by
  apply Ev.rounds
  obtain ⟨_, hr, hf, _⟩ := h
  unfold laws_FnExactFeed.f
  by_cases hb : (b.size : Int) > 1048576
  · exact Ev.pos hb (Ev.now _)
  refine Ev.neg hb ?_
  obtain ⟨r, hr1, hR⟩ := szDecoder_ev w rest hr fr hf bad 1048576 (by omega) (by omega)
  have T := toDecoder_ev w rest fr bad hf.1
  refine Ev.bind hr1 ?_
  rcases hR with rfl | ⟨p, q, c, d, e⟩
  · exact Ev.pos (by omega) (Ev.now _)
  have S := spec_Feed_ev w rest fr bad b (by omega) (by omega)
  have I := impl_Feed_ev w rest fr bad b (by omega) (by omega)
  have hl := feed_len w rest fr bad b
  generalize feed w rest fr bad b = R at S I hl
  obtain ⟨W, Re, F, B⟩ := R
  dsimp only at hl
  have Q := eqDecoder_ev W Re F B (by omega)
  obtain ⟨L, _, m1, _⟩ := marked_ev fr (by omega)
  obtain ⟨L2, _, m2, h2⟩ := marked_ev F (by omega)
  have J : Ev (fun k => laws_FnExactFeed.j0 k b (!true) w rest fr bad W Re F B W Re F B) true := by
    refine Ev.step (fun k => laws_FnExactFeed.j0.eq_2 ..) (Ev.neg (by simp) (Ev.bind (markDec m2) (Ev.bind (heldDec (by omega) h2) (Ev.neg (by omega) (Ev.pos rfl ?_)))))
    exact Ev.bind T (Ev.bind I (Ev.bind Q (Ev.pos rfl (Ev.bind (heldDec (by omega) h2) (Ev.neg (by omega) (Ev.pos rfl (Ev.now _)))))))
  refine Ev.neg (by omega) (Ev.bind T (Ev.bind S (Ev.bind T (Ev.bind I (Ev.bind Q (Ev.pos rfl (Ev.bind T (Ev.bind (eqDecoder_ev w rest fr bad (by omega)) (Ev.pos rfl (Ev.bind (markDec m1) (Ev.neg (by omega) (Ev.bind Q J))))))))))))

end Go.Proofs.Ytnndpbkcldkbgaa.Pure

