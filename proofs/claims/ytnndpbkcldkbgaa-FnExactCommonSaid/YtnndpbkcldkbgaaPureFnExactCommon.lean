/- The law FnExactCommon of the printed functions: for all lists of lines it is true. -/
import Derived.Test.YtnndpbkcldkbgaaPLawsFnExactCommon
import Derived.Test.YtnndpbkcldkbgaaPLawsMarkStringS
import Derived.Test.YtnndpbkcldkbgaaCommon
import Derived.Test.YtnndpbkcldkbgaaTexts
import Derived.Test.YtnndpbkcldkbgaaMarks
namespace Go.Proofs.Ytnndpbkcldkbgaa.Pure
open Go Go.RowKit Go.Proofs.Ytnndpbkcldkbgaa.P Go.Proofs.YtnndpbkcldkbgaaW.PrintWords Go.Proofs.YtnndpbkcldkbgaaW.PrintLast
set_option linter.unusedVariables false
set_option linter.unusedSimpArgs false

theorem marksFrom_ev : ∀ (d i c : Nat) (l : List ByteArray), i + d = l.length → l.length ≤ 2000000 → c + d ≤ 9000000 → ∃ L : List ByteArray, Ev (fun k => laws_markStringS.l0 k l (c : Int) (i : Int)) (((c + d : Nat) : Int), L)
  | 0, i, c, l, hd, hl, hc => ⟨l, Ev.step (fun k => laws_markStringS.l0.eq_2 ..) (Ev.neg (by omega) (Ev.now _))⟩
  | d + 1, i, c, l, hd, hl, hc => by
    obtain ⟨L, hr⟩ := marksFrom_ev d (i + 1) (c + 1) (l.set i (mark c)) (by rw [List.length_set]; omega) (by rw [List.length_set]; exact hl) (by omega)
    refine ⟨L, Ev.step (fun k => laws_markStringS.l0.eq_2 ..) (Ev.pos (by omega) (Ev.bind (mark_spec c (by omega)) (Ev.pos (by omega) ?_)))⟩
    rw [Int.toNat_natCast, w64 (n := (c : Int) + 1) (by omega) (by omega), w64 (n := (i : Int) + 1) (by omega) (by omega), show c + (d + 1) = c + 1 + d from by omega]
    exact hr
theorem rdP {l : List S69} {i : Nat} (h : i < l.length) : rd_T69 l (i : Int) = l[i] := by
  unfold rd_T69
  rw [Int.toNat_natCast, List.getD_eq_getElem?_getD, List.getElem?_eq_getElem h]
  rfl
theorem eqPairs_l0 (l : List S69) (hl : l.length ≤ 2000000) : ∀ (d i : Nat), i + d = l.length → Ev (fun k => laws_eqPairS.l0 k l l (i : Int)) true
  | 0, i, hd => Ev.step (fun k => laws_eqPairS.l0.eq_2 ..) (Ev.neg (by omega) (Ev.now _))
  | d + 1, i, hd => by
    refine Ev.step (fun k => laws_eqPairS.l0.eq_2 ..) (Ev.pos (by omega) (Ev.pos (by omega) (Ev.pos (by omega) ?_)))
    unfold laws_eqPair.f
    rw [if_pos rfl, if_pos rfl, w64 (n := (i : Int) + 1) (by omega) (by omega)]
    exact Ev.sb (Ev.pos rfl (eqPairs_l0 l hl d (i + 1) (by omega)))
theorem eqPairs (l : List S69) (hl : l.length ≤ 2000000) : Ev (fun k => laws_eqPairS.f k l l) true := by
  unfold laws_eqPairS.f
  exact Ev.pos rfl (eqPairs_l0 l hl l.length 0 (by omega))
def MarkedP (l : List S69) (i : Nat) : Prop := ∀ j, (h : j < l.length) → j < i → l[j] = ⟨((1 + 2 * j : Nat) : Int), ((2 + 2 * j : Nat) : Int)⟩
theorem marksP_ev : ∀ (d i : Nat) (l : List S69), i + d = l.length → l.length ≤ 2000000 → MarkedP l i → ∃ L : List S69, L.length = l.length ∧ MarkedP L L.length ∧ Ev (fun k => laws_markPairS.l0 k l ((1 + 2 * i : Nat) : Int) (i : Int)) (((1 + 2 * l.length : Nat) : Int), L)
  | 0, i, l, hd, hl, hm => ⟨l, rfl, fun j h _ => hm j h (by omega), by
      have e : i = l.length := by omega
      subst e
      exact Ev.step (fun k => laws_markPairS.l0.eq_2 ..) (Ev.neg (by omega) (Ev.now _))⟩
  | d + 1, i, l, hd, hl, hm => by
    have hi : i < l.length := by omega
    obtain ⟨L, h1, h2, h3⟩ := marksP_ev d (i + 1) (l.set i ⟨((1 + 2 * i : Nat) : Int), ((2 + 2 * i : Nat) : Int)⟩) (by rw [List.length_set]; omega) (by rw [List.length_set]; exact hl) (fun j hj hji => by
      rw [List.getElem_set]
      split
      · rename_i e
        subst e
        rfl
      · rw [List.length_set] at hj
        exact hm j hj (by omega))
    rw [List.length_set] at h1 h3
    refine ⟨L, h1, h2, Ev.step (fun k => laws_markPairS.l0.eq_2 ..) (Ev.pos (by omega) (Ev.pos (by omega) (Ev.sb ?_)))⟩
    rw [Int.toNat_natCast, rdP (l := l.set i ⟨((1 + 2 * i : Nat) : Int), (rd_T69 l (i : Int)).f1⟩) (i := i) (by rw [List.length_set]; exact hi), List.getElem_set_self, List.set_set, w64 (n := ((1 + 2 * i : Nat) : Int) + 1) (by omega) (by omega), w64 (n := ((1 + 2 * i : Nat) : Int) + 1 + 1) (by omega) (by omega), w64 (n := (i : Int) + 1) (by omega) (by omega), show ((1 + 2 * i : Nat) : Int) + 1 = ((2 + 2 * i : Nat) : Int) from by omega, show ((2 + 2 * i : Nat) : Int) + 1 = ((1 + 2 * (i + 1) : Nat) : Int) from by omega]
    exact h3
theorem heldP_ev (l : List S69) (hl : l.length ≤ 2000000) (hm : MarkedP l l.length) : ∀ (d i : Nat), i + d = l.length → Ev (fun k => laws_heldPairS.l0 k l ((1 + 2 * i : Nat) : Int) (i : Int)) ((1 + 2 * l.length : Nat) : Int)
  | 0, i, hd => by
    have e : i = l.length := by omega
    subst e
    exact Ev.step (fun k => laws_heldPairS.l0.eq_2 ..) (Ev.neg (by omega) (Ev.now _))
  | d + 1, i, hd => by
    have hi : i < l.length := by omega
    have := heldP_ev l hl hm d (i + 1) (by omega)
    refine Ev.step (fun k => laws_heldPairS.l0.eq_2 ..) (Ev.pos (by omega) (Ev.pos (by omega) ?_))
    rw [rdP hi, hm i hi hi, w64 (n := ((1 + 2 * i : Nat) : Int) + 1) (by omega) (by omega), w64 (n := ((1 + 2 * i : Nat) : Int) + 1 + 1) (by omega) (by omega), w64 (n := (i : Int) + 1) (by omega) (by omega)]
    refine Ev.pos rfl (Ev.pos (by show ((2 + 2 * i : Nat) : Int) = _; omega) ?_)
    rw [show ((1 + 2 * i : Nat) : Int) + 1 + 1 = ((1 + 2 * (i + 1) : Nat) : Int) from by omega]
    exact this
theorem impl_Common_now (a b : List ByteArray) : impl_Common.f a b = some (common a b) := by
  unfold impl_Common.f common
  split <;> rfl
theorem FnExactCommon (l0 l1 : List ByteArray) (h0 : l0.length * 16 ≤ 140737488351232 ∧ ∀ x ∈ l0, x.size ≤ 140737488351232) (h1 : l1.length * 16 ≤ 140737488351232 ∧ ∀ x ∈ l1, x.size ≤ 140737488351232) : ∃ k, laws_FnExactCommon.f k l0 l1 = some true := by
  apply Ev.rounds
  unfold laws_FnExactCommon.f
  obtain ⟨r, hr, hR⟩ := szTexts l0 h0.1 h0.2 1048576 (by omega) (by omega)
  refine Ev.bind hr ?_
  rcases hR with rfl | ⟨a, b, c, d⟩
  · exact Ev.pos (by omega) (Ev.now _)
  refine Ev.neg (by omega) ?_
  obtain ⟨r2, hr2, hR2⟩ := szTexts l1 h1.1 h1.2 r (by omega) (by omega)
  refine Ev.bind hr2 ?_
  rcases hR2 with rfl | ⟨a2, b2, c2, d2⟩
  · exact Ev.pos (by omega) (Ev.now _)
  refine Ev.neg (by omega) ?_
  have T := toTexts l0 h0.1
  have U := toTexts l1 h1.1
  have S := spec_Common_ev l0 l1
  have I := impl_Common_now l0 l1
  have hu := common_len l0 l1
  generalize common l0 l1 = R at S I hu
  have Q := eqPairs R (by omega)
  obtain ⟨L, m1⟩ := marksFrom_ev l0.length 0 1 l0 (by omega) (by omega) (by omega)
  obtain ⟨L2, m2⟩ := marksFrom_ev l1.length 0 (1 + l0.length) l1 (by omega) (by omega) (by omega)
  have m1' : Ev (fun k => laws_markStringS.f k l0 1) (((1 + l0.length : Nat) : Int), L) := by
    unfold laws_markStringS.f
    exact m1
  have m2' : Ev (fun k => laws_markStringS.f k l1 ((1 + l0.length : Nat) : Int)) (((1 + l0.length + l1.length : Nat) : Int), L2) := by
    unfold laws_markStringS.f
    exact m2
  obtain ⟨L3, p1, p2, p3⟩ := marksP_ev R.length 0 R (by omega) (by omega) (fun j _ hj => by omega)
  have m3 : Ev (fun k => laws_markPairS.f k R 1) (((1 + 2 * R.length : Nat) : Int), L3) := by
    unfold laws_markPairS.f
    exact p3
  have hh : Ev (fun k => laws_heldPairS.f k L3 1) ((1 + 2 * R.length : Nat) : Int) := by
    unfold laws_heldPairS.f
    rw [← p1]
    exact heldP_ev L3 (by omega) p2 L3.length 0 (by omega)
  have J : Ev (fun k => laws_FnExactCommon.j0 k l0 l1 R R (!true)) true := by
    refine Ev.step (fun k => laws_FnExactCommon.j0.eq_2 ..) (Ev.neg (by simp) (Ev.bind m3 (Ev.bind hh (Ev.neg (by omega) (Ev.pos rfl (Ev.bind T (Ev.bind U ?_)))))))
    rw [I]
    exact Ev.sb (Ev.bind Q (Ev.pos rfl (Ev.bind hh (Ev.neg (by omega) (Ev.pos rfl (Ev.now _))))))
  refine Ev.bind T (Ev.bind U (Ev.bind S (Ev.bind T (Ev.bind U ?_))))
  rw [I]
  exact Ev.sb (Ev.bind Q (Ev.pos rfl (Ev.bind T (Ev.bind (eqTexts l0 (by omega)) (Ev.pos rfl (Ev.bind U (Ev.bind (eqTexts l1 (by omega)) (Ev.pos rfl (Ev.bind m1' (Ev.bind m2' (Ev.neg (by omega) (Ev.bind Q J))))))))))))

end Go.Proofs.Ytnndpbkcldkbgaa.Pure
