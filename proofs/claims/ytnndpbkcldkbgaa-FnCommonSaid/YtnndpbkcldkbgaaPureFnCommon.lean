/- The law FnCommon of the printed functions: for all bytes it is true. -/
import Derived.Test.YtnndpbkcldkbgaaPLawsFnCommon
import Derived.Test.YtnndpbkcldkbgaaWMax
import Derived.Test.YtnndpbkcldkbgaaDrawCommon
namespace Go.Proofs.Ytnndpbkcldkbgaa.Pure
open Go Go.RowKit Go.Proofs.Ytnndpbkcldkbgaa.P Go.Proofs.YtnndpbkcldkbgaaW.PrintWords Go.Proofs.YtnndpbkcldkbgaaW.PrintLast
set_option linter.unusedVariables false
set_option linter.unusedSimpArgs false

theorem rdPC {l : List S69} {i : Nat} (h : i < l.length) : rd_T69 l (i : Int) = l[i] := by
  unfold rd_T69
  rw [Int.toNat_natCast, List.getD_eq_getElem?_getD, List.getElem?_eq_getElem h]
  rfl
theorem impl_Common_nowC (a b : List ByteArray) : impl_Common.f a b = some (common a b) := by
  unfold impl_Common.f common
  split <;> rfl
theorem fnCommon_l0 (A B : List ByteArray) (C : List S69) (hl : C.length ≤ 1500)
    (hC1 : ∀ i, (h : i < C.length) → 0 ≤ C[i].f0 ∧ C[i].f0 < (A.length : Int) ∧ 0 ≤ C[i].f1 ∧ C[i].f1 < (B.length : Int) ∧ rdOf ByteArray.empty A C[i].f0 = rdOf ByteArray.empty B C[i].f1)
    (hC2 : ∀ i, (h : i + 1 < C.length) → C[i].f0 < C[i + 1].f0 ∧ C[i].f1 < C[i + 1].f1) : ∀ (d i : Nat), i + d = C.length → Ev (fun k => laws_FnCommon.l0 k A B C C (i : Int)) true
  | 0, i, hd => Ev.step (fun k => laws_FnCommon.l0.eq_2 ..) (Ev.neg (by omega) (Ev.now _))
  | d + 1, i, hd => by
    have hi : i < C.length := by omega
    obtain ⟨h1, h2, h3, h4, h5⟩ := hC1 i hi
    have ih := fnCommon_l0 A B C hl hC1 hC2 d (i + 1) (by omega)
    refine Ev.step (fun k => laws_FnCommon.l0.eq_2 ..) (Ev.pos (by omega) (Ev.pos (by omega) (Ev.pos (by omega) ?_)))
    rw [rdPC hi, w64 (n := (i : Int) + 1) (by omega) (by omega), show (i : Int) + 1 = ((i + 1 : Nat) : Int) from by omega]
    refine Ev.neg (by simp) (Ev.pos h1 (Ev.pos h2 (Ev.pos h3 (Ev.pos h4 (Ev.pos (by rw [h5]) ?_)))))
    match i, hi, ih with
    | 0, hi, ih => exact Ev.neg (by omega) ih
    | j + 1, hi, ih =>
      obtain ⟨g1, g2⟩ := hC2 j hi
      rw [w64 (n := ((j + 1 : Nat) : Int) - 1) (by omega) (by omega), show ((j + 1 : Nat) : Int) - 1 = (j : Int) from by omega, rdPC (by omega : j < C.length)]
      exact Ev.pos (by omega) (Ev.pos (by omega) (Ev.pos (by omega) (Ev.neg (by omega) (Ev.neg (by omega) ih))))
theorem FnCommon (l0 : List Int) (_h0 : l0.length * 1 ≤ 140737488351232 ∧ ∀ x ∈ l0, (Lit.int .u8 x).wf = true) : ∃ k, laws_FnCommon.f k l0 = some true := by
  suffices h : Evs (fun k => laws_FnCommon.f k l0) (fun r => r = true) by
    obtain ⟨k, r, rfl, hk⟩ := h.rounds
    exact ⟨k, hk⟩
  unfold laws_FnCommon.f
  refine Evs.ite (fun _ => Evs.ret rfl) (fun _ => Evs.bind (draw_evs l0 (bytes_of_wf _h0.2)) (fun x hx => ?_))
  obtain ⟨hx1, hx2⟩ := hx
  rw [impl_Common_nowC]
  refine Evs.sb ?_
  by_cases h1 : (x.1.length : Int) > 1500
  · refine Evs.pos h1 (Evs.step (fun k => laws_FnCommon.j0.eq_2 ..) (Evs.pos rfl (Evs.ret ?_)))
    rw [show common x.1 x.2 = [] from if_pos (.inl (by omega))]
    rfl
  · refine Evs.neg h1 ?_
    rw [show decide ((x.2.length : Int) > 1500) = false from decide_eq_false (by omega)]
    obtain ⟨p1, p2, p3⟩ := pairs_ok x.1 x.2 (lc x.1 x.2 0 0) 0 0 (by omega) (by omega) rfl
    have hc : common x.1 x.2 = (pairs x.1 x.2 (lc x.1 x.2 0 0) 0 0).map fun p => ⟨(p.1 : Int), (p.2 : Int)⟩ := if_neg (by omega)
    have hlen : (common x.1 x.2).length = lc x.1 x.2 0 0 := by rw [hc, List.length_map, p1]
    refine Evs.step (fun k => laws_FnCommon.j0.eq_2 ..) (Evs.neg (by simp) (Evs.bind (Evs.of (wMax_ev x.1 x.2 (by omega) (by omega)) (Q := fun t => t = (lc x.1 x.2 0 0 : Int)) rfl) (fun t ht => ?_)))
    subst ht
    refine Evs.pos (by omega) (Evs.bind (Evs.of (spec_Common_ev x.1 x.2) (Q := fun t => t = common x.1 x.2) rfl) (fun t ht => ?_))
    subst ht
    refine Evs.of (fnCommon_l0 x.1 x.2 _ (common_len x.1 x.2) ?_ ?_ (common x.1 x.2).length 0 (by omega)) rfl
    · rw [hc]
      intro i h
      rw [List.length_map] at h
      obtain ⟨_, _, f1, f2, f3⟩ := p2 _ (List.getElem_mem h)
      rw [List.getElem_map]
      refine ⟨by show (0 : Int) ≤ (_ : Nat); omega, by show ((_ : Nat) : Int) < _; omega, by show (0 : Int) ≤ (_ : Nat); omega, by show ((_ : Nat) : Int) < _; omega, ?_⟩
      show rdOf ByteArray.empty x.1 ((_ : Nat) : Int) = rdOf ByteArray.empty x.2 ((_ : Nat) : Int)
      rw [rd_of f1, rd_of f2, f3]
    · rw [hc]
      intro i h
      rw [List.length_map] at h
      have := (List.pairwise_iff_getElem.1 p3) i (i + 1) (by omega) h (by omega)
      rw [List.getElem_map, List.getElem_map]
      refine ⟨by show ((_ : Nat) : Int) < ((_ : Nat) : Int); omega, by show ((_ : Nat) : Int) < ((_ : Nat) : Int); omega⟩

end Go.Proofs.Ytnndpbkcldkbgaa.Pure
