/- spec.DrawCommon ends, and its lists are short. Pairs of a longest list. -/
import Derived.Test.YtnndpbkcldkbgaaPSpecDrawCommon
import Derived.Test.YtnndpbkcldkbgaaDraw1
import Derived.Test.YtnndpbkcldkbgaaLongest
namespace Go.Proofs.Ytnndpbkcldkbgaa.Pure
open Go Go.RowKit Go.Proofs.Ytnndpbkcldkbgaa.P Go.Proofs.YtnndpbkcldkbgaaW.PrintWords Go.Proofs.YtnndpbkcldkbgaaW.PrintLast
set_option linter.unusedVariables false
set_option linter.unusedSimpArgs false

theorem pairs_ok (a b : List ByteArray) : ∀ (n i j : Nat), i ≤ a.length → j ≤ b.length → lc a b i j = n → (pairs a b n i j).length = n ∧ (∀ p ∈ pairs a b n i j, i ≤ p.1 ∧ j ≤ p.2 ∧ ∃ (h : p.1 < a.length) (h' : p.2 < b.length), a[p.1] = b[p.2]) ∧ (pairs a b n i j).Pairwise (fun p q => p.1 < q.1 ∧ p.2 < q.2)
  | 0, i, j, _, _, _ => ⟨rfl, fun p hp => by simp [pairs] at hp, List.Pairwise.nil⟩
  | n + 1, i, j, hi, hj, hn => by
    obtain ⟨x, y, h1, h2, h3⟩ := lc_goes a b _ i j (Nat.le_refl _) (by omega)
    rw [hn] at h3
    obtain ⟨p, hp⟩ := pairFirst_there (n := n + 1) hj (a.length - i) i (by omega) ⟨x, y, h1, h2, h3⟩
    obtain ⟨g1, g2, g3, g4, g5, g6⟩ := pairFirst_some _ _ _ (by omega) hp
    obtain ⟨e1, e2, e3⟩ := pairs_ok a b n (p.1 + 1) (p.2 + 1) (by omega) (by omega) (by omega)
    have e : pairs a b (n + 1) i j = p :: pairs a b n (p.1 + 1) (p.2 + 1) := by
      rw [pairs, hp]
    rw [e]
    refine ⟨by rw [List.length_cons, e1], fun q hq => ?_, List.pairwise_cons.2 ⟨fun q hq => ?_, e3⟩⟩
    · rcases List.mem_cons.1 hq with rfl | hq
      · exact ⟨g1, g2, g3, g4, g5⟩
      · obtain ⟨f1, f2, f3⟩ := e2 q hq
        exact ⟨by omega, by omega, f3⟩
    · obtain ⟨f1, f2, _⟩ := e2 q hq
      omega
theorem l7List_l0 (b : List Int) (hb : Code b) : ∀ (d : Nat) (acc : List ByteArray) (p : Int), acc.length + d ≤ 100 → 0 ≤ p → p + d ≤ 100000 → Evs (fun k => spec_l7List.l0 k acc (d : Int) b p) (fun r => r.1.length = acc.length + d ∧ r.2 = p + d)
  | 0, acc, p, h1, h2, h3 => Evs.step (fun k => spec_l7List.l0.eq_2 ..) (Evs.neg (by omega) (Evs.ret ⟨rfl, by simp⟩))
  | d + 1, acc, p, h1, h2, h3 => by
    refine Evs.step (fun k => spec_l7List.l0.eq_2 ..) (Evs.pos (by omega) (Evs.bind (pick_evs b hb p 3 (by omega) (by omega) (by omega)) (fun t ht => ?_)))
    obtain ⟨⟨t0, t1⟩, t2⟩ := ht
    have hs : (1 : Int) ≤ ((((⟨#[97, 98, 99]⟩ : ByteArray).extract t.1.toNat (⟨#[97, 98, 99]⟩ : ByteArray).size).size : Nat) : Int) := by
      rw [ByteArray.size_extract]
      have : (⟨#[97, 98, 99]⟩ : ByteArray).size = 3 := rfl
      omega
    refine Evs.pos (by omega) (Evs.pos (by omega) (Evs.pos (by omega) (Evs.pos hs (Evs.pos (by omega) ?_))))
    rw [w64 (n := ((d + 1 : Nat) : Int) - 1) (by omega) (by omega), show ((d + 1 : Nat) : Int) - 1 = (d : Int) from by omega, t2]
    refine (l7List_l0 b hb d _ (p + 1) (by rw [List.length_append, List.length_singleton]; omega) (by omega) (by omega)).mono (fun r hr => ?_)
    rw [List.length_append, List.length_singleton] at hr
    refine ⟨by omega, by omega⟩
theorem l7List_evs (b : List Int) (hb : Code b) (p : Int) (h0 : 0 ≤ p) (h1 : p ≤ 1000) : Evs (fun k => spec_l7List.f k b p) (fun r => r.1.length ≤ 10 ∧ 0 ≤ r.2 ∧ r.2 ≤ p + 20) := by
  unfold spec_l7List.f
  refine Evs.bind (pick_evs b hb p 10 (by omega) (by omega) (by omega)) (fun t ht => ?_)
  obtain ⟨⟨t0, t1⟩, t2⟩ := ht
  obtain ⟨m, hm⟩ : ∃ m : Nat, t.1 = (m : Int) := ⟨t.1.toNat, by omega⟩
  rw [hm, t2]
  refine (l7List_l0 b hb m [] (p + 1) (by simp; omega) (by omega) (by omega)).mono (fun r hr => ?_)
  rw [List.length_nil] at hr
  refine ⟨by omega, by omega, by omega⟩
theorem draw_l0 (b : List Int) (hb : Code b) (y : List ByteArray) (p : Int) (h0 : 0 ≤ p) (h1 : p ≤ 1000) : ∀ (d : Nat) (acc : List ByteArray), acc.length + d = 1501 → Evs (fun k => spec_DrawCommon.l0 k acc y b p) (fun r => r.1.length ≤ 1501 ∧ r.2 = y)
  | 0, acc, hd => by
    refine Evs.step (fun k => spec_DrawCommon.l0.eq_2 ..) (Evs.neg (by omega) (Evs.bind (pick_evs b hb p 2 (by omega) (by omega) (by omega)) (fun t ht => ?_)))
    obtain ⟨⟨t0, t1⟩, t2⟩ := ht
    rw [w64 (n := 1500 + t.1) (by omega) (by omega)]
    refine Evs.pos (by omega) (Evs.pos (by omega) (Evs.ret ⟨?_, rfl⟩))
    show (acc.take _).length ≤ 1501
    rw [List.length_take]
    omega
  | d + 1, acc, hd => by
    refine Evs.step (fun k => spec_DrawCommon.l0.eq_2 ..) (Evs.pos (by omega) (Evs.pos (by omega) ?_))
    exact draw_l0 b hb y p h0 h1 d (acc ++ [(⟨#[97]⟩ : ByteArray)]) (by rw [List.length_append, List.length_singleton]; omega)
theorem draw_j0 (b : List Int) (hb : Code b) (x y : List ByteArray) (hx : x.length ≤ 10) (hy : y.length ≤ 40) (p : Int) (h0 : 0 ≤ p) (h1 : p ≤ 900) : Evs (fun k => spec_DrawCommon.j0 k x y b p) (fun r => r.1.length ≤ 1501 ∧ r.2.length ≤ 40) := by
  refine Evs.step (fun k => spec_DrawCommon.j0.eq_2 ..) (Evs.bind (pick_evs b hb p 60 (by omega) (by omega) (by omega)) (fun t ht => ?_))
  obtain ⟨⟨t0, t1⟩, t2⟩ := ht
  rw [t2]
  refine Evs.ite (fun _ => ?_) (fun _ => Evs.ret ⟨by show x.length ≤ 1501; omega, hy⟩)
  exact (draw_l0 b hb y (p + 1) (by omega) (by omega) (1501 - x.length) x (by omega)).mono (fun r hr => ⟨hr.1, by rw [hr.2]; exact hy⟩)
theorem draw_evs (l : List Int) (h : ∀ x ∈ l, 0 ≤ x ∧ x ≤ 255) : Evs (fun k => spec_DrawCommon.f k l) (fun r => r.1.length ≤ 1501 ∧ r.2.length ≤ 40) := by
  obtain ⟨b, hb, e⟩ := open_ev l h
  unfold spec_DrawCommon.f
  rw [e]
  refine Evs.sb (Evs.bind (l7List_evs b hb 0 (by omega) (by omega)) (fun x hx => Evs.bind (l7List_evs b hb x.2 (by omega) (by omega)) (fun y hy => Evs.bind (pick_evs b hb y.2 3 (by omega) (by omega) (by omega)) (fun t ht => ?_))))
  obtain ⟨⟨t0, t1⟩, t2⟩ := ht
  rw [t2]
  refine Evs.ite (fun _ => ?_) (fun _ => draw_j0 b hb x.1 y.1 hx.1 (by omega) (y.2 + 1) (by omega) (by omega))
  refine Evs.sb (Evs.pos (by simp; omega) (Evs.sb (Evs.pos (by simp; omega) ?_)))
  exact draw_j0 b hb x.1 _ hx.1 (by simp; omega) (y.2 + 1) (by omega) (by omega)

end Go.Proofs.Ytnndpbkcldkbgaa.Pure
