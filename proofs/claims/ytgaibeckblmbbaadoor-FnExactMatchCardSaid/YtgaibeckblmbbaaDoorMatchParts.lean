/- Globs against paths, part by part. Conditions: sizes. -/
import Derived.Test.YtgaibeckblmbbaaDoorPImplMatch
import Derived.Test.YtgaibeckblmbbaaDoorPSpecMatch
import Derived.Test.YtgaibeckblmbbaaDoorMatch
namespace Go.Proofs.YtgaibeckblmbbaaDoor.Pure
open Go Go.RowKit Go.Proofs.YtgaibeckblmbbaaDoor.P Go.Proofs.YtgaibeckblmbbaaDoorW.PrintWords Go.Proofs.YtgaibeckblmbbaaDoorW.PrintLast
set_option linter.unusedVariables false
set_option linter.unusedSimpArgs false

def globM : List ByteArray → List ByteArray → Bool
  | [], p => p.isEmpty
  | g :: gs, [] => if g.toList = ([42, 42] : List UInt8) then globM gs [] else false
  | g :: gs, b :: p => if g.toList = ([42, 42] : List UInt8) then globM gs (b :: p) || globM (g :: gs) p else wild g.data.toList b.data.toList && globM gs p
termination_by g p => g.length + p.length
def Shorts (l : List ByteArray) : Prop := ∀ s ∈ l, s.size ≤ 1000
theorem Shorts.tl {a : ByteArray} {l : List ByteArray} (h : Shorts (a :: l)) : Shorts l := fun s hs => h s (List.mem_cons_of_mem _ hs)
theorem Shorts.drop {l : List ByteArray} (h : Shorts l) (n : Nat) : Shorts (l.drop n) := fun s hs => h s (List.mem_of_mem_drop hs)
theorem spec_match_ev : ∀ (n : Nat) (g p : List ByteArray), g.length + p.length ≤ n → Ev (fun k => spec_l4Match.f k g p) (globM g p) := by
  intro n
  induction n with
  | zero =>
    intro g p hn
    obtain rfl : g = [] := List.length_eq_zero_iff.1 (by omega)
    obtain rfl : p = [] := List.length_eq_zero_iff.1 (by omega)
    refine Ev.step (fun k => spec_l4Match.f.eq_2 ..) (Ev.pos rfl ?_)
    rw [globM]
    exact Ev.now _
  | succ n ih =>
    intro g p hn
    cases g with
    | nil =>
      refine Ev.step (fun k => spec_l4Match.f.eq_2 ..) (Ev.pos rfl ?_)
      rw [globM]
      cases p with
      | nil => exact Ev.now _
      | cons b p =>
        rw [show (((b :: p).length : Int) == 0) = (b :: p).isEmpty from by simp; omega]
        exact Ev.now _
    | cons a gs =>
      rw [List.length_cons] at hn
      have h0 : rdOf ByteArray.empty (a :: gs) 0 = a := rfl
      have hl : (1 : Int) ≤ ((a :: gs).length : Int) := by simp; omega
      refine Ev.step (fun k => spec_l4Match.f.eq_2 ..) (Ev.neg (by omega) (Ev.pos (by omega) ?_))
      rw [h0, show (a :: gs).drop 1 = gs from rfl]
      cases p with
      | nil =>
        rw [globM]
        by_cases h : a.toList = ([42, 42] : List UInt8)
        · rw [if_pos h]
          refine Ev.pos h (Ev.pos hl (Ev.bind (ih gs [] (by simp at hn ⊢; omega)) ?_))
          by_cases hw : globM gs [] = true
          · rw [hw]
            exact Ev.pos rfl (Ev.now _)
          · rw [Bool.eq_false_iff.2 hw]
            exact Ev.neg (by simp) (Ev.neg (by simp) (Ev.now _))
        · rw [if_neg h]
          exact Ev.neg h (Ev.neg (by simp) (Ev.now _))
      | cons b ps =>
        rw [List.length_cons] at hn
        have hlp : ((b :: ps).length : Int) > 0 := by rw [List.length_cons]; omega
        rw [globM, show (b :: ps).drop 1 = ps from rfl, show rdOf ByteArray.empty (b :: ps) 0 = b from rfl]
        by_cases h : a.toList = ([42, 42] : List UInt8)
        · rw [if_pos h]
          refine Ev.pos h (Ev.pos hl (Ev.bind (ih gs (b :: ps) (by simp; omega)) ?_))
          by_cases hw : globM gs (b :: ps) = true
          · rw [hw, Bool.true_or]
            exact Ev.pos rfl (Ev.now _)
          · rw [Bool.eq_false_iff.2 hw, Bool.false_or]
            exact Ev.neg (by simp) (Ev.pos hlp (Ev.pos (by omega) (Ev.bind (ih (a :: gs) ps (by simp; omega)) (Ev.now _))))
        · rw [if_neg h]
          refine Ev.neg h (Ev.pos hlp (Ev.pos (by omega) (Ev.bind (spec_bytes_ev _ a b (Nat.le_refl _)) ?_)))
          by_cases hw : wild a.data.toList b.data.toList = true
          · rw [hw, Bool.true_and]
            exact Ev.pos rfl (Ev.pos hl (Ev.pos (by omega) (Ev.bind (ih gs ps (by omega)) (Ev.now _))))
          · rw [Bool.eq_false_iff.2 hw, Bool.false_and]
            exact Ev.neg (by simp) (Ev.now _)
/-- Two stars: from some place on. -/
theorem globM_star {a : ByteArray} (h : a.toList = ([42, 42] : List UInt8)) (gs : List ByteArray) : ∀ p, globM (a :: gs) p = ((List.range (p.length + 1)).any fun j => globM gs (p.drop j))
  | [] => by
    rw [globM, if_pos h]
    simp
  | b :: p => by
    rw [globM, if_pos h, globM_star h gs p, List.length_cons, List.range_succ_eq_map (n := p.length + 1), List.any_cons, List.any_map]
    rfl
theorem impl_match_ev : ∀ (n : Nat) (g p : List ByteArray), g.length ≤ n → p.length ≤ 1000 → Shorts g → Shorts p → Ev (fun k => impl_matchParts.f k g p) (globM g p) := by
  intro n
  induction n with
  | zero =>
    intro g p hn hp _ _
    obtain rfl : g = [] := List.length_eq_zero_iff.1 (by omega)
    refine Ev.step (fun k => impl_matchParts.f.eq_2 ..) (Ev.pos rfl ?_)
    rw [globM]
    cases p with
    | nil => exact Ev.now _
    | cons b p =>
      rw [show (((b :: p).length : Int) == 0) = (b :: p).isEmpty from by simp; omega]
      exact Ev.now _
  | succ n ih =>
    intro g p hn hp hg hps
    cases g with
    | nil =>
      refine Ev.step (fun k => impl_matchParts.f.eq_2 ..) (Ev.pos rfl ?_)
      rw [globM]
      cases p with
      | nil => exact Ev.now _
      | cons b p =>
        rw [show (((b :: p).length : Int) == 0) = (b :: p).isEmpty from by simp; omega]
        exact Ev.now _
    | cons a gs =>
      rw [List.length_cons] at hn
      have h0 : rdOf ByteArray.empty (a :: gs) 0 = a := rfl
      have hl : (1 : Int) ≤ ((a :: gs).length : Int) := by simp; omega
      refine Ev.step (fun k => impl_matchParts.f.eq_2 ..) (Ev.neg (by omega) (Ev.pos (by omega) ?_))
      rw [h0]
      by_cases h : a.toList = ([42, 42] : List UInt8)
      · refine Ev.pos h ?_
        rw [globM_star h]
        have loop : ∀ (d i : Nat), i + d = p.length + 1 → Ev (fun k => impl_matchParts.l0 k (a :: gs) p (i : Int)) ((List.range' i d).any fun j => globM gs (p.drop j)) := by
          intro d
          induction d with
          | zero =>
            intro i hd
            exact Ev.step (fun k => impl_matchParts.l0.eq_2 ..) (Ev.neg (by omega) (Ev.now _))
          | succ d ihd =>
            intro i hd
            refine Ev.step (fun k => impl_matchParts.l0.eq_2 ..) (Ev.pos (by omega) (Ev.pos hl (Ev.pos (by omega) ?_)))
            rw [show (a :: gs).drop 1 = gs from rfl, Int.toNat_natCast, w64 (by omega) (by omega), show (i : Int) + 1 = ((i + 1 : Nat) : Int) from by omega, List.range'_succ, List.any_cons]
            refine Ev.bind (ih gs (p.drop i) (by omega) (by rw [List.length_drop]; omega) hg.tl (hps.drop i)) ?_
            by_cases hw : globM gs (p.drop i) = true
            · rw [hw, Bool.true_or]
              exact Ev.pos rfl (Ev.now _)
            · rw [Bool.eq_false_iff.2 hw, Bool.false_or]
              exact Ev.neg (by simp) (ihd (i + 1) (by omega))
        have := loop (p.length + 1) 0 (by omega)
        rwa [← List.range_eq_range'] at this
      · refine Ev.neg h ?_
        cases p with
        | nil =>
          rw [globM, if_neg h]
          exact Ev.neg (by simp) (Ev.now _)
        | cons b ps =>
          rw [List.length_cons] at hp
          have hlp : ((b :: ps).length : Int) > 0 := by rw [List.length_cons]; omega
          rw [globM, if_neg h, show (b :: ps).drop 1 = ps from rfl, show (a :: gs).drop 1 = gs from rfl, show rdOf ByteArray.empty (b :: ps) 0 = b from rfl]
          refine Ev.pos hlp (Ev.pos (by omega) (Ev.bind (impl_bytes_ev a b (hg a (List.mem_cons_self ..)) (hps b (List.mem_cons_self ..))) ?_))
          by_cases hw : wild a.data.toList b.data.toList = true
          · rw [hw, Bool.true_and]
            exact Ev.pos rfl (Ev.pos hl (Ev.pos (by omega) (Ev.bind (ih gs ps (by omega) (by omega) hg.tl hps.tl) (Ev.now _))))
          · rw [Bool.eq_false_iff.2 hw, Bool.false_and]
            exact Ev.neg (by simp) (Ev.now _)

theorem pathOk_shorts {s : ByteArray} {g : Bool} (h : pathOk s g = true) : Shorts (piecesB 47 s) ∧ (piecesB 47 s).length ≤ 6 := by
  unfold pathOk at h
  split at h
  · cases h
  · rename_i h6
    refine ⟨fun p hp => ?_, by omega⟩
    have := List.all_eq_true.1 h p hp
    unfold partOk at this
    by_cases hz : 1 ≤ (p.size : Int) ∧ (p.size : Int) ≤ 20
    · omega
    · rw [if_neg hz] at this
      cases this
def matchOk (g p : ByteArray) : Bool := if pathOk g true = true then (if pathOk p false = true then globM (piecesB 47 g) (piecesB 47 p) else false) else false
theorem spec_Match_ev (g p : ByteArray) (hg : g.size ≤ 1048576) (hp : p.size ≤ 1048576) : Ev (fun k => spec_Match.f k g p) (matchOk g p) := by
  unfold spec_Match.f spec_ValidGlob.f spec_ValidPath.f matchOk
  refine Ev.bind (Ev.bind (spec_ok_ev g true) (Ev.now _)) ?_
  by_cases h1 : pathOk g true = true
  · rw [if_pos h1]
    refine Ev.pos h1 (Ev.bind (Ev.bind (spec_ok_ev p false) (Ev.now _)) ?_)
    by_cases h2 : pathOk p false = true
    · rw [if_pos h2]
      exact Ev.pos h2 (Ev.bind (spec_parts_ev g hg) (Ev.bind (spec_parts_ev p hp) (Ev.bind (spec_match_ev _ _ _ (Nat.le_refl _)) (Ev.now _))))
    · rw [if_neg h2]
      exact Ev.neg h2 (Ev.now _)
  · rw [if_neg h1]
    exact Ev.neg h1 (Ev.now _)
theorem impl_Match_ev (g p : ByteArray) (hg : g.size ≤ 1048576) (hp : p.size ≤ 1048576) : Ev (fun k => impl_Match.f k g p) (matchOk g p) := by
  unfold impl_Match.f impl_ValidGlob.f impl_ValidPath.f matchOk
  refine Ev.bind (Ev.bind (impl_parts_ev g hg true) (Ev.now _)) ?_
  by_cases h1 : pathOk g true = true
  · rw [if_pos h1]
    refine Ev.pos h1 (Ev.bind (Ev.bind (impl_parts_ev p hp false) (Ev.now _)) ?_)
    by_cases h2 : pathOk p false = true
    · rw [if_pos h2, split_eq 47 g (by omega), split_eq 47 p (by omega)]
      obtain ⟨a1, a2⟩ := pathOk_shorts h1
      obtain ⟨b1, b2⟩ := pathOk_shorts h2
      exact Ev.pos h2 (Ev.sb (Ev.sb (Ev.bind (impl_match_ev _ _ _ (Nat.le_refl _) (by omega) a1 b1) (Ev.now _))))
    · rw [if_neg h2]
      exact Ev.neg h2 (Ev.now _)
  · rw [if_neg h1]
    exact Ev.neg h1 (Ev.now _)

end Go.Proofs.YtgaibeckblmbbaaDoor.Pure
