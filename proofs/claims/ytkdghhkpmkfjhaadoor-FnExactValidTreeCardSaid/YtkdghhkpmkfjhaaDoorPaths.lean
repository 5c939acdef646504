/- Parts of paths and globs, in the reference and in the program. Conditions: sizes. -/
import Derived.Test.YtkdghhkpmkfjhaaDoorPImplParts
import Derived.Test.YtkdghhkpmkfjhaaDoorPSpecL4Ok
import Derived.Test.YtkdghhkpmkfjhaaDoorCuts
namespace Go.Proofs.YtkdghhkpmkfjhaaDoor.Pure
open Go Go.RowKit Go.Proofs.YtkdghhkpmkfjhaaDoor.P Go.Proofs.YtkdghhkpmkfjhaaDoorW.PrintWords Go.Proofs.YtkdghhkpmkfjhaaDoorW.PrintLast
set_option linter.unusedVariables false
set_option linter.unusedSimpArgs false

theorem in_eq4 (a b c : Int) : spec_l1In.f a b c = some (decide (b ≤ a ∧ a ≤ c)) := by
  unfold spec_l1In.f
  by_cases h : a ≥ b
  · rw [if_pos h]
    congr 1
    simp [h]
  · rw [if_neg h]
    congr 1
    simp [h]
theorem impl_in_eq4 (a b c : Int) : impl_in.f a b c = some (decide (b ≤ a ∧ a ≤ c)) := by
  unfold impl_in.f
  by_cases h : a ≥ b
  · rw [if_pos h]
    congr 1
    simp [h]
  · rw [if_neg h]
    congr 1
    simp [h]
def charOk (g : Bool) (b : Int) : Bool := if b < 33 then false else if b > 126 then false else if b = 47 then false else if b = 34 then false else if g = true then true else if b = 42 then false else if b = 63 then false else true
def allOk (g : Bool) (s : ByteArray) (i : Nat) : Bool := (s.data.toList.drop i).all fun b => charOk g (b.toNat : Int)
def partOk (s : ByteArray) (g : Bool) : Bool :=
  if 1 ≤ (s.size : Int) ∧ (s.size : Int) ≤ 20 then (if s.toList = ([46] : List UInt8) then false else if s.toList = ([46, 46] : List UInt8) then false else allOk g s 0) else false
theorem allOk_step (g : Bool) (s : ByteArray) (i : Nat) (h : i < s.size) : allOk g s i = (charOk g (bt s (i : Int)) && allOk g s (i + 1)) := by
  have hi : i < s.data.toList.length := by rw [size_toList]; exact h
  unfold allOk
  rw [List.drop_eq_getElem_cons hi, List.all_cons, bt_getD, List.getD_eq_getElem?_getD, List.getElem?_eq_getElem hi]
  rfl
theorem allOk_end (g : Bool) (s : ByteArray) (i : Nat) (h : s.size ≤ i) : allOk g s i = true := by
  unfold allOk
  rw [List.drop_of_length_le (by rw [size_toList]; exact h)]
  rfl
theorem spec_PO0 (s : ByteArray) (g : Bool) (hs : s.size ≤ 20) : ∀ (d i : Nat), i + d = s.size → Ev (fun k => spec_l4PartOk.l0 k s g (i : Int)) (allOk g s i)
  | 0, i, hd => by
    rw [allOk_end g s i (by omega)]
    exact Ev.step (fun k => spec_l4PartOk.l0.eq_2 ..) (Ev.neg (by omega) (Ev.now _))
  | d + 1, i, hd => by
    have hw : wrap64 ((i : Int) + 1) = ((i + 1 : Nat) : Int) := by rw [w64 (by omega) (by omega)]; omega
    have ih := spec_PO0 s g hs d (i + 1) (by omega)
    refine Ev.step (fun k => spec_l4PartOk.l0.eq_2 ..) (Ev.pos (by omega) (Ev.pos (by omega) ?_))
    rw [allOk_step g s i (by omega), hw]
    unfold charOk
    generalize bt s (i : Int) = b
    by_cases h1 : b < 33
    · rw [if_pos h1]; exact Ev.pos h1 (Ev.now _)
    by_cases h2 : b > 126
    · rw [if_neg h1, if_pos h2]; exact Ev.neg h1 (Ev.pos h2 (Ev.now _))
    by_cases h3 : b = 47
    · rw [if_neg h1, if_neg h2, if_pos h3]; exact Ev.neg h1 (Ev.neg h2 (Ev.pos h3 (Ev.now _)))
    by_cases h4 : b = 34
    · rw [if_neg h1, if_neg h2, if_neg h3, if_pos h4]; exact Ev.neg h1 (Ev.neg h2 (Ev.neg h3 (Ev.pos h4 (Ev.now _))))
    rw [if_neg h1, if_neg h2, if_neg h3, if_neg h4]
    refine Ev.neg h1 (Ev.neg h2 (Ev.neg h3 (Ev.neg h4 ?_)))
    by_cases hg : g = true
    · rw [if_pos hg, Bool.true_and]; exact Ev.pos hg ih
    rw [if_neg hg]
    refine Ev.neg hg ?_
    by_cases h5 : b = 42
    · rw [if_pos h5]; exact Ev.pos h5 (Ev.now _)
    by_cases h6 : b = 63
    · rw [if_neg h5, if_pos h6]; exact Ev.neg h5 (Ev.pos h6 (Ev.now _))
    rw [if_neg h5, if_neg h6, Bool.true_and]
    exact Ev.neg h5 (Ev.neg h6 ih)
theorem impl_PO0 (s : ByteArray) (g : Bool) (hs : s.size ≤ 20) : ∀ (d i : Nat), i + d = s.size → Ev (fun k => impl_goodPart.l0 k s g (i : Int)) (allOk g s i)
  | 0, i, hd => by
    rw [allOk_end g s i (by omega)]
    exact Ev.step (fun k => impl_goodPart.l0.eq_2 ..) (Ev.neg (by omega) (Ev.now _))
  | d + 1, i, hd => by
    have hw : wrap64 ((i : Int) + 1) = ((i + 1 : Nat) : Int) := by rw [w64 (by omega) (by omega)]; omega
    have ih := impl_PO0 s g hs d (i + 1) (by omega)
    refine Ev.step (fun k => impl_goodPart.l0.eq_2 ..) (Ev.pos (by omega) (Ev.pos (by omega) ?_))
    rw [allOk_step g s i (by omega), hw]
    unfold charOk
    generalize bt s (i : Int) = b
    by_cases h1 : b < 33
    · rw [if_pos h1]; exact Ev.pos h1 (Ev.now _)
    by_cases h2 : b > 126
    · rw [if_neg h1, if_pos h2]; exact Ev.neg h1 (Ev.pos h2 (Ev.now _))
    refine Ev.neg h1 (Ev.neg h2 ?_)
    rw [if_neg h1, if_neg h2]
    by_cases h4 : b = 34
    · rw [if_neg (by omega), if_pos h4]; exact Ev.pos h4 (Ev.now _)
    refine Ev.neg h4 ?_
    by_cases h3 : b = 47
    · rw [if_pos h3]; exact Ev.pos h3 (Ev.now _)
    rw [if_neg h3, if_neg h4]
    refine Ev.neg h3 ?_
    by_cases hg : g = true
    · rw [if_pos hg, Bool.true_and]; exact Ev.pos hg ih
    rw [if_neg hg]
    refine Ev.neg hg ?_
    by_cases h5 : b = 42
    · rw [if_pos h5]; exact Ev.pos h5 (Ev.now _)
    by_cases h6 : b = 63
    · rw [if_neg h5, if_pos h6]; exact Ev.neg h5 (Ev.pos h6 (Ev.now _))
    rw [if_neg h5, if_neg h6, Bool.true_and]
    exact Ev.neg h5 (Ev.neg h6 ih)
theorem spec_part_ev (s : ByteArray) (g : Bool) : Ev (fun k => spec_l4PartOk.f k s g) (partOk s g) := by
  unfold spec_l4PartOk.f partOk
  rw [in_eq4]
  refine Ev.sb ?_
  have bad : Ev (fun k => spec_l4PartOk.j0 k s g true) false := Ev.step (fun k => spec_l4PartOk.j0.eq_2 ..) (Ev.pos rfl (Ev.now _))
  by_cases h : 1 ≤ (s.size : Int) ∧ (s.size : Int) ≤ 20
  · rw [if_pos h]
    refine Ev.pos (decide_eq_true h) ?_
    by_cases h1 : s.toList = ([46] : List UInt8)
    · rw [if_pos h1]
      exact Ev.pos h1 bad
    · rw [if_neg h1]
      refine Ev.neg h1 ?_
      by_cases h2 : s.toList = ([46, 46] : List UInt8)
      · rw [if_pos h2, show (s.toList == ([46, 46] : List UInt8)) = true from beq_iff_eq.2 h2]
        exact bad
      · rw [if_neg h2, show (s.toList == ([46, 46] : List UInt8)) = false from beq_eq_false_iff_ne.2 h2]
        exact Ev.step (fun k => spec_l4PartOk.j0.eq_2 ..) (Ev.neg (by simp) (spec_PO0 s g (by omega) s.size 0 (by omega)))
  · rw [if_neg h]
    exact Ev.neg (by simpa using h) bad
theorem impl_part_ev (s : ByteArray) (g : Bool) : Ev (fun k => impl_goodPart.f k s g) (partOk s g) := by
  unfold impl_goodPart.f partOk
  rw [impl_in_eq4]
  refine Ev.sb ?_
  have bad : Ev (fun k => impl_goodPart.j0 k s g true) false := Ev.step (fun k => impl_goodPart.j0.eq_2 ..) (Ev.pos rfl (Ev.now _))
  by_cases h : 1 ≤ (s.size : Int) ∧ (s.size : Int) ≤ 20
  · rw [if_pos h]
    refine Ev.pos (decide_eq_true h) ?_
    by_cases h1 : s.toList = ([46] : List UInt8)
    · rw [if_pos h1]
      exact Ev.pos h1 bad
    · rw [if_neg h1]
      refine Ev.neg h1 ?_
      by_cases h2 : s.toList = ([46, 46] : List UInt8)
      · rw [if_pos h2, show (s.toList == ([46, 46] : List UInt8)) = true from beq_iff_eq.2 h2]
        exact bad
      · rw [if_neg h2, show (s.toList == ([46, 46] : List UInt8)) = false from beq_eq_false_iff_ne.2 h2]
        exact Ev.step (fun k => impl_goodPart.j0.eq_2 ..) (Ev.neg (by simp) (impl_PO0 s g (by omega) s.size 0 (by omega)))
  · rw [if_neg h]
    exact Ev.neg (by simpa using h) bad

/-- A path or a glob holds. -/
def pathOk (s : ByteArray) (g : Bool) : Bool := if (piecesB 47 s).length > 6 then false else (piecesB 47 s).all fun p => partOk p g
theorem rdB_eq {l : List ByteArray} {i : Nat} (h : i < l.length) : rdOf ByteArray.empty l (i : Int) = l[i] := by
  unfold rdOf
  rw [Int.toNat_natCast, List.getD_eq_getElem?_getD, List.getElem?_eq_getElem h]
  rfl
theorem spec_Ok0 (g : Bool) (l : List ByteArray) (hl : l.length ≤ 6) : ∀ (d i : Nat), i + d = l.length → Ev (fun k => spec_l4Ok.l0 k g l (i : Int)) ((l.drop i).all fun p => partOk p g)
  | 0, i, hd => by
    rw [List.drop_of_length_le (by omega)]
    exact Ev.step (fun k => spec_l4Ok.l0.eq_2 ..) (Ev.neg (by omega) (Ev.now _))
  | d + 1, i, hd => by
    have hi : i < l.length := by omega
    refine Ev.step (fun k => spec_l4Ok.l0.eq_2 ..) (Ev.pos (by omega) (Ev.pos (by omega) ?_))
    rw [rdB_eq hi, List.drop_eq_getElem_cons hi, List.all_cons, w64 (by omega) (by omega), show (i : Int) + 1 = ((i + 1 : Nat) : Int) from by omega]
    refine Ev.bind (spec_part_ev l[i] g) ?_
    by_cases h : partOk l[i] g = true
    · rw [h, Bool.true_and]
      exact Ev.pos rfl (spec_Ok0 g l hl d (i + 1) (by omega))
    · rw [Bool.eq_false_iff.2 h, Bool.false_and]
      exact Ev.neg (by simp) (Ev.now _)
theorem impl_Ok0 (g : Bool) (l : List ByteArray) (hl : l.length ≤ 6) : ∀ (d i : Nat), i + d = l.length → Ev (fun k => impl_parts.l0 k g l (l.length : Int) (i : Int)) ((l.drop i).all fun p => partOk p g)
  | 0, i, hd => by
    rw [List.drop_of_length_le (by omega)]
    exact Ev.step (fun k => impl_parts.l0.eq_2 ..) (Ev.neg (by omega) (Ev.now _))
  | d + 1, i, hd => by
    have hi : i < l.length := by omega
    refine Ev.step (fun k => impl_parts.l0.eq_2 ..) (Ev.pos (by omega) (Ev.pos (by omega) (Ev.pos (by omega) ?_)))
    rw [rdB_eq hi, List.drop_eq_getElem_cons hi, List.all_cons, w64 (by omega) (by omega), show (i : Int) + 1 = ((i + 1 : Nat) : Int) from by omega]
    refine Ev.bind (impl_part_ev l[i] g) ?_
    by_cases h : partOk l[i] g = true
    · rw [h, Bool.true_and]
      exact Ev.pos rfl (impl_Ok0 g l hl d (i + 1) (by omega))
    · rw [Bool.eq_false_iff.2 h, Bool.false_and]
      exact Ev.neg (by simp) (Ev.now _)
theorem pathOk_long (s : ByteArray) (g : Bool) (h : 126 < s.size) : pathOk s g = false := by
  unfold pathOk
  split
  · rfl
  · rename_i h6
    apply Bool.eq_false_iff.2
    intro hall
    have ht := cuts_total 47 s.data.toList []
    have hall' : ∀ l ∈ cuts 47 s.data.toList [], l.length ≤ 20 := by
      intro l hl
      have := List.all_eq_true.1 hall (ofBytes l) (List.mem_map.2 ⟨l, hl, rfl⟩)
      unfold partOk at this
      by_cases hz : 1 ≤ ((ofBytes l).size : Int) ∧ ((ofBytes l).size : Int) ≤ 20
      · rw [ofBytes_size] at hz
        omega
      · rw [if_neg hz] at this
        cases this
    have hsum : ∀ (L : List (List UInt8)), (∀ l ∈ L, l.length ≤ 20) → (L.map List.length).sum ≤ 20 * L.length := by
      intro L
      induction L with
      | nil => intro _; simp
      | cons a L ih =>
        intro hL
        have := ih (fun l hl => hL l (List.mem_cons_of_mem _ hl))
        have := hL a (List.mem_cons_self ..)
        simp only [List.map_cons, List.sum_cons, List.length_cons]
        omega
    have := hsum _ hall'
    unfold piecesB at h6
    rw [List.length_map] at h6
    rw [size_toList] at ht
    simp only [List.length_nil] at ht
    omega
theorem spec_ok_ev (s : ByteArray) (g : Bool) : Ev (fun k => spec_l4Ok.f k s g) (pathOk s g) := by
  unfold spec_l4Ok.f
  by_cases h : (s.size : Int) > 126
  · rw [pathOk_long s g (by omega)]
    exact Ev.pos h (Ev.now _)
  · refine Ev.neg h (Ev.bind (spec_parts_ev s (by omega)) ?_)
    unfold pathOk
    by_cases h6 : (piecesB 47 s).length > 6
    · rw [if_pos h6]
      exact Ev.pos (by omega) (Ev.now _)
    · rw [if_neg h6]
      exact Ev.neg (by omega) (spec_Ok0 g (piecesB 47 s) (by omega) (piecesB 47 s).length 0 (by omega))
theorem impl_parts_ev (s : ByteArray) (hs : s.size ≤ 1048576) (g : Bool) : Ev (fun k => impl_parts.f k s g) (pathOk s g) := by
  unfold impl_parts.f pathOk
  rw [split_eq 47 s (by omega)]
  refine Ev.sb ?_
  by_cases h6 : (piecesB 47 s).length > 6
  · rw [if_pos h6]
    exact Ev.pos (by omega) (Ev.now _)
  · rw [if_neg h6]
    exact Ev.neg (by omega) (impl_Ok0 g (piecesB 47 s) (by omega) (piecesB 47 s).length 0 (by omega))

end Go.Proofs.YtkdghhkpmkfjhaaDoor.Pure
