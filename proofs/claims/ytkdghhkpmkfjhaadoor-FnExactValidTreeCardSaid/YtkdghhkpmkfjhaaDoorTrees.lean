/- Valid trees, in the reference and in the program. Conditions: sizes. -/
import Derived.Test.YtkdghhkpmkfjhaaDoorPImplValidTree
import Derived.Test.YtkdghhkpmkfjhaaDoorPSpecValidTree
import Derived.Test.YtkdghhkpmkfjhaaDoorPaths
import Derived.Test.YtkdghhkpmkfjhaaDoorBegins
import Derived.Test.YtkdghhkpmkfjhaaDoorEntries
namespace Go.Proofs.YtkdghhkpmkfjhaaDoor.Pure
open Go Go.RowKit Go.Proofs.YtkdghhkpmkfjhaaDoor.P Go.Proofs.YtkdghhkpmkfjhaaDoorW.PrintWords Go.Proofs.YtkdghhkpmkfjhaaDoorW.PrintLast
set_option linter.unusedVariables false
set_option linter.unusedSimpArgs false

theorem spec_path_ev (s : ByteArray) : Ev (fun k => spec_ValidPath.f k s) (pathOk s false) := by
  unfold spec_ValidPath.f
  exact Ev.bind (spec_ok_ev s false) (Ev.now _)
theorem impl_path_ev (s : ByteArray) (h : s.size ≤ 1048576) : Ev (fun k => impl_ValidPath.f k s) (pathOk s false) := by
  unfold impl_ValidPath.f
  exact Ev.bind (impl_parts_ev s h false) (Ev.now _)
theorem spec_begins_eq (a b : ByteArray) : spec_l5Begins.f a b = some (begins a b) := by
  unfold spec_l5Begins.f
  have h := begins_iff a b
  by_cases h1 : (b.size : Int) > (a.size : Int)
  · rw [if_pos h1, if_pos (by omega), if_pos (by omega), Int.toNat_natCast]
    by_cases h2 : (b.extract 0 a.size).toList = a.toList
    · rw [if_pos h2, if_pos (by omega)]
      have h3 : b.extract 0 a.size = a := ba_ext (by rw [← Lib.toList_data, h2, Lib.toList_data])
      congr 1
      by_cases h4 : bt b (a.size : Int) = 47
      · rw [h.2 ⟨by omega, h3, h4⟩, h4]
        rfl
      · rw [Bool.eq_false_iff.2 (fun hh => h4 (h.1 hh).2.2)]
        exact beq_eq_false_iff_ne.2 h4
    · rw [if_neg h2, show begins a b = false from Bool.eq_false_iff.2 (fun hh => h2 (by rw [(h.1 hh).2.1]))]
  · rw [if_neg h1, show begins a b = false from Bool.eq_false_iff.2 (fun hh => h1 (by have := (h.1 hh).1; omega))]
theorem impl_over_eq (a b : ByteArray) (ha : a.size ≤ 1048576) : impl_over.f a b = some (begins a b) := by
  unfold impl_over.f strings_HasPrefix.f stringslite_HasPrefix.f
  rw [if_pos (by omega)]
  have e : (a ++ (⟨#[47]⟩ : ByteArray)).size = a.size + 1 := ByteArray.size_append
  have ed : (a ++ (⟨#[47]⟩ : ByteArray)).data.toList = a.data.toList ++ [47] := data_append _ _
  have hb : begins a b = true ↔ (a ++ (⟨#[47]⟩ : ByteArray)).data.toList <+: b.data.toList := by
    unfold begins Lib.hasPrefix
    rw [List.isPrefixOf_iff_prefix, ed]
  rw [List.prefix_iff_eq_take] at hb
  have hx : (b.extract 0 (a ++ (⟨#[47]⟩ : ByteArray)).size).data.toList = b.data.toList.take (a ++ (⟨#[47]⟩ : ByteArray)).data.toList.length := by
    rw [ByteArray.data_extract, Array.toList_extract, List.extract_eq_take_drop, List.drop_zero, Nat.sub_zero, size_toList]
  by_cases h1 : (b.size : Int) ≥ ((a ++ (⟨#[47]⟩ : ByteArray)).size : Int)
  · rw [if_pos h1, if_pos (by omega), if_pos (by omega), Int.toNat_natCast]
    show some ((b.extract 0 (a ++ (⟨#[47]⟩ : ByteArray)).size).toList == (a ++ (⟨#[47]⟩ : ByteArray)).toList) = some (begins a b)
    congr 1
    rw [Lib.toList_data, Lib.toList_data, hx]
    by_cases h2 : begins a b = true
    · rw [h2, ← hb.1 h2]
      exact beq_self_eq_true _
    · rw [Bool.eq_false_iff.2 h2]
      exact beq_eq_false_iff_ne.2 (fun hh => h2 (hb.2 hh.symm))
  · rw [if_neg h1]
    show some false = _
    rw [show begins a b = false from Bool.eq_false_iff.2 (fun hh => h1 (by
      have := ((begins_iff a b).1 hh).1
      omega))]

/-- One of the rows behind i (d of them) lies over p. -/
def anyOver (l : List Entry) (p : ByteArray) : Nat → Nat → Bool
  | 0, _ => false
  | d + 1, i => if begins (rd_T45 l (i : Int)).f0 p = true then true else anyOver l p d (i + 1)
def entryOk (e : Entry) : Bool := if pathOk e.f0 false = true then decide ((e.f1.size : Int) ≤ 1500) else false
def rowOk (l : List Entry) (i : Nat) : Bool :=
  if entryOk (rd_T45 l (i : Int)) = true then (if (i : Int) > 0 then Op.bytesLess (rd_T45 l ((i : Int) - 1)).f0.toList (rd_T45 l (i : Int)).f0.toList else true) else false
def treeFrom (l : List Entry) : Nat → Nat → Bool
  | 0, _ => true
  | d + 1, i => if rowOk l i = true then (if anyOver l (rd_T45 l (i : Int)).f0 i 0 = true then false else treeFrom l d (i + 1)) else false
def treeOk (l : List Entry) : Bool := if (l.length : Int) > 100 then false else treeFrom l l.length 0

theorem spec_VT1 (l : List Entry) (hl : l.length ≤ 100) (n : Nat) (hn : n < l.length) (p t : ByteArray) (u R : Bool) (hR : Ev (fun k => spec_ValidTree.l0 k ((n : Int) + 1) l) R) : ∀ (d j : Nat), j + d = n →
    Ev (fun k => spec_ValidTree.l1 k (n : Int) (j : Int) l p t u) (if anyOver l p d j = true then false else R)
  | 0, j, hd => by
    rw [anyOver, if_neg (by simp)]
    refine Ev.step (fun k => spec_ValidTree.l1.eq_2 ..) (Ev.neg (by omega) ?_)
    rw [w64 (n := (n : Int) + 1) (by omega) (by omega)]
    exact hR
  | d + 1, j, hd => by
    refine Ev.step (fun k => spec_ValidTree.l1.eq_2 ..) (Ev.pos (by omega) (Ev.pos (by omega) (Ev.pos (by omega) ?_)))
    rw [spec_begins_eq, anyOver, w64 (n := (j : Int) + 1) (by omega) (by omega)]
    refine Ev.sb ?_
    by_cases h : begins (rd_T45 l (j : Int)).f0 p = true
    · rw [if_pos h, if_pos rfl]
      exact Ev.pos h (Ev.now _)
    · rw [if_neg h]
      exact Ev.neg h (spec_VT1 l hl n hn p t u R hR d (j + 1) (by omega))
theorem spec_VT0 (l : List Entry) (hl : l.length ≤ 100) : ∀ (d i : Nat), i + d = l.length → Ev (fun k => spec_ValidTree.l0 k (i : Int) l) (treeFrom l d i)
  | 0, i, hd => by
    rw [treeFrom]
    exact Ev.step (fun k => spec_ValidTree.l0.eq_2 ..) (Ev.neg (by omega) (Ev.now _))
  | d + 1, i, hd => by
    have ih := spec_VT0 l hl d (i + 1) (by omega)
    rw [show ((i + 1 : Nat) : Int) = (i : Int) + 1 from by omega] at ih
    refine Ev.step (fun k => spec_ValidTree.l0.eq_2 ..) (Ev.pos (by omega) (Ev.pos (by omega) (Ev.bind (spec_path_ev _) ?_)))
    rw [treeFrom]
    have L := fun p t u => spec_VT1 l hl i (by omega) p t u _ ih i 0 (by omega)
    have jt : ∀ p t u, Ev (fun k => spec_ValidTree.j1 k (i : Int) true l p t u) false := fun p t u => Ev.step (fun k => spec_ValidTree.j1.eq_2 ..) (Ev.pos rfl (Ev.now _))
    have jf : ∀ p t u R, Ev (fun k => spec_ValidTree.l1 k (i : Int) 0 l p t u) R → Ev (fun k => spec_ValidTree.j1 k (i : Int) false l p t u) R := fun p t u R h => Ev.step (fun k => spec_ValidTree.j1.eq_2 ..) (Ev.neg (by simp) h)
    by_cases h1 : pathOk (rd_T45 l (i : Int)).f0 false = true
    · refine Ev.pos h1 ?_
      by_cases h2 : ((rd_T45 l (i : Int)).f1.size : Int) > 1500
      · have e : rowOk l i = false := by
          unfold rowOk entryOk
          rw [if_pos h1, decide_eq_false (by omega)]
          rfl
        rw [e, if_neg (by simp)]
        exact Ev.pos h2 (jt _ _ _)
      · have e0 : entryOk (rd_T45 l (i : Int)) = true := by
          unfold entryOk
          rw [if_pos h1, decide_eq_true (by omega)]
        refine Ev.neg h2 ?_
        by_cases h3 : (i : Int) > 0
        · refine Ev.pos h3 ?_
          rw [w64 (n := (i : Int) - 1) (by omega) (by omega)]
          refine Ev.pos (by omega) (Ev.pos (by omega) ?_)
          have e : rowOk l i = Op.bytesLess (rd_T45 l ((i : Int) - 1)).f0.toList (rd_T45 l (i : Int)).f0.toList := by
            unfold rowOk
            rw [if_pos e0, if_pos h3]
          rw [e]
          by_cases h4 : Op.bytesLess (rd_T45 l ((i : Int) - 1)).f0.toList (rd_T45 l (i : Int)).f0.toList = true
          · rw [if_pos h4, h4]
            exact jf _ _ _ _ (L _ _ _)
          · rw [if_neg h4, Bool.eq_false_iff.2 h4]
            exact jt _ _ _
        · have e : rowOk l i = true := by
            unfold rowOk
            rw [if_pos e0, if_neg h3]
          rw [e, if_pos rfl]
          exact Ev.neg h3 (jf _ _ _ _ (L _ _ _))
    · have e : rowOk l i = false := by
        unfold rowOk entryOk
        rw [if_neg h1]
        rfl
      rw [e, if_neg (by simp)]
      exact Ev.neg h1 (jt _ _ _)
theorem spec_ValidTree_ev (l : List Entry) : Ev (fun k => spec_ValidTree.f k l) (treeOk l) := by
  unfold spec_ValidTree.f treeOk
  by_cases h : (l.length : Int) > 100
  · rw [if_pos h]
    exact Ev.pos h (Ev.now _)
  · rw [if_neg h]
    exact Ev.neg h (spec_VT0 l (by omega) l.length 0 (by omega))
theorem impl_VT1 (l : List Entry) (hl : l.length ≤ 100) (hz : ∀ i : Nat, (rd_T45 l (i : Int)).f0.size ≤ 1048576) (n : Nat) (hn : n < l.length) (p t : ByteArray) (u R : Bool) (hR : Ev (fun k => impl_ValidTree.l0 k l (l.length : Int) ((n : Int) + 1) l) R) : ∀ (d j : Nat), j + d = n →
    Ev (fun k => impl_ValidTree.l1 k (n : Int) (j : Int) l (l.length : Int) (n : Int) l p t u) (if anyOver l p d j = true then false else R)
  | 0, j, hd => by
    rw [anyOver, if_neg (by simp)]
    refine Ev.step (fun k => impl_ValidTree.l1.eq_2 ..) (Ev.neg (by omega) ?_)
    rw [w64 (n := (n : Int) + 1) (by omega) (by omega)]
    exact hR
  | d + 1, j, hd => by
    refine Ev.step (fun k => impl_ValidTree.l1.eq_2 ..) (Ev.pos (by omega) (Ev.pos (by omega) (Ev.pos (by omega) ?_)))
    rw [impl_over_eq _ _ (hz j), anyOver, w64 (n := (j : Int) + 1) (by omega) (by omega)]
    refine Ev.sb ?_
    by_cases h : begins (rd_T45 l (j : Int)).f0 p = true
    · rw [if_pos h, if_pos rfl]
      exact Ev.pos h (Ev.now _)
    · rw [if_neg h]
      exact Ev.neg h (impl_VT1 l hl hz n hn p t u R hR d (j + 1) (by omega))
theorem impl_goodEntry_ev (p t : ByteArray) (u : Bool) (h : p.size ≤ 1048576) : Ev (fun k => impl_goodEntry.f k p t u) (entryOk ⟨p, t, u⟩) := by
  unfold impl_goodEntry.f entryOk
  exact Ev.bind (impl_path_ev p h) (Ev.both (fun _ => Ev.now _) (fun _ => Ev.now _))
theorem impl_VT0 (l : List Entry) (hl : l.length ≤ 100) (hz : ∀ i : Nat, (rd_T45 l (i : Int)).f0.size ≤ 1048576) : ∀ (d i : Nat), i + d = l.length → Ev (fun k => impl_ValidTree.l0 k l (l.length : Int) (i : Int) l) (treeFrom l d i)
  | 0, i, hd => by
    rw [treeFrom]
    exact Ev.step (fun k => impl_ValidTree.l0.eq_2 ..) (Ev.neg (by omega) (Ev.now _))
  | d + 1, i, hd => by
    have ih := impl_VT0 l hl hz d (i + 1) (by omega)
    rw [show ((i + 1 : Nat) : Int) = (i : Int) + 1 from by omega] at ih
    refine Ev.step (fun k => impl_ValidTree.l0.eq_2 ..) (Ev.pos (by omega) (Ev.pos (by omega) (Ev.pos (by omega) (Ev.bind (impl_goodEntry_ev _ _ _ (hz i)) ?_))))
    rw [treeFrom]
    have L := fun p t u => impl_VT1 l hl hz i (by omega) p t u _ ih i 0 (by omega)
    have jt : ∀ p t u, Ev (fun k => impl_ValidTree.j1 k (i : Int) l (l.length : Int) (i : Int) true l p t u) false := fun p t u => Ev.step (fun k => impl_ValidTree.j1.eq_2 ..) (Ev.pos rfl (Ev.now _))
    have jf : ∀ p t u R, Ev (fun k => impl_ValidTree.l1 k (i : Int) 0 l (l.length : Int) (i : Int) l p t u) R → Ev (fun k => impl_ValidTree.j1 k (i : Int) l (l.length : Int) (i : Int) false l p t u) R := fun p t u R h => Ev.step (fun k => impl_ValidTree.j1.eq_2 ..) (Ev.neg (by simp) h)
    have he : (⟨(rd_T45 l (i : Int)).f0, (rd_T45 l (i : Int)).f1, (rd_T45 l (i : Int)).f2⟩ : Entry) = rd_T45 l (i : Int) := rfl
    rw [he]
    by_cases h1 : entryOk (rd_T45 l (i : Int)) = true
    · refine Ev.pos h1 ?_
      by_cases h3 : (i : Int) > 0
      · refine Ev.pos h3 ?_
        rw [w64 (n := (i : Int) - 1) (by omega) (by omega)]
        refine Ev.pos (by omega) (Ev.pos (by omega) ?_)
        have e : rowOk l i = Op.bytesLess (rd_T45 l ((i : Int) - 1)).f0.toList (rd_T45 l (i : Int)).f0.toList := by
          unfold rowOk
          rw [if_pos h1, if_pos h3]
        rw [e]
        by_cases h4 : Op.bytesLess (rd_T45 l ((i : Int) - 1)).f0.toList (rd_T45 l (i : Int)).f0.toList = true
        · rw [if_pos h4, h4]
          exact jf _ _ _ _ (L _ _ _)
        · rw [if_neg h4, Bool.eq_false_iff.2 h4]
          exact jt _ _ _
      · have e : rowOk l i = true := by
          unfold rowOk
          rw [if_pos h1, if_neg h3]
        rw [e, if_pos rfl]
        exact Ev.neg h3 (jf _ _ _ _ (L _ _ _))
    · have e : rowOk l i = false := by
        unfold rowOk
        rw [if_neg h1]
      rw [e, if_neg (by simp)]
      exact Ev.neg h1 (jt _ _ _)
theorem rdE_small {l : List Entry} (h : ∀ e ∈ l, e.f0.size ≤ 1048576) (i : Nat) : (rd_T45 l (i : Int)).f0.size ≤ 1048576 := by
  by_cases hi : i < l.length
  · rw [rdE_eq hi]
    exact h _ (List.getElem_mem hi)
  · have : rd_T45 l (i : Int) = z45 := by
      show l.getD (i : Int).toNat _ = _
      rw [Int.toNat_natCast, List.getD_eq_getElem?_getD, List.getElem?_eq_none (by omega)]
      rfl
    rw [this]
    decide
theorem impl_ValidTree_ev (l : List Entry) (hz : ∀ e ∈ l, e.f0.size ≤ 1048576) : Ev (fun k => impl_ValidTree.f k l) (treeOk l) := by
  unfold impl_ValidTree.f treeOk
  by_cases h : (l.length : Int) > 100
  · rw [if_pos h]
    exact Ev.pos h (Ev.now _)
  · rw [if_neg h]
    exact Ev.neg h (impl_VT0 l (by omega) (rdE_small hz) l.length 0 (by omega))

end Go.Proofs.YtkdghhkpmkfjhaaDoor.Pure
