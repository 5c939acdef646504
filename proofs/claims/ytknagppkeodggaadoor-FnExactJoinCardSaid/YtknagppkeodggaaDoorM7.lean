/- Several texts of this claim in one file: YtknagppkeodggaaDoorFileS, YtknagppkeodggaaDoorCuts, YtknagppkeodggaaDoorPaths, YtknagppkeodggaaDoorChanges, YtknagppkeodggaaDoorPatches, YtknagppkeodggaaDoorChgMaps, YtknagppkeodggaaDoorNames, YtknagppkeodggaaDoorMarkText, YtknagppkeodggaaDoorChangeMarks. -/
import Derived.Test.YtknagppkeodggaaDoorM4
import Derived.Test.YtknagppkeodggaaDoorM5
import Derived.Test.YtknagppkeodggaaDoorM3
import Derived.Lib.SplitLaws
namespace Go.Proofs.YtknagppkeodggaaDoor.P
open Go
def toF (x : S118) : FileT := (x.f0, x.f1, x.f2)
def ofF (x : FileT) : S118 := ⟨x.1, x.2.1, x.2.2⟩
end Go.Proofs.YtknagppkeodggaaDoor.P


namespace Go.Proofs.YtknagppkeodggaaDoor.Pure
open Go Go.RowKit Go.Proofs.YtknagppkeodggaaDoor.P Go.Proofs.YtknagppkeodggaaDoorW.PrintWords Go.Proofs.YtknagppkeodggaaDoorW.PrintLast
set_option linter.unusedVariables false
set_option linter.unusedSimpArgs false

/-- The bytes, cut at each c; cur: what has been read of the piece. -/
def cuts (c : UInt8) : List UInt8 → List UInt8 → List (List UInt8)
  | [], cur => [cur]
  | b :: r, cur => if b = c then cur :: cuts c r [] else cuts c r (cur ++ [b])
def ofBytes (l : List UInt8) : ByteArray := ⟨l.toArray⟩
theorem ofBytes_data (l : List UInt8) : (ofBytes l).data.toList = l := by simp [ofBytes]
theorem ofBytes_of (s : ByteArray) : ofBytes s.data.toList = s := ba_ext (ofBytes_data _)
theorem ofBytes_size (l : List UInt8) : (ofBytes l).size = l.length := by rw [← size_toList, ofBytes_data]
def piecesB (c : UInt8) (s : ByteArray) : List ByteArray := (cuts c s.data.toList []).map ofBytes

theorem cuts_free (c : UInt8) : ∀ (a cur : List UInt8), c ∉ a → cuts c a cur = [cur ++ a]
  | [], cur, _ => by rw [cuts, List.append_nil]
  | b :: r, cur, h => by
    rw [cuts, if_neg (fun e : b = c => h (by rw [e]; exact List.mem_cons_self ..)), cuts_free c r _ (fun hm => h (List.mem_cons_of_mem _ hm)), List.append_assoc]
    rfl
theorem cuts_hit (c : UInt8) (r : List UInt8) : ∀ (a cur : List UInt8), c ∉ a → cuts c (a ++ c :: r) cur = (cur ++ a) :: cuts c r []
  | [], cur, _ => by rw [List.nil_append, cuts, if_pos rfl, List.append_nil]
  | b :: a, cur, h => by
    rw [List.cons_append, cuts, if_neg (fun e : b = c => h (by rw [e]; exact List.mem_cons_self ..)), cuts_hit c r a _ (fun hm => h (List.mem_cons_of_mem _ hm)), List.append_assoc]
    rfl
theorem cuts_length (c : UInt8) : ∀ (l cur : List UInt8), (cuts c l cur).length ≤ l.length + 1
  | [], cur => by simp [cuts]
  | b :: r, cur => by
    rw [cuts]
    split
    · have := cuts_length c r []
      simp only [List.length_cons]
      omega
    · have := cuts_length c r (cur ++ [b])
      simp only [List.length_cons]
      omega
/-- All bytes are in the pieces, but for the cuts. -/
theorem cuts_total (c : UInt8) : ∀ (l cur : List UInt8), ((cuts c l cur).map List.length).sum + (cuts c l cur).length = cur.length + l.length + 1
  | [], cur => by simp [cuts]
  | b :: r, cur => by
    rw [cuts]
    split
    · have := cuts_total c r []
      simp only [List.map_cons, List.sum_cons, List.length_cons, List.length_nil] at this ⊢
      omega
    · have := cuts_total c r (cur ++ [b])
      simp only [List.length_append, List.length_cons, List.length_nil] at this ⊢
      omega
theorem piecesB_length (c : UInt8) (s : ByteArray) : (piecesB c s).length ≤ s.size + 1 := by
  unfold piecesB
  rw [List.length_map, ← size_toList]
  exact cuts_length c _ _
theorem piecesB_size (c : UInt8) (s : ByteArray) : ∀ p ∈ piecesB c s, p.size ≤ s.size := by
  intro p hp
  unfold piecesB at hp
  obtain ⟨l, hl, rfl⟩ := List.mem_map.1 hp
  have ht := cuts_total c s.data.toList []
  have h1 : l.length ≤ ((cuts c s.data.toList []).map List.length).sum := by
    have : ∀ (L : List (List UInt8)), l ∈ L → l.length ≤ (L.map List.length).sum := by
      intro L
      induction L with
      | nil => intro h; cases h
      | cons a L ih =>
        intro h
        rw [List.map_cons, List.sum_cons]
        rcases List.mem_cons.1 h with rfl | h
        · omega
        · have := ih h
          omega
    exact this _ hl
  have h2 : 1 ≤ (cuts c s.data.toList []).length := by
    cases hc : cuts c s.data.toList [] with
    | nil => rw [hc] at hl; cases hl
    | cons a r => simp
  rw [ofBytes_size, ← size_toList]
  simp only [List.length_nil] at ht
  omega

/-! ### the library -/
theorem index_one (c : UInt8) : ∀ l : List UInt8, (Go.Lib.index l [c] = -1 ∧ c ∉ l) ∨ ∃ a r, l = a ++ c :: r ∧ c ∉ a ∧ Go.Lib.index l [c] = (a.length : Int)
  | [] => .inl ⟨by simp [Go.Lib.index], by simp⟩
  | b :: l => by
    by_cases h : b = c
    · subst h
      exact .inr ⟨[], l, rfl, by simp, by rw [Go.Lib.index]; simp [List.isPrefixOf]⟩
    · have hp : ([c] : List UInt8).isPrefixOf (b :: l) = false := by simp [List.isPrefixOf, Ne.symm h]
      have hix : Go.Lib.index (b :: l) [c] = if Go.Lib.index l [c] == -1 then -1 else Go.Lib.index l [c] + 1 := by rw [Go.Lib.index, hp]; simp
      rcases index_one c l with ⟨h1, h2⟩ | ⟨a, r, h1, h2, h3⟩
      · refine .inl ⟨by rw [hix, h1]; rfl, fun hm => ?_⟩
        rcases List.mem_cons.1 hm with e | hm
        · exact h e.symm
        · exact h2 hm
      · refine .inr ⟨b :: a, r, by rw [h1]; rfl, fun hm => ?_, ?_⟩
        · rcases List.mem_cons.1 hm with e | hm
          · exact h e.symm
          · exact h2 hm
        · rw [hix, h3, if_neg (by simp)]
          simp
theorem splitB_one (c : UInt8) (save : Nat) (hs : save ≤ 1) : ∀ (n : Nat) (s : ByteArray), s.size ≤ n →
    (Go.Lib.splitB ⟨#[c]⟩ save (Go.Lib.countB s ⟨#[c]⟩) s).map (·.data.toList) = (if save = 0 then cuts c s.data.toList [] else Go.Lib.splitK [c] save (s.data.toList.count c) s.data.toList) := by
  intro n s hn
  rw [Go.Lib.splitB_data]
  have hc : Go.Lib.countB s ⟨#[c]⟩ = s.data.toList.count c := Go.Lib.count_one c _
  rw [hc]
  by_cases h0 : save = 0
  · subst h0
    rw [if_pos rfl]
    clear hn hc hs
    generalize s.data.toList = l
    suffices H : ∀ (m : Nat) (l : List UInt8), l.length ≤ m → Go.Lib.splitK [c] 0 (l.count c) l = cuts c l [] from H l.length l (Nat.le_refl _)
    intro m
    induction m with
    | zero =>
      intro l hl
      obtain rfl : l = [] := List.length_eq_zero_iff.1 (by omega)
      rfl
    | succ m ih =>
      intro l hl
      rcases index_one c l with ⟨h1, h2⟩ | ⟨a, r, h1, h2, h3⟩
      · rw [cuts_free c l [] h2, List.count_eq_zero_of_not_mem h2]
        rfl
      · have hcount : l.count c = r.count c + 1 := by
          rw [h1, List.count_append, List.count_cons_self, List.count_eq_zero_of_not_mem h2]
          omega
        rw [hcount, Go.Lib.splitK, if_neg (by rw [h3]; simp), h3, h1, cuts_hit c r a [] h2]
        have e1 : (a ++ c :: r).take ((a.length : Int).toNat + 0) = a := by simp
        have e2 : (a ++ c :: r).drop ((a.length : Int).toNat + [c].length) = r := by simp
        rw [e1, e2, ih r (by rw [h1, List.length_append, List.length_cons] at hl; omega)]
        rfl
  · rw [if_neg h0]
theorem split_eq (c : UInt8) (s : ByteArray) (hs : s.size < 4294967281) : strings_Split.f s ⟨#[c]⟩ = some (piecesB c s) := by
  unfold strings_Split.f
  rw [if_pos hs, if_pos (by simp [ByteArray.size])]
  congr 1
  have := splitB_one c 0 (by omega) s.size s (Nat.le_refl _)
  rw [if_pos rfl] at this
  unfold piecesB
  rw [← this, List.map_map]
  have : (ofBytes ∘ fun x : ByteArray => x.data.toList) = id := by
    funext x
    exact ofBytes_of x
  rw [this, List.map_id]

/-! ### the reference -/
theorem extract_data (s : ByteArray) (a b : Nat) : (s.extract a b).data.toList = (s.data.toList.take b).drop a := by
  rw [ByteArray.data_extract, Array.toList_extract]
  simp [List.extract, List.drop_take]
theorem spec_Pa0 (s : ByteArray) (hs : s.size ≤ 1048576) : ∀ (d i f : Nat) (acc : List ByteArray), i + d = s.size → f ≤ i → acc.length ≤ i →
    Ev (fun k => spec_l4Parts.l0 k s acc (f : Int) (i : Int)) (acc ++ (cuts 47 (s.data.toList.drop i) ((s.data.toList.take i).drop f)).map ofBytes)
  | 0, i, f, acc, hd, hf, ha => by
    refine Ev.step (fun k => spec_l4Parts.l0.eq_2 ..) (Ev.neg (by omega) (Ev.pos (by omega) (Ev.pos (by omega) (Ev.pos (by omega) ?_))))
    rw [List.drop_of_length_le (by rw [size_toList]; omega), cuts]
    have : s.extract (f : Int).toNat s.size = ofBytes ((s.data.toList.take i).drop f) := by
      apply ba_ext
      rw [ofBytes_data, extract_data, Int.toNat_natCast, show s.size = i from by omega]
    rw [this]
    exact Ev.now _
  | d + 1, i, f, acc, hd, hf, ha => by
    have hi : i < s.data.toList.length := by rw [size_toList]; omega
    have hb : bt s (i : Int) = (s.data.toList[i].toNat : Int) := by
      rw [bt_getD, List.getD_eq_getElem?_getD, List.getElem?_eq_getElem hi]
      rfl
    have hw : wrap64 ((i : Int) + 1) = ((i + 1 : Nat) : Int) := by rw [w64 (by omega) (by omega)]; omega
    have ht : (s.data.toList.take (i + 1)).drop f = (s.data.toList.take i).drop f ++ [s.data.toList[i]] := by
      rw [List.take_succ_eq_append_getElem hi, List.drop_append_of_le_length (by rw [List.length_take]; omega)]
    refine Ev.step (fun k => spec_l4Parts.l0.eq_2 ..) (Ev.pos (by omega) (Ev.pos (by omega) ?_))
    rw [List.drop_eq_getElem_cons hi, cuts, hb, hw]
    by_cases h : s.data.toList[i] = 47
    · rw [if_pos h]
      refine Ev.pos (by rw [h]; rfl) (Ev.pos (by omega) (Ev.pos (by omega) (Ev.pos (by omega) (Ev.pos (by omega) ?_))))
      have := spec_Pa0 s hs d (i + 1) (i + 1) (acc ++ [s.extract (f : Int).toNat (i : Int).toNat]) (by omega) (by omega) (by simp; omega)
      have e : s.extract (f : Int).toNat (i : Int).toNat = ofBytes ((s.data.toList.take i).drop f) := by
        apply ba_ext
        rw [ofBytes_data, extract_data, Int.toNat_natCast, Int.toNat_natCast]
      rw [e] at this ⊢
      rw [List.drop_of_length_le (l := s.data.toList.take (i + 1)) (by rw [List.length_take]; omega)] at this
      simpa using this
    · rw [if_neg h]
      refine Ev.neg (fun e => h (UInt8.toNat_inj.1 (by have : (47 : UInt8).toNat = 47 := rfl; omega))) ?_
      have := spec_Pa0 s hs d (i + 1) f acc (by omega) (by omega) (by omega)
      rwa [ht] at this
theorem spec_parts_ev (s : ByteArray) (hs : s.size ≤ 1048576) : Ev (fun k => spec_l4Parts.f k s) (piecesB 47 s) := by
  unfold spec_l4Parts.f piecesB
  have := spec_Pa0 s hs s.size 0 0 [] (by omega) (by omega) (by simp)
  simpa using this

end Go.Proofs.YtknagppkeodggaaDoor.Pure


namespace Go.Proofs.YtknagppkeodggaaDoor.Pure
open Go Go.RowKit Go.Proofs.YtknagppkeodggaaDoor.P Go.Proofs.YtknagppkeodggaaDoorW.PrintWords Go.Proofs.YtknagppkeodggaaDoorW.PrintLast
set_option linter.unusedVariables false
set_option linter.unusedSimpArgs false

theorem in_eq4 (a b c : Int) : spec_l1In.f a b c = some (decide (b ≤ a ∧ a ≤ c)) := by
  unfold spec_l1In.f
  by_cases h : a ≥ b
  · rw [if_pos h]
    congr 1
    simp [h]
  · rw [if_neg h]
    congr 1
    simp [h]
theorem impl_in_eq4 (a b c : Int) : impl_in.f a b c = some (decide (b ≤ a ∧ a ≤ c)) := by
  unfold impl_in.f
  by_cases h : a ≥ b
  · rw [if_pos h]
    congr 1
    simp [h]
  · rw [if_neg h]
    congr 1
    simp [h]
def charOk (g : Bool) (b : Int) : Bool := if b < 33 then false else if b > 126 then false else if b = 47 then false else if b = 34 then false else if g = true then true else if b = 42 then false else if b = 63 then false else true
def allOk (g : Bool) (s : ByteArray) (i : Nat) : Bool := (s.data.toList.drop i).all fun b => charOk g (b.toNat : Int)
def partOk (s : ByteArray) (g : Bool) : Bool :=
  if 1 ≤ (s.size : Int) ∧ (s.size : Int) ≤ 20 then (if s.toList = ([46] : List UInt8) then false else if s.toList = ([46, 46] : List UInt8) then false else allOk g s 0) else false
theorem allOk_step (g : Bool) (s : ByteArray) (i : Nat) (h : i < s.size) : allOk g s i = (charOk g (bt s (i : Int)) && allOk g s (i + 1)) := by
  have hi : i < s.data.toList.length := by rw [size_toList]; exact h
  unfold allOk
  rw [List.drop_eq_getElem_cons hi, List.all_cons, bt_getD, List.getD_eq_getElem?_getD, List.getElem?_eq_getElem hi]
  rfl
theorem allOk_end (g : Bool) (s : ByteArray) (i : Nat) (h : s.size ≤ i) : allOk g s i = true := by
  unfold allOk
  rw [List.drop_of_length_le (by rw [size_toList]; exact h)]
  rfl
theorem spec_PO0 (s : ByteArray) (g : Bool) (hs : s.size ≤ 20) : ∀ (d i : Nat), i + d = s.size → Ev (fun k => spec_l4PartOk.l0 k s g (i : Int)) (allOk g s i)
  | 0, i, hd => by
    rw [allOk_end g s i (by omega)]
    exact Ev.step (fun k => spec_l4PartOk.l0.eq_2 ..) (Ev.neg (by omega) (Ev.now _))
  | d + 1, i, hd => by
    have hw : wrap64 ((i : Int) + 1) = ((i + 1 : Nat) : Int) := by rw [w64 (by omega) (by omega)]; omega
    have ih := spec_PO0 s g hs d (i + 1) (by omega)
    refine Ev.step (fun k => spec_l4PartOk.l0.eq_2 ..) (Ev.pos (by omega) (Ev.pos (by omega) ?_))
    rw [allOk_step g s i (by omega), hw]
    unfold charOk
    generalize bt s (i : Int) = b
    by_cases h1 : b < 33
    · rw [if_pos h1]; exact Ev.pos h1 (Ev.now _)
    by_cases h2 : b > 126
    · rw [if_neg h1, if_pos h2]; exact Ev.neg h1 (Ev.pos h2 (Ev.now _))
    by_cases h3 : b = 47
    · rw [if_neg h1, if_neg h2, if_pos h3]; exact Ev.neg h1 (Ev.neg h2 (Ev.pos h3 (Ev.now _)))
    by_cases h4 : b = 34
    · rw [if_neg h1, if_neg h2, if_neg h3, if_pos h4]; exact Ev.neg h1 (Ev.neg h2 (Ev.neg h3 (Ev.pos h4 (Ev.now _))))
    rw [if_neg h1, if_neg h2, if_neg h3, if_neg h4]
    refine Ev.neg h1 (Ev.neg h2 (Ev.neg h3 (Ev.neg h4 ?_)))
    by_cases hg : g = true
    · rw [if_pos hg, Bool.true_and]; exact Ev.pos hg ih
    rw [if_neg hg]
    refine Ev.neg hg ?_
    by_cases h5 : b = 42
    · rw [if_pos h5]; exact Ev.pos h5 (Ev.now _)
    by_cases h6 : b = 63
    · rw [if_neg h5, if_pos h6]; exact Ev.neg h5 (Ev.pos h6 (Ev.now _))
    rw [if_neg h5, if_neg h6, Bool.true_and]
    exact Ev.neg h5 (Ev.neg h6 ih)
theorem impl_PO0 (s : ByteArray) (g : Bool) (hs : s.size ≤ 20) : ∀ (d i : Nat), i + d = s.size → Ev (fun k => impl_goodPart.l0 k s g (i : Int)) (allOk g s i)
  | 0, i, hd => by
    rw [allOk_end g s i (by omega)]
    exact Ev.step (fun k => impl_goodPart.l0.eq_2 ..) (Ev.neg (by omega) (Ev.now _))
  | d + 1, i, hd => by
    have hw : wrap64 ((i : Int) + 1) = ((i + 1 : Nat) : Int) := by rw [w64 (by omega) (by omega)]; omega
    have ih := impl_PO0 s g hs d (i + 1) (by omega)
    refine Ev.step (fun k => impl_goodPart.l0.eq_2 ..) (Ev.pos (by omega) (Ev.pos (by omega) ?_))
    rw [allOk_step g s i (by omega), hw]
    unfold charOk
    generalize bt s (i : Int) = b
    by_cases h1 : b < 33
    · rw [if_pos h1]; exact Ev.pos h1 (Ev.now _)
    by_cases h2 : b > 126
    · rw [if_neg h1, if_pos h2]; exact Ev.neg h1 (Ev.pos h2 (Ev.now _))
    refine Ev.neg h1 (Ev.neg h2 ?_)
    rw [if_neg h1, if_neg h2]
    by_cases h4 : b = 34
    · rw [if_neg (by omega), if_pos h4]; exact Ev.pos h4 (Ev.now _)
    refine Ev.neg h4 ?_
    by_cases h3 : b = 47
    · rw [if_pos h3]; exact Ev.pos h3 (Ev.now _)
    rw [if_neg h3, if_neg h4]
    refine Ev.neg h3 ?_
    by_cases hg : g = true
    · rw [if_pos hg, Bool.true_and]; exact Ev.pos hg ih
    rw [if_neg hg]
    refine Ev.neg hg ?_
    by_cases h5 : b = 42
    · rw [if_pos h5]; exact Ev.pos h5 (Ev.now _)
    by_cases h6 : b = 63
    · rw [if_neg h5, if_pos h6]; exact Ev.neg h5 (Ev.pos h6 (Ev.now _))
    rw [if_neg h5, if_neg h6, Bool.true_and]
    exact Ev.neg h5 (Ev.neg h6 ih)
theorem spec_part_ev (s : ByteArray) (g : Bool) : Ev (fun k => spec_l4PartOk.f k s g) (partOk s g) := by
  unfold spec_l4PartOk.f partOk
  rw [in_eq4]
  refine Ev.sb ?_
  have bad : Ev (fun k => spec_l4PartOk.j0 k s g true) false := Ev.step (fun k => spec_l4PartOk.j0.eq_2 ..) (Ev.pos rfl (Ev.now _))
  by_cases h : 1 ≤ (s.size : Int) ∧ (s.size : Int) ≤ 20
  · rw [if_pos h]
    refine Ev.pos (decide_eq_true h) ?_
    by_cases h1 : s.toList = ([46] : List UInt8)
    · rw [if_pos h1]
      exact Ev.pos h1 bad
    · rw [if_neg h1]
      refine Ev.neg h1 ?_
      by_cases h2 : s.toList = ([46, 46] : List UInt8)
      · rw [if_pos h2, show (s.toList == ([46, 46] : List UInt8)) = true from beq_iff_eq.2 h2]
        exact bad
      · rw [if_neg h2, show (s.toList == ([46, 46] : List UInt8)) = false from beq_eq_false_iff_ne.2 h2]
        exact Ev.step (fun k => spec_l4PartOk.j0.eq_2 ..) (Ev.neg (by simp) (spec_PO0 s g (by omega) s.size 0 (by omega)))
  · rw [if_neg h]
    exact Ev.neg (by simpa using h) bad
theorem impl_part_ev (s : ByteArray) (g : Bool) : Ev (fun k => impl_goodPart.f k s g) (partOk s g) := by
  unfold impl_goodPart.f partOk
  rw [impl_in_eq4]
  refine Ev.sb ?_
  have bad : Ev (fun k => impl_goodPart.j0 k s g true) false := Ev.step (fun k => impl_goodPart.j0.eq_2 ..) (Ev.pos rfl (Ev.now _))
  by_cases h : 1 ≤ (s.size : Int) ∧ (s.size : Int) ≤ 20
  · rw [if_pos h]
    refine Ev.pos (decide_eq_true h) ?_
    by_cases h1 : s.toList = ([46] : List UInt8)
    · rw [if_pos h1]
      exact Ev.pos h1 bad
    · rw [if_neg h1]
      refine Ev.neg h1 ?_
      by_cases h2 : s.toList = ([46, 46] : List UInt8)
      · rw [if_pos h2, show (s.toList == ([46, 46] : List UInt8)) = true from beq_iff_eq.2 h2]
        exact bad
      · rw [if_neg h2, show (s.toList == ([46, 46] : List UInt8)) = false from beq_eq_false_iff_ne.2 h2]
        exact Ev.step (fun k => impl_goodPart.j0.eq_2 ..) (Ev.neg (by simp) (impl_PO0 s g (by omega) s.size 0 (by omega)))
  · rw [if_neg h]
    exact Ev.neg (by simpa using h) bad

/-- A path or a glob holds. -/
def pathOk (s : ByteArray) (g : Bool) : Bool := if (piecesB 47 s).length > 6 then false else (piecesB 47 s).all fun p => partOk p g
theorem rdB_eq {l : List ByteArray} {i : Nat} (h : i < l.length) : rdOf ByteArray.empty l (i : Int) = l[i] := by
  unfold rdOf
  rw [Int.toNat_natCast, List.getD_eq_getElem?_getD, List.getElem?_eq_getElem h]
  rfl
theorem spec_Ok0 (g : Bool) (l : List ByteArray) (hl : l.length ≤ 6) : ∀ (d i : Nat), i + d = l.length → Ev (fun k => spec_l4Ok.l0 k g l (i : Int)) ((l.drop i).all fun p => partOk p g)
  | 0, i, hd => by
    rw [List.drop_of_length_le (by omega)]
    exact Ev.step (fun k => spec_l4Ok.l0.eq_2 ..) (Ev.neg (by omega) (Ev.now _))
  | d + 1, i, hd => by
    have hi : i < l.length := by omega
    refine Ev.step (fun k => spec_l4Ok.l0.eq_2 ..) (Ev.pos (by omega) (Ev.pos (by omega) ?_))
    rw [rdB_eq hi, List.drop_eq_getElem_cons hi, List.all_cons, w64 (by omega) (by omega), show (i : Int) + 1 = ((i + 1 : Nat) : Int) from by omega]
    refine Ev.bind (spec_part_ev l[i] g) ?_
    by_cases h : partOk l[i] g = true
    · rw [h, Bool.true_and]
      exact Ev.pos rfl (spec_Ok0 g l hl d (i + 1) (by omega))
    · rw [Bool.eq_false_iff.2 h, Bool.false_and]
      exact Ev.neg (by simp) (Ev.now _)
theorem impl_Ok0 (g : Bool) (l : List ByteArray) (hl : l.length ≤ 6) : ∀ (d i : Nat), i + d = l.length → Ev (fun k => impl_parts.l0 k g l (l.length : Int) (i : Int)) ((l.drop i).all fun p => partOk p g)
  | 0, i, hd => by
    rw [List.drop_of_length_le (by omega)]
    exact Ev.step (fun k => impl_parts.l0.eq_2 ..) (Ev.neg (by omega) (Ev.now _))
  | d + 1, i, hd => by
    have hi : i < l.length := by omega
    refine Ev.step (fun k => impl_parts.l0.eq_2 ..) (Ev.pos (by omega) (Ev.pos (by omega) (Ev.pos (by omega) ?_)))
    rw [rdB_eq hi, List.drop_eq_getElem_cons hi, List.all_cons, w64 (by omega) (by omega), show (i : Int) + 1 = ((i + 1 : Nat) : Int) from by omega]
    refine Ev.bind (impl_part_ev l[i] g) ?_
    by_cases h : partOk l[i] g = true
    · rw [h, Bool.true_and]
      exact Ev.pos rfl (impl_Ok0 g l hl d (i + 1) (by omega))
    · rw [Bool.eq_false_iff.2 h, Bool.false_and]
      exact Ev.neg (by simp) (Ev.now _)
theorem pathOk_long (s : ByteArray) (g : Bool) (h : 126 < s.size) : pathOk s g = false := by
  unfold pathOk
  split
  · rfl
  · rename_i h6
    apply Bool.eq_false_iff.2
    intro hall
    have ht := cuts_total 47 s.data.toList []
    have hall' : ∀ l ∈ cuts 47 s.data.toList [], l.length ≤ 20 := by
      intro l hl
      have := List.all_eq_true.1 hall (ofBytes l) (List.mem_map.2 ⟨l, hl, rfl⟩)
      unfold partOk at this
      by_cases hz : 1 ≤ ((ofBytes l).size : Int) ∧ ((ofBytes l).size : Int) ≤ 20
      · rw [ofBytes_size] at hz
        omega
      · rw [if_neg hz] at this
        cases this
    have hsum : ∀ (L : List (List UInt8)), (∀ l ∈ L, l.length ≤ 20) → (L.map List.length).sum ≤ 20 * L.length := by
      intro L
      induction L with
      | nil => intro _; simp
      | cons a L ih =>
        intro hL
        have := ih (fun l hl => hL l (List.mem_cons_of_mem _ hl))
        have := hL a (List.mem_cons_self ..)
        simp only [List.map_cons, List.sum_cons, List.length_cons]
        omega
    have := hsum _ hall'
    unfold piecesB at h6
    rw [List.length_map] at h6
    rw [size_toList] at ht
    simp only [List.length_nil] at ht
    omega
theorem spec_ok_ev (s : ByteArray) (g : Bool) : Ev (fun k => spec_l4Ok.f k s g) (pathOk s g) := by
  unfold spec_l4Ok.f
  by_cases h : (s.size : Int) > 126
  · rw [pathOk_long s g (by omega)]
    exact Ev.pos h (Ev.now _)
  · refine Ev.neg h (Ev.bind (spec_parts_ev s (by omega)) ?_)
    unfold pathOk
    by_cases h6 : (piecesB 47 s).length > 6
    · rw [if_pos h6]
      exact Ev.pos (by omega) (Ev.now _)
    · rw [if_neg h6]
      exact Ev.neg (by omega) (spec_Ok0 g (piecesB 47 s) (by omega) (piecesB 47 s).length 0 (by omega))
theorem impl_parts_ev (s : ByteArray) (hs : s.size ≤ 1048576) (g : Bool) : Ev (fun k => impl_parts.f k s g) (pathOk s g) := by
  unfold impl_parts.f pathOk
  rw [split_eq 47 s (by omega)]
  refine Ev.sb ?_
  by_cases h6 : (piecesB 47 s).length > 6
  · rw [if_pos h6]
    exact Ev.pos (by omega) (Ev.now _)
  · rw [if_neg h6]
    exact Ev.neg (by omega) (impl_Ok0 g (piecesB 47 s) (by omega) (piecesB 47 s).length 0 (by omega))

end Go.Proofs.YtknagppkeodggaaDoor.Pure


namespace Go.Proofs.YtknagppkeodggaaDoor.Pure
open Go Go.RowKit Go.Proofs.YtknagppkeodggaaDoor.P Go.Proofs.YtknagppkeodggaaDoorW.PrintWords Go.Proofs.YtknagppkeodggaaDoorW.PrintLast
set_option linter.unusedVariables false
set_option linter.unusedSimpArgs false

abbrev LChange := S183
abbrev Change := S120
def ofC (a : LChange) : Change := ⟨a.f0, ⟨a.f1.f0, a.f1.f1, a.f1.f2⟩, ⟨a.f2.f0, a.f2.f1, a.f2.f2⟩⟩
theorem getD_natC {α : Type} (d : α) {l : List α} {i : Nat} (h : i < l.length) : l.getD (i : Int).toNat d = l[i] := by
  rw [Int.toNat_natCast, List.getD_eq_getElem?_getD, List.getElem?_eq_getElem h]
  rfl
theorem rdC_eq {l : List Change} {i : Nat} (h : i < l.length) : rd_T120 l (i : Int) = l[i] := getD_natC _ h
theorem rdLC_eq {l : List LChange} {i : Nat} (h : i < l.length) : rd_T183 l (i : Int) = l[i] := getD_natC _ h
/-- What a change weighs. -/
def cw (a : LChange) : Nat := a.f0.size + a.f1.f1.size + a.f2.f1.size
theorem szChange_eq (a : LChange) (c : Int) (ha : a.f0.size ≤ 140737488351232) (hb : a.f1.f1.size ≤ 140737488351232) (hd : a.f2.f1.size ≤ 140737488351232) (h0 : 0 ≤ c) (h1 : c ≤ 1048576) :
    laws_szChange.f a.f0 a.f1.f0 a.f1.f1 a.f1.f2 a.f2.f0 a.f2.f1 a.f2.f2 c = some (if c - (cw a : Int) < 0 then -1 else c - (cw a : Int)) := by
  have f1 : ∀ (x : Bool) (b : ByteArray) (y : Bool) (n : Int), b.size ≤ 140737488351232 → 0 ≤ n → n ≤ 1048576 → laws_szFile.f x b y n = some (if n - (b.size : Int) < 0 then -1 else n - (b.size : Int)) := by
    intro x b y n hb0 hn0 hn1
    unfold laws_szFile.f
    rw [w64 (n := n - (b.size : Int)) (by omega) (by omega)]
    split <;> rfl
  unfold laws_szChange.f cw
  rw [w64 (n := c - (a.f0.size : Int)) (by omega) (by omega)]
  by_cases x1 : c - (a.f0.size : Int) < 0
  · rw [if_pos x1, if_pos (by omega)]
  rw [if_neg x1, f1 _ _ _ _ hb (by omega) (by omega)]
  by_cases x2 : c - (a.f0.size : Int) - (a.f1.f1.size : Int) < 0
  · rw [if_pos x2, if_pos (c := c - ((a.f0.size + a.f1.f1.size + a.f2.f1.size : Nat) : Int) < 0) (by omega)]
    rfl
  rw [if_neg x2, Option.bind_some, if_neg x2, f1 _ _ _ _ hd (by omega) (by omega), Option.bind_some]
  by_cases x3 : c - (a.f0.size : Int) - (a.f1.f1.size : Int) - (a.f2.f1.size : Int) < 0
  · rw [if_pos x3, if_pos (c := c - ((a.f0.size + a.f1.f1.size + a.f2.f1.size : Nat) : Int) < 0) (by omega)]
    rfl
  · rw [if_neg x3, if_neg x3, if_neg (c := c - ((a.f0.size + a.f1.f1.size + a.f2.f1.size : Nat) : Int) < 0) (by omega)]
    congr 1
    omega
def RoomC (l : List LChange) (left r : Int) : Prop := r = -1 ∨ (0 ≤ r ∧ r ≤ left ∧ (l.length : Int) ≤ left ∧ ∀ s ∈ l, (cw s : Int) ≤ left)
theorem szC_l0 (l : List LChange) (hl : l.length ≤ 8796093022208) (hz : ∀ s ∈ l, s.f0.size ≤ 140737488351232 ∧ s.f1.f1.size ≤ 140737488351232 ∧ s.f2.f1.size ≤ 140737488351232) (left : Int) (h1 : left ≤ 1048576) : ∀ (d i : Nat) (c : Int), i + d = l.length → 0 ≤ c → c ≤ left → (∀ j, (h : j < l.length) → j < i → (cw l[j] : Int) ≤ left) →
    ∃ r, Ev (fun k => laws_szChangeS.l0 k l c (i : Int)) r ∧ (r = -1 ∨ (0 ≤ r ∧ r ≤ left ∧ ∀ s ∈ l, (cw s : Int) ≤ left))
  | 0, i, c, hd, h0, hc, ha => by
    refine ⟨c, Ev.step (fun k => laws_szChangeS.l0.eq_2 ..) (Ev.neg (by omega) (Ev.now _)), .inr ⟨h0, hc, fun s hs => ?_⟩⟩
    obtain ⟨j, hj, rfl⟩ := List.getElem_of_mem hs
    exact ha j hj (by omega)
  | d + 1, i, c, hd, h0, hc, ha => by
    have hi : i < l.length := by omega
    obtain ⟨hs0, hs1, hs2⟩ := hz l[i] (List.getElem_mem hi)
    have e := szChange_eq l[i] c hs0 hs1 hs2 h0 (by omega)
    by_cases hn : c - (cw l[i] : Int) < 0
    · refine ⟨-1, Ev.step (fun k => laws_szChangeS.l0.eq_2 ..) (Ev.pos (by omega) (Ev.pos (by omega) ?_)), .inl rfl⟩
      rw [if_pos hn] at e
      rw [rdLC_eq hi, e]
      exact Ev.sb (Ev.pos (by omega) (Ev.now _))
    · obtain ⟨r, hr, h⟩ := szC_l0 l hl hz left h1 d (i + 1) (c - (cw l[i] : Int)) (by omega) (by omega) (by omega) (fun j h hj => by
        rcases Nat.lt_or_ge j i with h' | h'
        · exact ha j h h'
        · obtain rfl : j = i := by omega
          omega)
      refine ⟨r, Ev.step (fun k => laws_szChangeS.l0.eq_2 ..) (Ev.pos (by omega) (Ev.pos (by omega) ?_)), h⟩
      rw [if_neg hn] at e
      rw [rdLC_eq hi, e, w64 (n := (i : Int) + 1) (by omega) (by omega)]
      exact Ev.sb (Ev.neg (by omega) hr)
theorem szPatch_ev (l : List LChange) (hl : l.length ≤ 8796093022208) (hz : ∀ s ∈ l, s.f0.size ≤ 140737488351232 ∧ s.f1.f1.size ≤ 140737488351232 ∧ s.f2.f1.size ≤ 140737488351232) (left : Int) (h0 : 0 ≤ left) (h1 : left ≤ 1048576) :
    ∃ r, Ev (fun k => laws_szPatch.f k l left) r ∧ RoomC l left r := by
  unfold laws_szPatch.f laws_szChangeS.f RoomC
  rw [w64 (n := left - (l.length : Int)) (by omega) (by omega)]
  by_cases hn : left - (l.length : Int) < 0
  · exact ⟨-1, Ev.bind (Ev.pos hn (Ev.now _)) (Ev.pos (by omega) (Ev.now _)), .inl rfl⟩
  · obtain ⟨r, hr, h⟩ := szC_l0 l hl hz left h1 l.length 0 (left - (l.length : Int)) (by omega) (by omega) (by omega) (fun j h hj => by omega)
    rcases h with h | ⟨a, b, c⟩
    · exact ⟨-1, Ev.bind (Ev.neg hn hr) (Ev.pos (by omega) (Ev.now _)), .inl rfl⟩
    · exact ⟨r, Ev.bind (Ev.neg hn hr) (Ev.neg (by omega) (Ev.now _)), .inr ⟨a, b, by omega, c⟩⟩
theorem toC_l0 (l : List LChange) (hl : l.length ≤ 8796093022208) : ∀ (d i : Nat) (o : List Change), i + d = l.length → o.length = l.length → o.take i = (l.map ofC).take i →
    Ev (fun k => laws_toChangeS.l0 k l o (i : Int)) (l.map ofC)
  | 0, i, o, hd, ho, ha => by
    rw [List.take_of_length_le (by omega), List.take_of_length_le (by rw [List.length_map]; omega)] at ha
    exact Ev.step (fun k => laws_toChangeS.l0.eq_2 ..) (Ev.neg (by omega) (by rw [ha]; exact Ev.now _))
  | d + 1, i, o, hd, ho, ha => by
    have hi : i < l.length := by omega
    refine Ev.step (fun k => laws_toChangeS.l0.eq_2 ..) (Ev.pos (by omega) (Ev.pos (by omega) ?_))
    rw [rdLC_eq hi, laws_toChange.f, laws_toFile.f, laws_toFile.f, w64 (n := (i : Int) + 1) (by omega) (by omega), Int.toNat_natCast]
    refine Ev.sb (Ev.pos (by omega) (toC_l0 l hl d (i + 1) (o.set i (ofC l[i])) (by omega) (by rw [List.length_set, ho]) ?_))
    rw [List.take_succ_eq_append_getElem (by rw [List.length_set]; omega), List.take_succ_eq_append_getElem (by rw [List.length_map]; omega), List.getElem_set_self, List.getElem_map, List.take_set_of_le (by omega), ha]
theorem toPatch_ev (l : List LChange) (hl : l.length ≤ 3518437208883) : Ev (fun k => laws_toPatch.f k l) (l.map ofC) := by
  unfold laws_toPatch.f laws_toChangeS.f
  refine Ev.bind (Ev.pos (by omega) (Ev.pos (by omega) ?_)) (Ev.now _)
  rw [Int.toNat_natCast]
  exact toC_l0 l (by omega) l.length 0 _ (by omega) (by simp) (by simp)
theorem eqFile_eq (a : Bool) (b : ByteArray) (c : Bool) : laws_eqFile.f a b c a b c = some true := by
  unfold laws_eqFile.f
  rw [if_neg (by simp), if_pos rfl, if_neg (by simp)]
theorem eqChange_eq (a : ByteArray) (b : Bool) (c : ByteArray) (d e : Bool) (f : ByteArray) (g : Bool) : laws_eqChange.f a b c d e f g a b c d e f g = some true := by
  unfold laws_eqChange.f
  rw [if_pos rfl, eqFile_eq, eqFile_eq]
  rfl
theorem eqC_l0 (l : List Change) (hl : l.length ≤ 8796093022208) : ∀ (d i : Nat), i + d = l.length → Ev (fun k => laws_eqChangeS.l0 k l l (i : Int)) true
  | 0, i, hd => Ev.step (fun k => laws_eqChangeS.l0.eq_2 ..) (Ev.neg (by omega) (Ev.now _))
  | d + 1, i, hd => by
    refine Ev.step (fun k => laws_eqChangeS.l0.eq_2 ..) (Ev.pos (by omega) (Ev.pos (by omega) (Ev.pos (by omega) ?_)))
    rw [eqChange_eq, w64 (n := (i : Int) + 1) (by omega) (by omega)]
    exact Ev.sb (Ev.pos rfl (eqC_l0 l hl d (i + 1) (by omega)))
theorem eqPatch_ev (l : List Change) (hl : l.length ≤ 8796093022208) : Ev (fun k => laws_eqPatch.f k l l) true := by
  unfold laws_eqPatch.f laws_eqChangeS.f
  exact Ev.bind (Ev.pos rfl (eqC_l0 l hl l.length 0 (by omega))) (Ev.pos rfl (Ev.now _))

end Go.Proofs.YtknagppkeodggaaDoor.Pure


namespace Go.Proofs.YtknagppkeodggaaDoor.Pure
open Go Go.RowKit Go.Proofs.YtknagppkeodggaaDoor.P Go.Proofs.YtknagppkeodggaaDoorW.PrintWords Go.Proofs.YtknagppkeodggaaDoorW.PrintLast
set_option linter.unusedVariables false
set_option linter.unusedSimpArgs false

theorem spec_pathC_ev (s : ByteArray) : Ev (fun k => spec_ValidPath.f k s) (pathOk s false) := by
  unfold spec_ValidPath.f
  exact Ev.bind (spec_ok_ev s false) (Ev.now _)
theorem impl_pathC_ev (s : ByteArray) (h : s.size ≤ 1048576) : Ev (fun k => impl_ValidPath.f k s) (pathOk s false) := by
  unfold impl_ValidPath.f
  exact Ev.bind (impl_parts_ev s h false) (Ev.now _)
def fileOk (a : Bool) (b : ByteArray) (c : Bool) : Bool := if (b.size : Int) ≤ 1500 then (if a = true then true else (if b.toList = ([] : List UInt8) then !c else false)) else false
theorem spec_fileOk_eq (a : Bool) (b : ByteArray) (c : Bool) : spec_l6FileOk.f a b c = some (fileOk a b c) := by
  unfold spec_l6FileOk.f fileOk
  split
  · split
    · rfl
    · split <;> rfl
  · rfl
theorem impl_goodFile_eq (a : Bool) (b : ByteArray) (c : Bool) : impl_goodFile.f a b c = some (fileOk a b c) := by
  unfold impl_goodFile.f fileOk
  split
  · split
    · rfl
    · rename_i h
      congr 1
      rw [Bool.eq_false_iff.2 h]
      by_cases hb : b.toList = ([] : List UInt8)
      · rw [if_pos hb, hb]
        simp
      · rw [if_neg hb, show (b.toList == ([] : List UInt8)) = false from beq_eq_false_iff_ne.2 hb]
        simp
  · rfl
abbrev rdC (l : List Change) (i : Int) : Change := rd_T120 l i
def sameC (e : Change) : Bool := e.f1.f0 == e.f2.f0 && (e.f1.f1.toList == e.f2.f1.toList && (e.f1.f2 == e.f2.f2))
def ascC (l : List Change) (i : Nat) : Bool := if (i : Int) > 0 then Op.bytesLess (rdC l ((i : Int) - 1)).f0.toList (rdC l (i : Int)).f0.toList else true
def rowC (l : List Change) (i : Nat) : Bool :=
  pathOk (rdC l (i : Int)).f0 false && (fileOk (rdC l (i : Int)).f1.f0 (rdC l (i : Int)).f1.f1 (rdC l (i : Int)).f1.f2 && (fileOk (rdC l (i : Int)).f2.f0 (rdC l (i : Int)).f2.f1 (rdC l (i : Int)).f2.f2 && (!(sameC (rdC l (i : Int))) && ascC l i)))
def patchFrom (l : List Change) : Nat → Nat → Bool
  | 0, _ => true
  | d + 1, i => if rowC l i = true then patchFrom l d (i + 1) else false
def patchOk (l : List Change) : Bool := if (l.length : Int) > 200 then false else patchFrom l l.length 0

theorem spec_VP0 (l : List Change) (hl : l.length ≤ 200) : ∀ (d i : Nat), i + d = l.length → Ev (fun k => spec_ValidPatch.l0 k (i : Int) l) (patchFrom l d i)
  | 0, i, hd => by
    rw [patchFrom]
    exact Ev.step (fun k => spec_ValidPatch.l0.eq_2 ..) (Ev.neg (by omega) (Ev.now _))
  | d + 1, i, hd => by
    have ih := spec_VP0 l hl d (i + 1) (by omega)
    rw [show ((i + 1 : Nat) : Int) = (i : Int) + 1 from by omega] at ih
    refine Ev.step (fun k => spec_ValidPatch.l0.eq_2 ..) (Ev.pos (by omega) (Ev.pos (by omega) (Ev.bind (spec_pathC_ev _) ?_)))
    rw [patchFrom, spec_fileOk_eq, spec_fileOk_eq, w64 (n := (i : Int) + 1) (by omega) (by omega)]
    by_cases h1 : pathOk (rdC l (i : Int)).f0 false = true
    rotate_left
    · rw [show rowC l i = false from by simp [rowC, h1], if_neg (by simp)]
      exact Ev.neg h1 (Ev.now _)
    refine Ev.pos h1 (Ev.sb ?_)
    by_cases h2 : fileOk (rdC l (i : Int)).f1.f0 (rdC l (i : Int)).f1.f1 (rdC l (i : Int)).f1.f2 = true
    rotate_left
    · rw [show rowC l i = false from by simp [rowC, h2], if_neg (by simp)]
      exact Ev.neg h2 (Ev.now _)
    refine Ev.pos h2 (Ev.sb ?_)
    by_cases h3 : fileOk (rdC l (i : Int)).f2.f0 (rdC l (i : Int)).f2.f1 (rdC l (i : Int)).f2.f2 = true
    rotate_left
    · rw [show rowC l i = false from by simp [rowC, h3], if_neg (by simp)]
      exact Ev.neg h3 (Ev.now _)
    refine Ev.pos h3 ?_
    by_cases h4 : sameC (rdC l (i : Int)) = true
    · rw [show rowC l i = false from by simp [rowC, h4], if_neg (by simp)]
      exact Ev.pos h4 (Ev.now _)
    refine Ev.neg h4 ?_
    have e : rowC l i = ascC l i := by simp [rowC, h1, h2, h3, h4]
    rw [e]
    unfold ascC
    by_cases h5 : (i : Int) > 0
    · rw [if_pos h5]
      refine Ev.pos h5 ?_
      rw [w64 (n := (i : Int) - 1) (by omega) (by omega)]
      exact Ev.pos (by omega) (Ev.pos (by omega) (Ev.both (fun _ => ih) (fun _ => Ev.now _)))
    · rw [if_neg h5, if_pos rfl]
      exact Ev.neg h5 ih
theorem spec_ValidPatch_ev (l : List Change) : Ev (fun k => spec_ValidPatch.f k l) (patchOk l) := by
  unfold spec_ValidPatch.f patchOk
  by_cases h : (l.length : Int) > 200
  · rw [if_pos h]
    exact Ev.pos h (Ev.now _)
  · rw [if_neg h]
    exact Ev.neg h (spec_VP0 l (by omega) l.length 0 (by omega))
theorem impl_VP0 (l : List Change) (hl : l.length ≤ 200) (hz : ∀ i : Nat, (rdC l (i : Int)).f0.size ≤ 1048576) : ∀ (d i : Nat), i + d = l.length → Ev (fun k => impl_ValidPatch.l0 k l (l.length : Int) (i : Int) l) (patchFrom l d i)
  | 0, i, hd => by
    rw [patchFrom]
    exact Ev.step (fun k => impl_ValidPatch.l0.eq_2 ..) (Ev.neg (by omega) (Ev.now _))
  | d + 1, i, hd => by
    have ih := impl_VP0 l hl hz d (i + 1) (by omega)
    rw [show ((i + 1 : Nat) : Int) = (i : Int) + 1 from by omega] at ih
    refine Ev.step (fun k => impl_ValidPatch.l0.eq_2 ..) (Ev.pos (by omega) (Ev.pos (by omega) (Ev.pos (by omega) (Ev.bind (impl_pathC_ev _ (hz i)) ?_))))
    rw [patchFrom, impl_goodFile_eq, impl_goodFile_eq, w64 (n := (i : Int) + 1) (by omega) (by omega)]
    by_cases h1 : pathOk (rdC l (i : Int)).f0 false = true
    rotate_left
    · rw [show rowC l i = false from by simp [rowC, h1], if_neg (by simp)]
      exact Ev.neg h1 (Ev.now _)
    refine Ev.pos h1 ?_
    have G : ∀ R, Ev (fun k => impl_ValidPatch.l0 k l (l.length : Int) ((i : Int) + 1) l) R → Ev (fun k => (some (fileOk (rdC l (i : Int)).f1.f0 (rdC l (i : Int)).f1.f1 (rdC l (i : Int)).f1.f2)).bind fun t => if t = true then ((some (fileOk (rdC l (i : Int)).f2.f0 (rdC l (i : Int)).f2.f1 (rdC l (i : Int)).f2.f2)).bind fun t => if t = true then (if sameC (rdC l (i : Int)) = true then some false else impl_ValidPatch.l0 k l (l.length : Int) ((i : Int) + 1) l) else some false) else some false)
        (if (fileOk (rdC l (i : Int)).f1.f0 (rdC l (i : Int)).f1.f1 (rdC l (i : Int)).f1.f2 && (fileOk (rdC l (i : Int)).f2.f0 (rdC l (i : Int)).f2.f1 (rdC l (i : Int)).f2.f2 && !(sameC (rdC l (i : Int))))) = true then R else false) := by
      intro R hR
      refine Ev.sb ?_
      by_cases h2 : fileOk (rdC l (i : Int)).f1.f0 (rdC l (i : Int)).f1.f1 (rdC l (i : Int)).f1.f2 = true
      rotate_left
      · rw [if_neg (by simp [h2])]
        exact Ev.neg h2 (Ev.now _)
      refine Ev.pos h2 (Ev.sb ?_)
      by_cases h3 : fileOk (rdC l (i : Int)).f2.f0 (rdC l (i : Int)).f2.f1 (rdC l (i : Int)).f2.f2 = true
      rotate_left
      · rw [if_neg (by simp [h3])]
        exact Ev.neg h3 (Ev.now _)
      refine Ev.pos h3 ?_
      by_cases h4 : sameC (rdC l (i : Int)) = true
      · rw [if_neg (by simp [h4])]
        exact Ev.pos h4 (Ev.now _)
      · rw [if_pos (by simp [h2, h3, h4])]
        exact Ev.neg h4 hR
    by_cases h5 : (i : Int) > 0
    · refine Ev.pos h5 ?_
      rw [w64 (n := (i : Int) - 1) (by omega) (by omega)]
      refine Ev.pos (by omega) (Ev.pos (by omega) ?_)
      by_cases h6 : Op.bytesLess (rdC l ((i : Int) - 1)).f0.toList (rdC l (i : Int)).f0.toList = true
      · have e : rowC l i = (fileOk (rdC l (i : Int)).f1.f0 (rdC l (i : Int)).f1.f1 (rdC l (i : Int)).f1.f2 && (fileOk (rdC l (i : Int)).f2.f0 (rdC l (i : Int)).f2.f1 (rdC l (i : Int)).f2.f2 && !(sameC (rdC l (i : Int))))) := by
          unfold rowC ascC
          rw [if_pos h5, h6, h1]
          simp
        rw [e]
        exact Ev.pos h6 (G _ ih)
      · have e : rowC l i = false := by
          unfold rowC ascC
          rw [if_pos h5, Bool.eq_false_iff.2 h6]
          simp
        rw [e, if_neg (by simp)]
        exact Ev.neg h6 (Ev.now _)
    · have e : rowC l i = (fileOk (rdC l (i : Int)).f1.f0 (rdC l (i : Int)).f1.f1 (rdC l (i : Int)).f1.f2 && (fileOk (rdC l (i : Int)).f2.f0 (rdC l (i : Int)).f2.f1 (rdC l (i : Int)).f2.f2 && !(sameC (rdC l (i : Int))))) := by
        unfold rowC ascC
        rw [if_neg h5, h1]
        simp
      rw [e]
      exact Ev.neg h5 (G _ ih)
theorem rdC_small {l : List Change} (h : ∀ e ∈ l, e.f0.size ≤ 1048576) (i : Nat) : (rdC l (i : Int)).f0.size ≤ 1048576 := by
  by_cases hi : i < l.length
  · rw [rdC, rdC_eq hi]
    exact h _ (List.getElem_mem hi)
  · have : rdC l (i : Int) = z120 := by
      show l.getD (i : Int).toNat _ = _
      rw [Int.toNat_natCast, List.getD_eq_getElem?_getD, List.getElem?_eq_none (by omega)]
      rfl
    rw [this]
    decide
theorem impl_ValidPatch_ev (l : List Change) (hz : ∀ e ∈ l, e.f0.size ≤ 1048576) : Ev (fun k => impl_ValidPatch.f k l) (patchOk l) := by
  unfold impl_ValidPatch.f patchOk
  by_cases h : (l.length : Int) > 200
  · rw [if_pos h]
    exact Ev.pos h (Ev.now _)
  · rw [if_neg h]
    exact Ev.neg h (impl_VP0 l (by omega) (rdC_small hz) l.length 0 (by omega))

end Go.Proofs.YtknagppkeodggaaDoor.Pure


namespace Go.Proofs.YtknagppkeodggaaDoor.Pure
open Go Go.RowKit Go.Proofs.YtknagppkeodggaaDoor.P Go.Proofs.YtknagppkeodggaaDoorW.PrintWords Go.Proofs.YtknagppkeodggaaDoorW.PrintLast
set_option linter.unusedVariables false
set_option linter.unusedSimpArgs false

theorem asc_ext {α : Type} (R : α → α → Prop) (irr : ∀ a, ¬ R a a) (tr : ∀ a b c, R a b → R b c → R a c) : ∀ a b : List α, a.Pairwise R → b.Pairwise R → (∀ x, x ∈ a ↔ x ∈ b) → a = b
  | [], [], _, _, _ => rfl
  | [], y :: b, _, _, h => by
    have := (h y).2 List.mem_cons_self
    simp at this
  | x :: a, [], _, _, h => by
    have := (h x).1 List.mem_cons_self
    simp at this
  | x :: a, y :: b, h1, h2, h => by
    obtain ⟨h1a, h1b⟩ := List.pairwise_cons.1 h1
    obtain ⟨h2a, h2b⟩ := List.pairwise_cons.1 h2
    have hxy : x = y := by
      rcases List.mem_cons.1 ((h x).1 List.mem_cons_self) with e | e
      · exact e
      · rcases List.mem_cons.1 ((h y).2 List.mem_cons_self) with e2 | e2
        · exact e2.symm
        · exact absurd (tr _ _ _ (h1a y e2) (h2a x e)) (irr x)
    subst hxy
    congr 1
    refine asc_ext R irr tr a b h1b h2b (fun z => ⟨fun hz => ?_, fun hz => ?_⟩)
    · rcases List.mem_cons.1 ((h z).1 (List.mem_cons_of_mem _ hz)) with e | e
      · subst e
        exact absurd (h1a z hz) (irr z)
      · exact e
    · rcases List.mem_cons.1 ((h z).2 (List.mem_cons_of_mem _ hz)) with e | e
      · subst e
        exact absurd (h2a z hz) (irr z)
      · exact e
def ltC (a b : Change) : Prop := less a.f0.toList b.f0.toList = true
theorem ltC_irrefl (a : Change) : ¬ ltC a a := fun h => by
  unfold ltC at h
  rw [less_irrefl] at h
  cases h
theorem ltC_trans (a b c : Change) (h1 : ltC a b) (h2 : ltC b c) : ltC a c := less_trans _ _ _ h1 h2
theorem ltC_ne {a b : Change} (h : ltC a b) : a.f0.toList ≠ b.f0.toList := fun e => by
  unfold ltC at h
  rw [e, less_irrefl] at h
  cases h
/-- The change of a path. -/
def chgAt (l : List Change) (p : ByteArray) : Option Change := l.find? fun c => decide (c.f0.toList = p.toList)
theorem chgAt_cons (c : Change) (r : List Change) (p : ByteArray) : chgAt (c :: r) p = if c.f0.toList = p.toList then some c else chgAt r p := by
  unfold chgAt
  rw [List.find?_cons]
  by_cases h : c.f0.toList = p.toList
  · rw [decide_eq_true h, if_pos h]
  · rw [decide_eq_false h, if_neg h]
theorem chgAt_none {p : ByteArray} : ∀ {l : List Change}, (∀ c ∈ l, c.f0.toList ≠ p.toList) → chgAt l p = none
  | [], _ => rfl
  | c :: r, h => by
    rw [chgAt_cons, if_neg (h c List.mem_cons_self)]
    exact chgAt_none (fun x hx => h x (List.mem_cons_of_mem _ hx))
theorem chgAt_mem {p : ByteArray} {c : Change} : ∀ {l : List Change}, chgAt l p = some c → c ∈ l ∧ c.f0 = p
  | [], h => by cases h
  | x :: r, h => by
    rw [chgAt_cons] at h
    by_cases hx : x.f0.toList = p.toList
    · rw [if_pos hx] at h
      obtain rfl := Option.some.inj h
      exact ⟨List.mem_cons_self, str_eq hx⟩
    · rw [if_neg hx] at h
      obtain ⟨h1, h2⟩ := chgAt_mem h
      exact ⟨List.mem_cons_of_mem _ h1, h2⟩
theorem chgAt_some {c : Change} : ∀ {l : List Change}, l.Pairwise ltC → c ∈ l → chgAt l c.f0 = some c
  | [], _, h => by cases h
  | x :: r, ha, h => by
    obtain ⟨h1, h2⟩ := List.pairwise_cons.1 ha
    rw [chgAt_cons]
    rcases List.mem_cons.1 h with rfl | h
    · rw [if_pos rfl]
    · rw [if_neg (ltC_ne (h1 c h))]
      exact chgAt_some h2 h
theorem chg_ext {a b : List Change} (ha : a.Pairwise ltC) (hb : b.Pairwise ltC) (h : ∀ p, chgAt a p = chgAt b p) : a = b := by
  refine asc_ext ltC ltC_irrefl ltC_trans a b ha hb (fun x => ⟨fun hx => ?_, fun hx => ?_⟩)
  · exact (chgAt_mem (show chgAt b x.f0 = some x from by rw [← h]; exact chgAt_some ha hx)).1
  · exact (chgAt_mem (show chgAt a x.f0 = some x from by rw [h]; exact chgAt_some hb hx)).1
theorem sameF_iff {x y : FileT} : sameF x y = true ↔ x = y := by
  obtain ⟨a, b, c⟩ := x
  obtain ⟨d, e, f⟩ := y
  unfold sameF
  simp only [Bool.and_eq_true, beq_iff_eq, Prod.mk.injEq]
  exact ⟨fun ⟨h1, h2, h3⟩ => ⟨h1, str_eq h2, h3⟩, fun ⟨h1, h2, h3⟩ => ⟨h1, by rw [h2], h3⟩⟩
theorem sameF_not {x y : FileT} : sameF x y = false ↔ x ≠ y := by rw [← Bool.not_eq_true, sameF_iff]
theorem toF_ofF (x : FileT) : toF (ofF x) = x := rfl
theorem ofF_toF (x : S118) : ofF (toF x) = x := rfl
theorem toF_inj {x y : S118} (h : toF x = toF y) : x = y := by rw [← ofF_toF x, h, ofF_toF]

end Go.Proofs.YtknagppkeodggaaDoor.Pure


namespace Go.Proofs.YtknagppkeodggaaDoor.Pure
open Go Go.RowKit Go.Proofs.YtknagppkeodggaaDoor.P Go.Proofs.YtknagppkeodggaaDoorW.PrintWords Go.Proofs.YtknagppkeodggaaDoorW.PrintLast
set_option linter.unusedVariables false
set_option linter.unusedSimpArgs false

theorem rdN_eq {l : List ByteArray} {i : Nat} (h : i < l.length) : rdOf ByteArray.empty l (i : Int) = l[i] := by
  unfold rdOf
  rw [Int.toNat_natCast, List.getD_eq_getElem?_getD, List.getElem?_eq_getElem h]
  rfl
def notS (s y : ByteArray) : Bool := !decide (y.toList = s.toList)
def nameR (s : ByteArray) : List ByteArray → List ByteArray
  | [] => [s]
  | y :: r => if less y.toList s.toList = true then y :: nameR s r else s :: (y :: r).filter (notS s)
theorem name_done (l : List ByteArray) (hl : l.length ≤ 1000) (s : ByteArray) : ∀ (d i : Nat) (acc : List ByteArray), i + d = l.length → acc.length ≤ i + 1 → Ev (fun k => spec_l6Name.l0 k l s acc true (i : Int)) (acc ++ (l.drop i).filter (notS s))
  | 0, i, acc, hd, ha => by
    rw [List.drop_of_length_le (by omega), List.filter_nil, List.append_nil]
    exact Ev.step (fun k => spec_l6Name.l0.eq_2 ..) (Ev.neg (by omega) (Ev.pos rfl (Ev.now _)))
  | d + 1, i, acc, hd, ha => by
    have hi : i < l.length := by omega
    refine Ev.step (fun k => spec_l6Name.l0.eq_2 ..) (Ev.pos (by omega) (Ev.pos rfl (Ev.step (fun k => spec_l6Name.j1.eq_2 ..) (Ev.neg (by simp) (Ev.pos (by omega) (Ev.pos (by omega) ?_))))))
    rw [rdN_eq hi, w64 (n := (i : Int) + 1) (by omega) (by omega), show (i : Int) + 1 = ((i + 1 : Nat) : Int) from by omega, List.drop_eq_getElem_cons hi, List.filter_cons]
    by_cases h : l[i].toList = s.toList
    · rw [show notS s l[i] = false from by unfold notS; rw [decide_eq_true h]; rfl, if_neg (by simp)]
      exact Ev.pos h (name_done l hl s d (i + 1) acc (by omega) (by omega))
    · rw [show notS s l[i] = true from by unfold notS; rw [decide_eq_false h]; rfl, if_pos rfl]
      refine Ev.neg h (Ev.pos (by omega) ?_)
      have := name_done l hl s d (i + 1) (acc ++ [l[i]]) (by omega) (by rw [List.length_append, List.length_singleton]; omega)
      rw [List.append_assoc] at this
      exact this
theorem name_open (l : List ByteArray) (hl : l.length ≤ 1000) (s : ByteArray) : ∀ (d i : Nat) (acc : List ByteArray), i + d = l.length → acc.length ≤ i → Ev (fun k => spec_l6Name.l0 k l s acc false (i : Int)) (acc ++ nameR s (l.drop i))
  | 0, i, acc, hd, ha => by
    rw [List.drop_of_length_le (by omega)]
    exact Ev.step (fun k => spec_l6Name.l0.eq_2 ..) (Ev.neg (by omega) (Ev.neg (by simp) (Ev.pos (by omega) (Ev.now _))))
  | d + 1, i, acc, hd, ha => by
    have hi : i < l.length := by omega
    refine Ev.step (fun k => spec_l6Name.l0.eq_2 ..) (Ev.pos (by omega) (Ev.neg (by simp) (Ev.pos (by omega) (Ev.step (fun k => spec_l6Name.j1.eq_2 ..) ?_))))
    rw [rdN_eq hi, List.drop_eq_getElem_cons hi, nameR]
    by_cases hlt : less l[i].toList s.toList = true
    · rw [if_pos hlt]
      have hne : ¬ l[i].toList = s.toList := fun e => by
        rw [e, less_irrefl] at hlt
        cases hlt
      rw [w64 (n := (i : Int) + 1) (by omega) (by omega), show (i : Int) + 1 = ((i + 1 : Nat) : Int) from by omega]
      refine Ev.neg (by rw [show Op.bytesLess l[i].toList s.toList = true from hlt]; simp) (Ev.pos (by omega) (Ev.pos (by omega) (Ev.neg hne (Ev.pos (by omega) ?_))))
      have := name_open l hl s d (i + 1) (acc ++ [l[i]]) (by omega) (by rw [List.length_append, List.length_singleton]; omega)
      rw [List.append_assoc] at this
      exact this
    · rw [if_neg hlt]
      refine Ev.pos (by rw [show Op.bytesLess l[i].toList s.toList = false from Bool.eq_false_iff.2 hlt]; rfl) (Ev.pos (by omega) (Ev.sb (Ev.pos (by omega) (Ev.pos (by omega) ?_))))
      rw [w64 (n := (i : Int) + 1) (by omega) (by omega), show (i : Int) + 1 = ((i + 1 : Nat) : Int) from by omega, List.filter_cons]
      by_cases h : l[i].toList = s.toList
      · rw [show notS s l[i] = false from by unfold notS; rw [decide_eq_true h]; rfl, if_neg (by simp)]
        have := name_done l hl s d (i + 1) (acc ++ [s]) (by omega) (by rw [List.length_append, List.length_singleton]; omega)
        rw [List.append_assoc] at this
        exact Ev.pos h this
      · rw [show notS s l[i] = true from by unfold notS; rw [decide_eq_false h]; rfl, if_pos rfl]
        have := name_done l hl s d (i + 1) (acc ++ [s] ++ [l[i]]) (by omega) (by rw [List.length_append, List.length_append, List.length_singleton, List.length_singleton]; omega)
        rw [show acc ++ [s] ++ [l[i]] ++ (l.drop (i + 1)).filter (notS s) = acc ++ s :: l[i] :: (l.drop (i + 1)).filter (notS s) from by simp] at this
        exact Ev.neg h (Ev.pos (by rw [List.length_append, List.length_singleton]; omega) this)
theorem name_ins (s : ByteArray) : ∀ l : List ByteArray, l.Pairwise ltS → nameR s l = insS s l
  | [], _ => rfl
  | y :: r, h => by
    obtain ⟨h1, h2⟩ := List.pairwise_cons.1 h
    unfold nameR insS
    by_cases hlt : less y.toList s.toList = true
    · rw [if_pos hlt, if_neg (fun e => by rw [e, less_irrefl] at hlt; cases hlt), if_neg (fun h' => by
        have := less_trans _ _ _ hlt h'
        rw [less_irrefl] at this
        cases this), name_ins s r h2]
    · rw [if_neg hlt]
      have far : ∀ x ∈ r, x.toList ≠ s.toList := fun x hx e => by
        have := h1 x hx
        unfold ltS at this
        rw [e] at this
        exact hlt this
      have hr : r.filter (notS s) = r := List.filter_eq_self.2 (fun x hx => by unfold notS; rw [decide_eq_false (far x hx)]; rfl)
      rw [List.filter_cons, hr]
      by_cases he : y.toList = s.toList
      · rw [if_pos he, show notS s y = false from by unfold notS; rw [decide_eq_true he]; rfl, if_neg (by simp), str_eq he]
      · rw [if_neg he, show notS s y = true from by unfold notS; rw [decide_eq_false he]; rfl, if_pos rfl, if_pos (less_or (Bool.eq_false_iff.2 hlt) he)]
theorem name_ev (l : List ByteArray) (hl : l.length ≤ 1000) (h : l.Pairwise ltS) (s : ByteArray) : Ev (fun k => spec_l6Name.f k l s) (insS s l) := by
  have := name_open l hl s l.length 0 [] (by omega) (by simp)
  rw [List.drop_zero, List.nil_append, name_ins s l h] at this
  exact this

end Go.Proofs.YtknagppkeodggaaDoor.Pure


namespace Go.Proofs.YtknagppkeodggaaDoor.Pure
open Go Go.RowKit Go.Proofs.YtknagppkeodggaaDoor.P Go.Proofs.YtknagppkeodggaaDoorW.PrintWords Go.Proofs.YtknagppkeodggaaDoorW.PrintLast
set_option linter.unusedVariables false
set_option linter.unusedSimpArgs false

/-! ### marks -/
theorem mark_l0 : ∀ (m : Nat) (x : Int) (t : ByteArray), 0 ≤ x → x ≤ m → t.size + m ≤ 100000000 → ∃ r, Ev (fun k => laws_markText.l0 k x t) r
  | 0, x, t, h0, h1, h2 => ⟨_, Ev.step (fun k => laws_markText.l0.eq_2 ..) (Ev.neg (by omega) (Ev.pos (by omega) (Ev.now _)))⟩
  | m + 1, x, t, h0, h1, h2 => by
    by_cases h : x > 0
    · have hd : Int.tdiv x 10 = x / 10 := Int.tdiv_eq_ediv_of_nonneg h0
      obtain ⟨r, hr⟩ := mark_l0 m (Int.tdiv x 10) (strOfNums [(wrap64 (48 + (Int.tmod x 10))) % 256] ++ t) (by omega) (by omega) (by rw [ByteArray.size_append, son_size]; simp; omega)
      refine ⟨r, Ev.step (fun k => laws_markText.l0.eq_2 ..) (Ev.pos h (Ev.sb (Ev.pos (by rw [son_size]; simp; omega) ?_)))⟩
      rw [w64 (n := Int.tdiv x 10) (by omega) (by omega)]
      exact hr
    · exact ⟨_, Ev.step (fun k => laws_markText.l0.eq_2 ..) (Ev.neg h (Ev.pos (by omega) (Ev.now _)))⟩
theorem mark_ev (n : Nat) (h : n ≤ 20000000) : ∃ r, Ev (fun k => laws_markText.f k (n : Int)) r := by
  unfold laws_markText.f
  by_cases h0 : (n : Int) ≤ 0
  · exact ⟨_, Ev.pos h0 (Ev.now _)⟩
  · obtain ⟨r, hr⟩ := mark_l0 n n ⟨#[]⟩ (by omega) (by omega) (by have : (⟨#[]⟩ : ByteArray).size = 0 := rfl; omega)
    exact ⟨r, Ev.neg h0 hr⟩
noncomputable def mark (n : Nat) : ByteArray := if h : n ≤ 20000000 then (mark_ev n h).choose else ⟨#[]⟩
theorem mark_spec (n : Nat) (h : n ≤ 20000000) : Ev (fun k => laws_markText.f k (n : Int)) (mark n) := by
  unfold mark
  rw [dif_pos h]
  exact (mark_ev n h).choose_spec

end Go.Proofs.YtknagppkeodggaaDoor.Pure


namespace Go.Proofs.YtknagppkeodggaaDoor.Pure
open Go Go.RowKit Go.Proofs.YtknagppkeodggaaDoor.P Go.Proofs.YtknagppkeodggaaDoorW.PrintWords Go.Proofs.YtknagppkeodggaaDoorW.PrintLast
set_option linter.unusedVariables false
set_option linter.unusedSimpArgs false

noncomputable def CM (c : Nat) : Change := ⟨mark c, ⟨Int.tmod ((c + 1 : Nat) : Int) 3 == 0, mark (c + 1 + 1), Int.tmod ((c + 1 + 1 + 1 : Nat) : Int) 3 == 0⟩, ⟨Int.tmod ((c + 1 + 1 + 1 + 1 : Nat) : Int) 3 == 0, mark (c + 1 + 1 + 1 + 1 + 1), Int.tmod ((c + 1 + 1 + 1 + 1 + 1 + 1 : Nat) : Int) 3 == 0⟩⟩
def at7 (i : Nat) : Nat := 1 + 7 * i
theorem at7_next (i : Nat) : at7 (i + 1) = at7 i + 1 + 1 + 1 + 1 + 1 + 1 + 1 := by unfold at7; omega
def MarkedC (l : List Change) (i : Nat) : Prop := ∀ j, (h : j < l.length) → j < i → l[j] = CM (at7 j)
theorem rdC_set {l : List Change} {i : Nat} (h : i < l.length) (a : Change) : rd_T120 (l.set i a) (i : Int) = a := by
  rw [rdC_eq (by rw [List.length_set]; exact h), List.getElem_set_self]
theorem markC_eq (k : Nat) (l : List Change) (x : Int) (i : Nat) (hi : i < l.length) : laws_markChangeS.l0 (k + 1) l x (i : Int) =
    (laws_markText.f k x).bind fun t1 => (laws_markText.f k (wrap64 (wrap64 (x + 1) + 1))).bind fun t2 => (laws_markText.f k (wrap64 (wrap64 (wrap64 (wrap64 (wrap64 (x + 1) + 1) + 1) + 1) + 1))).bind fun t3 =>
      laws_markChangeS.l0 k (l.set i ⟨t1, ⟨Int.tmod (wrap64 (x + 1)) 3 == 0, t2, Int.tmod (wrap64 (wrap64 (wrap64 (x + 1) + 1) + 1)) 3 == 0⟩, ⟨Int.tmod (wrap64 (wrap64 (wrap64 (wrap64 (x + 1) + 1) + 1) + 1)) 3 == 0, t3, Int.tmod (wrap64 (wrap64 (wrap64 (wrap64 (wrap64 (wrap64 (x + 1) + 1) + 1) + 1) + 1) + 1)) 3 == 0⟩⟩)
        (wrap64 (wrap64 (wrap64 (wrap64 (wrap64 (wrap64 (wrap64 (x + 1) + 1) + 1) + 1) + 1) + 1) + 1)) (wrap64 ((i : Int) + 1)) := by
  rw [laws_markChangeS.l0.eq_2, if_pos (by omega)]
  refine congrArg _ (funext fun t1 => ?_)
  rw [if_pos (by omega), Option.bind_some, Int.toNat_natCast]
  simp only [rdC_set hi, List.set_set]
  rw [Option.bind_some]
  simp only [rdC_set hi, List.set_set]
  refine congrArg _ (funext fun t2 => ?_)
  rw [Option.bind_some]
  simp only [rdC_set hi, List.set_set]
  rw [Option.bind_some]
  simp only [rdC_set hi, List.set_set]
  rw [Option.bind_some]
  simp only [rdC_set hi, List.set_set]
  refine congrArg _ (funext fun t3 => ?_)
  rw [Option.bind_some]
  simp only [rdC_set hi, List.set_set]
theorem heldC_eq (k : Nat) (l : List Change) (x : Int) (i : Nat) (hi : i < l.length) (t1 t2 t3 : ByteArray) (h1 : laws_markText.f k x = some t1) (h2 : laws_markText.f k (wrap64 (wrap64 (x + 1) + 1)) = some t2) (h3 : laws_markText.f k (wrap64 (wrap64 (wrap64 (wrap64 (wrap64 (x + 1) + 1) + 1) + 1) + 1)) = some t3)
    (hl : l[i] = ⟨t1, ⟨Int.tmod (wrap64 (x + 1)) 3 == 0, t2, Int.tmod (wrap64 (wrap64 (wrap64 (x + 1) + 1) + 1)) 3 == 0⟩, ⟨Int.tmod (wrap64 (wrap64 (wrap64 (wrap64 (x + 1) + 1) + 1) + 1)) 3 == 0, t3, Int.tmod (wrap64 (wrap64 (wrap64 (wrap64 (wrap64 (wrap64 (x + 1) + 1) + 1) + 1) + 1) + 1)) 3 == 0⟩⟩) :
    laws_heldChangeS.l0 (k + 1) l x (i : Int) = laws_heldChangeS.l0 k l (wrap64 (wrap64 (wrap64 (wrap64 (wrap64 (wrap64 (wrap64 (x + 1) + 1) + 1) + 1) + 1) + 1) + 1)) (wrap64 ((i : Int) + 1)) := by
  rw [laws_heldChangeS.l0.eq_2, if_pos (by omega), if_pos (by omega), rdC_eq hi, hl, h1, Option.bind_some, if_pos rfl, if_neg (by simp), h2, Option.bind_some, if_pos rfl, if_neg (by simp), if_neg (by simp), h3, Option.bind_some, if_pos rfl, if_neg (by simp)]
theorem markC_end (k : Nat) (l : List Change) (x : Int) (i : Nat) (hi : l.length ≤ i) : laws_markChangeS.l0 (k + 1) l x (i : Int) = some (x, l) := by
  rw [laws_markChangeS.l0.eq_2, if_neg (by omega)]
theorem heldC_end (k : Nat) (l : List Change) (x : Int) (i : Nat) (hi : l.length ≤ i) : laws_heldChangeS.l0 (k + 1) l x (i : Int) = some x := by
  rw [laws_heldChangeS.l0.eq_2, if_neg (by omega)]
theorem wn (n : Nat) (h : n ≤ 1000000000) : wrap64 ((n : Int) + 1) = ((n + 1 : Nat) : Int) := by
  rw [w64 (n := (n : Int) + 1) (by omega) (by omega)]
  omega
theorem wns (c : Nat) (h : c ≤ 999999990) : wrap64 ((c : Int) + 1) = ((c + 1 : Nat) : Int) ∧ wrap64 (((c + 1 : Nat) : Int) + 1) = ((c + 1 + 1 : Nat) : Int) ∧ wrap64 (((c + 1 + 1 : Nat) : Int) + 1) = ((c + 1 + 1 + 1 : Nat) : Int) ∧ wrap64 (((c + 1 + 1 + 1 : Nat) : Int) + 1) = ((c + 1 + 1 + 1 + 1 : Nat) : Int) ∧ wrap64 (((c + 1 + 1 + 1 + 1 : Nat) : Int) + 1) = ((c + 1 + 1 + 1 + 1 + 1 : Nat) : Int) ∧ wrap64 (((c + 1 + 1 + 1 + 1 + 1 : Nat) : Int) + 1) = ((c + 1 + 1 + 1 + 1 + 1 + 1 : Nat) : Int) ∧ wrap64 (((c + 1 + 1 + 1 + 1 + 1 + 1 : Nat) : Int) + 1) = ((c + 1 + 1 + 1 + 1 + 1 + 1 + 1 : Nat) : Int) :=
  ⟨wn _ (by omega), wn _ (by omega), wn _ (by omega), wn _ (by omega), wn _ (by omega), wn _ (by omega), wn _ (by omega)⟩
theorem marksC_ev : ∀ (d i c : Nat) (l : List Change), i + d = l.length → c = at7 i → c + 7 * d ≤ 9000000 → MarkedC l i → ∃ r : Int × List Change, (r.1 = ((c + 7 * d : Nat) : Int) ∧ r.2.length = l.length ∧ MarkedC r.2 l.length) ∧ Ev (fun k => laws_markChangeS.l0 k l (c : Int) (i : Int)) r
  | 0, i, c, l, hd, hc, hl, hm => ⟨((c : Int), l), ⟨by simp, rfl, fun j h _ => hm j h (by omega)⟩, Ev.step (fun k => markC_end k l _ i (by omega)) (Ev.now _)⟩
  | d + 1, i, c, l, hd, hc, hl, hm => by
    have hi : i < l.length := by omega
    have wi : i ≤ 1000000000 := by unfold at7 at hc; omega
    have wc : c ≤ 999999990 := by omega
    obtain ⟨r, ⟨q1, q2, q3⟩, K4, m4⟩ := marksC_ev d (i + 1) (c + 1 + 1 + 1 + 1 + 1 + 1 + 1) (l.set i (CM c)) (by rw [List.length_set]; omega) (by rw [at7_next, hc]) (by omega) (fun j h hj => by
      rw [List.getElem_set]
      split
      · rename_i e
        rw [hc, e]
      · exact hm j (by simpa using h) (by omega))
    rw [List.length_set] at q2 q3
    obtain ⟨K1, m1⟩ := mark_spec c (by omega)
    obtain ⟨K2, m2⟩ := mark_spec (c + 1 + 1) (by omega)
    obtain ⟨K3, m3⟩ := mark_spec (c + 1 + 1 + 1 + 1 + 1) (by omega)
    refine ⟨r, ⟨by rw [q1]; omega, q2, q3⟩, K1 + K2 + K3 + K4 + 1, fun k hk => ?_⟩
    obtain ⟨k', rfl⟩ : ∃ k', k = k' + 1 := ⟨k - 1, by omega⟩
    have a1 := m1 k' (by omega)
    have a2 := m2 k' (by omega)
    have a3 := m3 k' (by omega)
    have a4 := m4 k' (by omega)
    dsimp only at a1 a2 a3 a4
    have b := markC_eq k' l (c : Int) i hi
    obtain ⟨w1, w2, w3, w4, w5, w6, w7⟩ := wns c wc
    have w8 := wn i wi
    rw [w1, w2, w3, w4, w5, w6, w7, w8, a1, Option.bind_some, a2, Option.bind_some, a3, Option.bind_some] at b
    exact b.trans a4
theorem heldC_ev (l : List Change) (hm : MarkedC l l.length) : ∀ (d i c : Nat), i + d = l.length → c = at7 i → c + 7 * d ≤ 9000000 → Ev (fun k => laws_heldChangeS.l0 k l (c : Int) (i : Int)) ((c + 7 * d : Nat) : Int)
  | 0, i, c, hd, hc, hl => Ev.step (fun k => heldC_end k l _ i (by omega)) (Ev.now _)
  | d + 1, i, c, hd, hc, hl => by
    have hi : i < l.length := by omega
    have wi : i ≤ 1000000000 := by unfold at7 at hc; omega
    have wc : c ≤ 999999990 := by omega
    obtain ⟨K4, m4⟩ := heldC_ev l hm d (i + 1) (c + 1 + 1 + 1 + 1 + 1 + 1 + 1) (by omega) (by rw [at7_next, hc]) (by omega)
    obtain ⟨K1, m1⟩ := mark_spec c (by omega)
    obtain ⟨K2, m2⟩ := mark_spec (c + 1 + 1) (by omega)
    obtain ⟨K3, m3⟩ := mark_spec (c + 1 + 1 + 1 + 1 + 1) (by omega)
    refine ⟨K1 + K2 + K3 + K4 + 1, fun k hk => ?_⟩
    obtain ⟨k', rfl⟩ : ∃ k', k = k' + 1 := ⟨k - 1, by omega⟩
    have hh := hm i hi hi
    rw [← hc] at hh
    have a1 := m1 k' (by omega)
    have a2 := m2 k' (by omega)
    have a3 := m3 k' (by omega)
    have a4 := m4 k' (by omega)
    dsimp only at a1 a2 a3 a4
    rw [show c + 7 * (d + 1) = c + 1 + 1 + 1 + 1 + 1 + 1 + 1 + 7 * d from by omega]
    obtain ⟨w1, w2, w3, w4, w5, w6, w7⟩ := wns c wc
    have w8 := wn i wi
    have b := heldC_eq k' l (c : Int) i hi (mark c) (mark (c + 1 + 1)) (mark (c + 1 + 1 + 1 + 1 + 1)) a1 (by rw [w1, w2]; exact a2) (by rw [w1, w2, w3, w4, w5]; exact a3) (by rw [w1, w2, w3, w4, w5, w6]; exact hh)
    rw [w1, w2, w3, w4, w5, w6, w7, w8] at b
    exact b.trans a4
/-- Marked, and held. -/
theorem markedPatch_ev (l : List Change) (hl : l.length ≤ 1100000) : ∃ L : List Change, L.length = l.length ∧ Ev (fun k => laws_markPatch.f k l 1) (((1 + 7 * l.length : Nat) : Int), L) ∧ Ev (fun k => laws_heldPatch.f k L 1) ((1 + 7 * l.length : Nat) : Int) := by
  obtain ⟨p, ⟨p1, p2, p3⟩, hp⟩ := marksC_ev l.length 0 1 l (by omega) rfl (by omega) (fun j _ hj => by omega)
  refine ⟨p.2, p2, ?_, ?_⟩
  · unfold laws_markPatch.f laws_markChangeS.f
    refine Ev.bind hp ?_
    rw [← p1]
    exact Ev.now _
  · unfold laws_heldPatch.f laws_heldChangeS.f
    have := heldC_ev p.2 (by rw [p2]; exact p3) p.2.length 0 1 (by omega) rfl (by rw [p2]; omega)
    rw [p2] at this
    exact Ev.bind this (Ev.neg (by omega) (Ev.now _))

end Go.Proofs.YtknagppkeodggaaDoor.Pure

