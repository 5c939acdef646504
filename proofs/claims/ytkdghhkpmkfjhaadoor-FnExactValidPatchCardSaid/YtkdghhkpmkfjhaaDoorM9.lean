/- Several texts of this claim in one file: YtkdghhkpmkfjhaaDoorCuts, YtkdghhkpmkfjhaaDoorPaths, YtkdghhkpmkfjhaaDoorPatches, YtkdghhkpmkfjhaaDoorPureFnExactValidPatch. -/
import Derived.Test.YtkdghhkpmkfjhaaDoorM3
import Derived.Test.YtkdghhkpmkfjhaaDoorM6
import Derived.Test.YtkdghhkpmkfjhaaDoorM5
import Derived.Lib.SplitLaws
import Derived.Test.YtkdghhkpmkfjhaaDoorM7
import Derived.Test.YtkdghhkpmkfjhaaDoorM4
import Derived.Test.YtkdghhkpmkfjhaaDoorM8
namespace Go.Proofs.YtkdghhkpmkfjhaaDoor.Pure
open Go Go.RowKit Go.Proofs.YtkdghhkpmkfjhaaDoor.P Go.Proofs.YtkdghhkpmkfjhaaDoorW.PrintWords Go.Proofs.YtkdghhkpmkfjhaaDoorW.PrintLast
set_option linter.unusedVariables false
set_option linter.unusedSimpArgs false

/-- The bytes, cut at each c; cur: what has been read of the piece. -/
def cuts (c : UInt8) : List UInt8 → List UInt8 → List (List UInt8)
  | [], cur => [cur]
  | b :: r, cur => if b = c then cur :: cuts c r [] else cuts c r (cur ++ [b])
def ofBytes (l : List UInt8) : ByteArray := ⟨l.toArray⟩
theorem ofBytes_data (l : List UInt8) : (ofBytes l).data.toList = l := by simp [ofBytes]
theorem ofBytes_of (s : ByteArray) : ofBytes s.data.toList = s := ba_ext (ofBytes_data _)
theorem ofBytes_size (l : List UInt8) : (ofBytes l).size = l.length := by rw [← size_toList, ofBytes_data]
def piecesB (c : UInt8) (s : ByteArray) : List ByteArray := (cuts c s.data.toList []).map ofBytes

theorem cuts_free (c : UInt8) : ∀ (a cur : List UInt8), c ∉ a → cuts c a cur = [cur ++ a]
  | [], cur, _ => by rw [cuts, List.append_nil]
  | b :: r, cur, h => by
    rw [cuts, if_neg (fun e : b = c => h (by rw [e]; exact List.mem_cons_self ..)), cuts_free c r _ (fun hm => h (List.mem_cons_of_mem _ hm)), List.append_assoc]
    rfl
theorem cuts_hit (c : UInt8) (r : List UInt8) : ∀ (a cur : List UInt8), c ∉ a → cuts c (a ++ c :: r) cur = (cur ++ a) :: cuts c r []
  | [], cur, _ => by rw [List.nil_append, cuts, if_pos rfl, List.append_nil]
  | b :: a, cur, h => by
    rw [List.cons_append, cuts, if_neg (fun e : b = c => h (by rw [e]; exact List.mem_cons_self ..)), cuts_hit c r a _ (fun hm => h (List.mem_cons_of_mem _ hm)), List.append_assoc]
    rfl
theorem cuts_length (c : UInt8) : ∀ (l cur : List UInt8), (cuts c l cur).length ≤ l.length + 1
  | [], cur => by simp [cuts]
  | b :: r, cur => by
    rw [cuts]
    split
    · have := cuts_length c r []
      simp only [List.length_cons]
      omega
    · have := cuts_length c r (cur ++ [b])
      simp only [List.length_cons]
      omega
/-- All bytes are in the pieces, but for the cuts. -/
theorem cuts_total (c : UInt8) : ∀ (l cur : List UInt8), ((cuts c l cur).map List.length).sum + (cuts c l cur).length = cur.length + l.length + 1
  | [], cur => by simp [cuts]
  | b :: r, cur => by
    rw [cuts]
    split
    · have := cuts_total c r []
      simp only [List.map_cons, List.sum_cons, List.length_cons, List.length_nil] at this ⊢
      omega
    · have := cuts_total c r (cur ++ [b])
      simp only [List.length_append, List.length_cons, List.length_nil] at this ⊢
      omega
theorem piecesB_length (c : UInt8) (s : ByteArray) : (piecesB c s).length ≤ s.size + 1 := by
  unfold piecesB
  rw [List.length_map, ← size_toList]
  exact cuts_length c _ _
theorem piecesB_size (c : UInt8) (s : ByteArray) : ∀ p ∈ piecesB c s, p.size ≤ s.size := by
  intro p hp
  unfold piecesB at hp
  obtain ⟨l, hl, rfl⟩ := List.mem_map.1 hp
  have ht := cuts_total c s.data.toList []
  have h1 : l.length ≤ ((cuts c s.data.toList []).map List.length).sum := by
    have : ∀ (L : List (List UInt8)), l ∈ L → l.length ≤ (L.map List.length).sum := by
      intro L
      induction L with
      | nil => intro h; cases h
      | cons a L ih =>
        intro h
        rw [List.map_cons, List.sum_cons]
        rcases List.mem_cons.1 h with rfl | h
        · omega
        · have := ih h
          omega
    exact this _ hl
  have h2 : 1 ≤ (cuts c s.data.toList []).length := by
    cases hc : cuts c s.data.toList [] with
    | nil => rw [hc] at hl; cases hl
    | cons a r => simp
  rw [ofBytes_size, ← size_toList]
  simp only [List.length_nil] at ht
  omega

/-! ### the library -/
theorem index_one (c : UInt8) : ∀ l : List UInt8, (Go.Lib.index l [c] = -1 ∧ c ∉ l) ∨ ∃ a r, l = a ++ c :: r ∧ c ∉ a ∧ Go.Lib.index l [c] = (a.length : Int)
  | [] => .inl ⟨by simp [Go.Lib.index], by simp⟩
  | b :: l => by
    by_cases h : b = c
    · subst h
      exact .inr ⟨[], l, rfl, by simp, by rw [Go.Lib.index]; simp [List.isPrefixOf]⟩
    · have hp : ([c] : List UInt8).isPrefixOf (b :: l) = false := by simp [List.isPrefixOf, Ne.symm h]
      have hix : Go.Lib.index (b :: l) [c] = if Go.Lib.index l [c] == -1 then -1 else Go.Lib.index l [c] + 1 := by rw [Go.Lib.index, hp]; simp
      rcases index_one c l with ⟨h1, h2⟩ | ⟨a, r, h1, h2, h3⟩
      · refine .inl ⟨by rw [hix, h1]; rfl, fun hm => ?_⟩
        rcases List.mem_cons.1 hm with e | hm
        · exact h e.symm
        · exact h2 hm
      · refine .inr ⟨b :: a, r, by rw [h1]; rfl, fun hm => ?_, ?_⟩
        · rcases List.mem_cons.1 hm with e | hm
          · exact h e.symm
          · exact h2 hm
        · rw [hix, h3, if_neg (by simp)]
          simp
theorem splitB_one (c : UInt8) (save : Nat) (hs : save ≤ 1) : ∀ (n : Nat) (s : ByteArray), s.size ≤ n →
    (Go.Lib.splitB ⟨#[c]⟩ save (Go.Lib.countB s ⟨#[c]⟩) s).map (·.data.toList) = (if save = 0 then cuts c s.data.toList [] else Go.Lib.splitK [c] save (s.data.toList.count c) s.data.toList) := by
  intro n s hn
  rw [Go.Lib.splitB_data]
  have hc : Go.Lib.countB s ⟨#[c]⟩ = s.data.toList.count c := Go.Lib.count_one c _
  rw [hc]
  by_cases h0 : save = 0
  · subst h0
    rw [if_pos rfl]
    clear hn hc hs
    generalize s.data.toList = l
    suffices H : ∀ (m : Nat) (l : List UInt8), l.length ≤ m → Go.Lib.splitK [c] 0 (l.count c) l = cuts c l [] from H l.length l (Nat.le_refl _)
    intro m
    induction m with
    | zero =>
      intro l hl
      obtain rfl : l = [] := List.length_eq_zero_iff.1 (by omega)
      rfl
    | succ m ih =>
      intro l hl
      rcases index_one c l with ⟨h1, h2⟩ | ⟨a, r, h1, h2, h3⟩
      · rw [cuts_free c l [] h2, List.count_eq_zero_of_not_mem h2]
        rfl
      · have hcount : l.count c = r.count c + 1 := by
          rw [h1, List.count_append, List.count_cons_self, List.count_eq_zero_of_not_mem h2]
          omega
        rw [hcount, Go.Lib.splitK, if_neg (by rw [h3]; simp), h3, h1, cuts_hit c r a [] h2]
        have e1 : (a ++ c :: r).take ((a.length : Int).toNat + 0) = a := by simp
        have e2 : (a ++ c :: r).drop ((a.length : Int).toNat + [c].length) = r := by simp
        rw [e1, e2, ih r (by rw [h1, List.length_append, List.length_cons] at hl; omega)]
        rfl
  · rw [if_neg h0]
theorem split_eq (c : UInt8) (s : ByteArray) (hs : s.size < 4294967281) : strings_Split.f s ⟨#[c]⟩ = some (piecesB c s) := by
  unfold strings_Split.f
  rw [if_pos hs, if_pos (by simp [ByteArray.size])]
  congr 1
  have := splitB_one c 0 (by omega) s.size s (Nat.le_refl _)
  rw [if_pos rfl] at this
  unfold piecesB
  rw [← this, List.map_map]
  have : (ofBytes ∘ fun x : ByteArray => x.data.toList) = id := by
    funext x
    exact ofBytes_of x
  rw [this, List.map_id]

/-! ### the reference -/
theorem extract_data (s : ByteArray) (a b : Nat) : (s.extract a b).data.toList = (s.data.toList.take b).drop a := by
  rw [ByteArray.data_extract, Array.toList_extract]
  simp [List.extract, List.drop_take]
theorem spec_Pa0 (s : ByteArray) (hs : s.size ≤ 1048576) : ∀ (d i f : Nat) (acc : List ByteArray), i + d = s.size → f ≤ i → acc.length ≤ i →
    Ev (fun k => spec_l4Parts.l0 k s acc (f : Int) (i : Int)) (acc ++ (cuts 47 (s.data.toList.drop i) ((s.data.toList.take i).drop f)).map ofBytes)
  | 0, i, f, acc, hd, hf, ha => by
    refine Ev.step (fun k => spec_l4Parts.l0.eq_2 ..) (Ev.neg (by omega) (Ev.pos (by omega) (Ev.pos (by omega) (Ev.pos (by omega) ?_))))
    rw [List.drop_of_length_le (by rw [size_toList]; omega), cuts]
    have : s.extract (f : Int).toNat s.size = ofBytes ((s.data.toList.take i).drop f) := by
      apply ba_ext
      rw [ofBytes_data, extract_data, Int.toNat_natCast, show s.size = i from by omega]
    rw [this]
    exact Ev.now _
  | d + 1, i, f, acc, hd, hf, ha => by
    have hi : i < s.data.toList.length := by rw [size_toList]; omega
    have hb : bt s (i : Int) = (s.data.toList[i].toNat : Int) := by
      rw [bt_getD, List.getD_eq_getElem?_getD, List.getElem?_eq_getElem hi]
      rfl
    have hw : wrap64 ((i : Int) + 1) = ((i + 1 : Nat) : Int) := by rw [w64 (by omega) (by omega)]; omega
    have ht : (s.data.toList.take (i + 1)).drop f = (s.data.toList.take i).drop f ++ [s.data.toList[i]] := by
      rw [List.take_succ_eq_append_getElem hi, List.drop_append_of_le_length (by rw [List.length_take]; omega)]
    refine Ev.step (fun k => spec_l4Parts.l0.eq_2 ..) (Ev.pos (by omega) (Ev.pos (by omega) ?_))
    rw [List.drop_eq_getElem_cons hi, cuts, hb, hw]
    by_cases h : s.data.toList[i] = 47
    · rw [if_pos h]
      refine Ev.pos (by rw [h]; rfl) (Ev.pos (by omega) (Ev.pos (by omega) (Ev.pos (by omega) (Ev.pos (by omega) ?_))))
      have := spec_Pa0 s hs d (i + 1) (i + 1) (acc ++ [s.extract (f : Int).toNat (i : Int).toNat]) (by omega) (by omega) (by simp; omega)
      have e : s.extract (f : Int).toNat (i : Int).toNat = ofBytes ((s.data.toList.take i).drop f) := by
        apply ba_ext
        rw [ofBytes_data, extract_data, Int.toNat_natCast, Int.toNat_natCast]
      rw [e] at this ⊢
      rw [List.drop_of_length_le (l := s.data.toList.take (i + 1)) (by rw [List.length_take]; omega)] at this
      simpa using this
    · rw [if_neg h]
      refine Ev.neg (fun e => h (UInt8.toNat_inj.1 (by have : (47 : UInt8).toNat = 47 := rfl; omega))) ?_
      have := spec_Pa0 s hs d (i + 1) f acc (by omega) (by omega) (by omega)
      rwa [ht] at this
theorem spec_parts_ev (s : ByteArray) (hs : s.size ≤ 1048576) : Ev (fun k => spec_l4Parts.f k s) (piecesB 47 s) := by
  unfold spec_l4Parts.f piecesB
  have := spec_Pa0 s hs s.size 0 0 [] (by omega) (by omega) (by simp)
  simpa using this

end Go.Proofs.YtkdghhkpmkfjhaaDoor.Pure


namespace Go.Proofs.YtkdghhkpmkfjhaaDoor.Pure
open Go Go.RowKit Go.Proofs.YtkdghhkpmkfjhaaDoor.P Go.Proofs.YtkdghhkpmkfjhaaDoorW.PrintWords Go.Proofs.YtkdghhkpmkfjhaaDoorW.PrintLast
set_option linter.unusedVariables false
set_option linter.unusedSimpArgs false

theorem in_eq4 (a b c : Int) : spec_l1In.f a b c = some (decide (b ≤ a ∧ a ≤ c)) := by
  unfold spec_l1In.f
  by_cases h : a ≥ b
  · rw [if_pos h]
    congr 1
    simp [h]
  · rw [if_neg h]
    congr 1
    simp [h]
theorem impl_in_eq4 (a b c : Int) : impl_in.f a b c = some (decide (b ≤ a ∧ a ≤ c)) := by
  unfold impl_in.f
  by_cases h : a ≥ b
  · rw [if_pos h]
    congr 1
    simp [h]
  · rw [if_neg h]
    congr 1
    simp [h]
def charOk (g : Bool) (b : Int) : Bool := if b < 33 then false else if b > 126 then false else if b = 47 then false else if b = 34 then false else if g = true then true else if b = 42 then false else if b = 63 then false else true
def allOk (g : Bool) (s : ByteArray) (i : Nat) : Bool := (s.data.toList.drop i).all fun b => charOk g (b.toNat : Int)
def partOk (s : ByteArray) (g : Bool) : Bool :=
  if 1 ≤ (s.size : Int) ∧ (s.size : Int) ≤ 20 then (if s.toList = ([46] : List UInt8) then false else if s.toList = ([46, 46] : List UInt8) then false else allOk g s 0) else false
theorem allOk_step (g : Bool) (s : ByteArray) (i : Nat) (h : i < s.size) : allOk g s i = (charOk g (bt s (i : Int)) && allOk g s (i + 1)) := by
  have hi : i < s.data.toList.length := by rw [size_toList]; exact h
  unfold allOk
  rw [List.drop_eq_getElem_cons hi, List.all_cons, bt_getD, List.getD_eq_getElem?_getD, List.getElem?_eq_getElem hi]
  rfl
theorem allOk_end (g : Bool) (s : ByteArray) (i : Nat) (h : s.size ≤ i) : allOk g s i = true := by
  unfold allOk
  rw [List.drop_of_length_le (by rw [size_toList]; exact h)]
  rfl
theorem spec_PO0 (s : ByteArray) (g : Bool) (hs : s.size ≤ 20) : ∀ (d i : Nat), i + d = s.size → Ev (fun k => spec_l4PartOk.l0 k s g (i : Int)) (allOk g s i)
  | 0, i, hd => by
    rw [allOk_end g s i (by omega)]
    exact Ev.step (fun k => spec_l4PartOk.l0.eq_2 ..) (Ev.neg (by omega) (Ev.now _))
  | d + 1, i, hd => by
    have hw : wrap64 ((i : Int) + 1) = ((i + 1 : Nat) : Int) := by rw [w64 (by omega) (by omega)]; omega
    have ih := spec_PO0 s g hs d (i + 1) (by omega)
    refine Ev.step (fun k => spec_l4PartOk.l0.eq_2 ..) (Ev.pos (by omega) (Ev.pos (by omega) ?_))
    rw [allOk_step g s i (by omega), hw]
    unfold charOk
    generalize bt s (i : Int) = b
    by_cases h1 : b < 33
    · rw [if_pos h1]; exact Ev.pos h1 (Ev.now _)
    by_cases h2 : b > 126
    · rw [if_neg h1, if_pos h2]; exact Ev.neg h1 (Ev.pos h2 (Ev.now _))
    by_cases h3 : b = 47
    · rw [if_neg h1, if_neg h2, if_pos h3]; exact Ev.neg h1 (Ev.neg h2 (Ev.pos h3 (Ev.now _)))
    by_cases h4 : b = 34
    · rw [if_neg h1, if_neg h2, if_neg h3, if_pos h4]; exact Ev.neg h1 (Ev.neg h2 (Ev.neg h3 (Ev.pos h4 (Ev.now _))))
    rw [if_neg h1, if_neg h2, if_neg h3, if_neg h4]
    refine Ev.neg h1 (Ev.neg h2 (Ev.neg h3 (Ev.neg h4 ?_)))
    by_cases hg : g = true
    · rw [if_pos hg, Bool.true_and]; exact Ev.pos hg ih
    rw [if_neg hg]
    refine Ev.neg hg ?_
    by_cases h5 : b = 42
    · rw [if_pos h5]; exact Ev.pos h5 (Ev.now _)
    by_cases h6 : b = 63
    · rw [if_neg h5, if_pos h6]; exact Ev.neg h5 (Ev.pos h6 (Ev.now _))
    rw [if_neg h5, if_neg h6, Bool.true_and]
    exact Ev.neg h5 (Ev.neg h6 ih)
theorem impl_PO0 (s : ByteArray) (g : Bool) (hs : s.size ≤ 20) : ∀ (d i : Nat), i + d = s.size → Ev (fun k => impl_goodPart.l0 k s g (i : Int)) (allOk g s i)
  | 0, i, hd => by
    rw [allOk_end g s i (by omega)]
    exact Ev.step (fun k => impl_goodPart.l0.eq_2 ..) (Ev.neg (by omega) (Ev.now _))
  | d + 1, i, hd => by
    have hw : wrap64 ((i : Int) + 1) = ((i + 1 : Nat) : Int) := by rw [w64 (by omega) (by omega)]; omega
    have ih := impl_PO0 s g hs d (i + 1) (by omega)
    refine Ev.step (fun k => impl_goodPart.l0.eq_2 ..) (Ev.pos (by omega) (Ev.pos (by omega) ?_))
    rw [allOk_step g s i (by omega), hw]
    unfold charOk
    generalize bt s (i : Int) = b
    by_cases h1 : b < 33
    · rw [if_pos h1]; exact Ev.pos h1 (Ev.now _)
    by_cases h2 : b > 126
    · rw [if_neg h1, if_pos h2]; exact Ev.neg h1 (Ev.pos h2 (Ev.now _))
    refine Ev.neg h1 (Ev.neg h2 ?_)
    rw [if_neg h1, if_neg h2]
    by_cases h4 : b = 34
    · rw [if_neg (by omega), if_pos h4]; exact Ev.pos h4 (Ev.now _)
    refine Ev.neg h4 ?_
    by_cases h3 : b = 47
    · rw [if_pos h3]; exact Ev.pos h3 (Ev.now _)
    rw [if_neg h3, if_neg h4]
    refine Ev.neg h3 ?_
    by_cases hg : g = true
    · rw [if_pos hg, Bool.true_and]; exact Ev.pos hg ih
    rw [if_neg hg]
    refine Ev.neg hg ?_
    by_cases h5 : b = 42
    · rw [if_pos h5]; exact Ev.pos h5 (Ev.now _)
    by_cases h6 : b = 63
    · rw [if_neg h5, if_pos h6]; exact Ev.neg h5 (Ev.pos h6 (Ev.now _))
    rw [if_neg h5, if_neg h6, Bool.true_and]
    exact Ev.neg h5 (Ev.neg h6 ih)
theorem spec_part_ev (s : ByteArray) (g : Bool) : Ev (fun k => spec_l4PartOk.f k s g) (partOk s g) := by
  unfold spec_l4PartOk.f partOk
  rw [in_eq4]
  refine Ev.sb ?_
  have bad : Ev (fun k => spec_l4PartOk.j0 k s g true) false := Ev.step (fun k => spec_l4PartOk.j0.eq_2 ..) (Ev.pos rfl (Ev.now _))
  by_cases h : 1 ≤ (s.size : Int) ∧ (s.size : Int) ≤ 20
  · rw [if_pos h]
    refine Ev.pos (decide_eq_true h) ?_
    by_cases h1 : s.toList = ([46] : List UInt8)
    · rw [if_pos h1]
      exact Ev.pos h1 bad
    · rw [if_neg h1]
      refine Ev.neg h1 ?_
      by_cases h2 : s.toList = ([46, 46] : List UInt8)
      · rw [if_pos h2, show (s.toList == ([46, 46] : List UInt8)) = true from beq_iff_eq.2 h2]
        exact bad
      · rw [if_neg h2, show (s.toList == ([46, 46] : List UInt8)) = false from beq_eq_false_iff_ne.2 h2]
        exact Ev.step (fun k => spec_l4PartOk.j0.eq_2 ..) (Ev.neg (by simp) (spec_PO0 s g (by omega) s.size 0 (by omega)))
  · rw [if_neg h]
    exact Ev.neg (by simpa using h) bad
theorem impl_part_ev (s : ByteArray) (g : Bool) : Ev (fun k => impl_goodPart.f k s g) (partOk s g) := by
  unfold impl_goodPart.f partOk
  rw [impl_in_eq4]
  refine Ev.sb ?_
  have bad : Ev (fun k => impl_goodPart.j0 k s g true) false := Ev.step (fun k => impl_goodPart.j0.eq_2 ..) (Ev.pos rfl (Ev.now _))
  by_cases h : 1 ≤ (s.size : Int) ∧ (s.size : Int) ≤ 20
  · rw [if_pos h]
    refine Ev.pos (decide_eq_true h) ?_
    by_cases h1 : s.toList = ([46] : List UInt8)
    · rw [if_pos h1]
      exact Ev.pos h1 bad
    · rw [if_neg h1]
      refine Ev.neg h1 ?_
      by_cases h2 : s.toList = ([46, 46] : List UInt8)
      · rw [if_pos h2, show (s.toList == ([46, 46] : List UInt8)) = true from beq_iff_eq.2 h2]
        exact bad
      · rw [if_neg h2, show (s.toList == ([46, 46] : List UInt8)) = false from beq_eq_false_iff_ne.2 h2]
        exact Ev.step (fun k => impl_goodPart.j0.eq_2 ..) (Ev.neg (by simp) (impl_PO0 s g (by omega) s.size 0 (by omega)))
  · rw [if_neg h]
    exact Ev.neg (by simpa using h) bad

/-- A path or a glob holds. -/
def pathOk (s : ByteArray) (g : Bool) : Bool := if (piecesB 47 s).length > 6 then false else (piecesB 47 s).all fun p => partOk p g
theorem rdB_eq {l : List ByteArray} {i : Nat} (h : i < l.length) : rdOf ByteArray.empty l (i : Int) = l[i] := by
  unfold rdOf
  rw [Int.toNat_natCast, List.getD_eq_getElem?_getD, List.getElem?_eq_getElem h]
  rfl
theorem spec_Ok0 (g : Bool) (l : List ByteArray) (hl : l.length ≤ 6) : ∀ (d i : Nat), i + d = l.length → Ev (fun k => spec_l4Ok.l0 k g l (i : Int)) ((l.drop i).all fun p => partOk p g)
  | 0, i, hd => by
    rw [List.drop_of_length_le (by omega)]
    exact Ev.step (fun k => spec_l4Ok.l0.eq_2 ..) (Ev.neg (by omega) (Ev.now _))
  | d + 1, i, hd => by
    have hi : i < l.length := by omega
    refine Ev.step (fun k => spec_l4Ok.l0.eq_2 ..) (Ev.pos (by omega) (Ev.pos (by omega) ?_))
    rw [rdB_eq hi, List.drop_eq_getElem_cons hi, List.all_cons, w64 (by omega) (by omega), show (i : Int) + 1 = ((i + 1 : Nat) : Int) from by omega]
    refine Ev.bind (spec_part_ev l[i] g) ?_
    by_cases h : partOk l[i] g = true
    · rw [h, Bool.true_and]
      exact Ev.pos rfl (spec_Ok0 g l hl d (i + 1) (by omega))
    · rw [Bool.eq_false_iff.2 h, Bool.false_and]
      exact Ev.neg (by simp) (Ev.now _)
theorem impl_Ok0 (g : Bool) (l : List ByteArray) (hl : l.length ≤ 6) : ∀ (d i : Nat), i + d = l.length → Ev (fun k => impl_parts.l0 k g l (l.length : Int) (i : Int)) ((l.drop i).all fun p => partOk p g)
  | 0, i, hd => by
    rw [List.drop_of_length_le (by omega)]
    exact Ev.step (fun k => impl_parts.l0.eq_2 ..) (Ev.neg (by omega) (Ev.now _))
  | d + 1, i, hd => by
    have hi : i < l.length := by omega
    refine Ev.step (fun k => impl_parts.l0.eq_2 ..) (Ev.pos (by omega) (Ev.pos (by omega) (Ev.pos (by omega) ?_)))
    rw [rdB_eq hi, List.drop_eq_getElem_cons hi, List.all_cons, w64 (by omega) (by omega), show (i : Int) + 1 = ((i + 1 : Nat) : Int) from by omega]
    refine Ev.bind (impl_part_ev l[i] g) ?_
    by_cases h : partOk l[i] g = true
    · rw [h, Bool.true_and]
      exact Ev.pos rfl (impl_Ok0 g l hl d (i + 1) (by omega))
    · rw [Bool.eq_false_iff.2 h, Bool.false_and]
      exact Ev.neg (by simp) (Ev.now _)
theorem pathOk_long (s : ByteArray) (g : Bool) (h : 126 < s.size) : pathOk s g = false := by
  unfold pathOk
  split
  · rfl
  · rename_i h6
    apply Bool.eq_false_iff.2
    intro hall
    have ht := cuts_total 47 s.data.toList []
    have hall' : ∀ l ∈ cuts 47 s.data.toList [], l.length ≤ 20 := by
      intro l hl
      have := List.all_eq_true.1 hall (ofBytes l) (List.mem_map.2 ⟨l, hl, rfl⟩)
      unfold partOk at this
      by_cases hz : 1 ≤ ((ofBytes l).size : Int) ∧ ((ofBytes l).size : Int) ≤ 20
      · rw [ofBytes_size] at hz
        omega
      · rw [if_neg hz] at this
        cases this
    have hsum : ∀ (L : List (List UInt8)), (∀ l ∈ L, l.length ≤ 20) → (L.map List.length).sum ≤ 20 * L.length := by
      intro L
      induction L with
      | nil => intro _; simp
      | cons a L ih =>
        intro hL
        have := ih (fun l hl => hL l (List.mem_cons_of_mem _ hl))
        have := hL a (List.mem_cons_self ..)
        simp only [List.map_cons, List.sum_cons, List.length_cons]
        omega
    have := hsum _ hall'
    unfold piecesB at h6
    rw [List.length_map] at h6
    rw [size_toList] at ht
    simp only [List.length_nil] at ht
    omega
theorem spec_ok_ev (s : ByteArray) (g : Bool) : Ev (fun k => spec_l4Ok.f k s g) (pathOk s g) := by
  unfold spec_l4Ok.f
  by_cases h : (s.size : Int) > 126
  · rw [pathOk_long s g (by omega)]
    exact Ev.pos h (Ev.now _)
  · refine Ev.neg h (Ev.bind (spec_parts_ev s (by omega)) ?_)
    unfold pathOk
    by_cases h6 : (piecesB 47 s).length > 6
    · rw [if_pos h6]
      exact Ev.pos (by omega) (Ev.now _)
    · rw [if_neg h6]
      exact Ev.neg (by omega) (spec_Ok0 g (piecesB 47 s) (by omega) (piecesB 47 s).length 0 (by omega))
theorem impl_parts_ev (s : ByteArray) (hs : s.size ≤ 1048576) (g : Bool) : Ev (fun k => impl_parts.f k s g) (pathOk s g) := by
  unfold impl_parts.f pathOk
  rw [split_eq 47 s (by omega)]
  refine Ev.sb ?_
  by_cases h6 : (piecesB 47 s).length > 6
  · rw [if_pos h6]
    exact Ev.pos (by omega) (Ev.now _)
  · rw [if_neg h6]
    exact Ev.neg (by omega) (impl_Ok0 g (piecesB 47 s) (by omega) (piecesB 47 s).length 0 (by omega))

end Go.Proofs.YtkdghhkpmkfjhaaDoor.Pure


namespace Go.Proofs.YtkdghhkpmkfjhaaDoor.Pure
open Go Go.RowKit Go.Proofs.YtkdghhkpmkfjhaaDoor.P Go.Proofs.YtkdghhkpmkfjhaaDoorW.PrintWords Go.Proofs.YtkdghhkpmkfjhaaDoorW.PrintLast
set_option linter.unusedVariables false
set_option linter.unusedSimpArgs false

theorem spec_pathC_ev (s : ByteArray) : Ev (fun k => spec_ValidPath.f k s) (pathOk s false) := by
  unfold spec_ValidPath.f
  exact Ev.bind (spec_ok_ev s false) (Ev.now _)
theorem impl_pathC_ev (s : ByteArray) (h : s.size ≤ 1048576) : Ev (fun k => impl_ValidPath.f k s) (pathOk s false) := by
  unfold impl_ValidPath.f
  exact Ev.bind (impl_parts_ev s h false) (Ev.now _)
def fileOk (a : Bool) (b : ByteArray) (c : Bool) : Bool := if (b.size : Int) ≤ 1500 then (if a = true then true else (if b.toList = ([] : List UInt8) then !c else false)) else false
theorem spec_fileOk_eq (a : Bool) (b : ByteArray) (c : Bool) : spec_l6FileOk.f a b c = some (fileOk a b c) := by
  unfold spec_l6FileOk.f fileOk
  split
  · split
    · rfl
    · split <;> rfl
  · rfl
theorem impl_goodFile_eq (a : Bool) (b : ByteArray) (c : Bool) : impl_goodFile.f a b c = some (fileOk a b c) := by
  unfold impl_goodFile.f fileOk
  split
  · split
    · rfl
    · rename_i h
      congr 1
      rw [Bool.eq_false_iff.2 h]
      by_cases hb : b.toList = ([] : List UInt8)
      · rw [if_pos hb, hb]
        simp
      · rw [if_neg hb, show (b.toList == ([] : List UInt8)) = false from beq_eq_false_iff_ne.2 hb]
        simp
  · rfl
abbrev rdC (l : List Change) (i : Int) : Change := rd_T79 l i
def sameC (e : Change) : Bool := e.f1.f0 == e.f2.f0 && (e.f1.f1.toList == e.f2.f1.toList && (e.f1.f2 == e.f2.f2))
def ascC (l : List Change) (i : Nat) : Bool := if (i : Int) > 0 then Op.bytesLess (rdC l ((i : Int) - 1)).f0.toList (rdC l (i : Int)).f0.toList else true
def rowC (l : List Change) (i : Nat) : Bool :=
  pathOk (rdC l (i : Int)).f0 false && (fileOk (rdC l (i : Int)).f1.f0 (rdC l (i : Int)).f1.f1 (rdC l (i : Int)).f1.f2 && (fileOk (rdC l (i : Int)).f2.f0 (rdC l (i : Int)).f2.f1 (rdC l (i : Int)).f2.f2 && (!(sameC (rdC l (i : Int))) && ascC l i)))
def patchFrom (l : List Change) : Nat → Nat → Bool
  | 0, _ => true
  | d + 1, i => if rowC l i = true then patchFrom l d (i + 1) else false
def patchOk (l : List Change) : Bool := if (l.length : Int) > 200 then false else patchFrom l l.length 0

theorem spec_VP0 (l : List Change) (hl : l.length ≤ 200) : ∀ (d i : Nat), i + d = l.length → Ev (fun k => spec_ValidPatch.l0 k (i : Int) l) (patchFrom l d i)
  | 0, i, hd => by
    rw [patchFrom]
    exact Ev.step (fun k => spec_ValidPatch.l0.eq_2 ..) (Ev.neg (by omega) (Ev.now _))
  | d + 1, i, hd => by
    have ih := spec_VP0 l hl d (i + 1) (by omega)
    rw [show ((i + 1 : Nat) : Int) = (i : Int) + 1 from by omega] at ih
    refine Ev.step (fun k => spec_ValidPatch.l0.eq_2 ..) (Ev.pos (by omega) (Ev.pos (by omega) (Ev.bind (spec_pathC_ev _) ?_)))
    rw [patchFrom, spec_fileOk_eq, spec_fileOk_eq, w64 (n := (i : Int) + 1) (by omega) (by omega)]
    by_cases h1 : pathOk (rdC l (i : Int)).f0 false = true
    rotate_left
    · rw [show rowC l i = false from by simp [rowC, h1], if_neg (by simp)]
      exact Ev.neg h1 (Ev.now _)
    refine Ev.pos h1 (Ev.sb ?_)
    by_cases h2 : fileOk (rdC l (i : Int)).f1.f0 (rdC l (i : Int)).f1.f1 (rdC l (i : Int)).f1.f2 = true
    rotate_left
    · rw [show rowC l i = false from by simp [rowC, h2], if_neg (by simp)]
      exact Ev.neg h2 (Ev.now _)
    refine Ev.pos h2 (Ev.sb ?_)
    by_cases h3 : fileOk (rdC l (i : Int)).f2.f0 (rdC l (i : Int)).f2.f1 (rdC l (i : Int)).f2.f2 = true
    rotate_left
    · rw [show rowC l i = false from by simp [rowC, h3], if_neg (by simp)]
      exact Ev.neg h3 (Ev.now _)
    refine Ev.pos h3 ?_
    by_cases h4 : sameC (rdC l (i : Int)) = true
    · rw [show rowC l i = false from by simp [rowC, h4], if_neg (by simp)]
      exact Ev.pos h4 (Ev.now _)
    refine Ev.neg h4 ?_
    have e : rowC l i = ascC l i := by simp [rowC, h1, h2, h3, h4]
    rw [e]
    unfold ascC
    by_cases h5 : (i : Int) > 0
    · rw [if_pos h5]
      refine Ev.pos h5 ?_
      rw [w64 (n := (i : Int) - 1) (by omega) (by omega)]
      exact Ev.pos (by omega) (Ev.pos (by omega) (Ev.both (fun _ => ih) (fun _ => Ev.now _)))
    · rw [if_neg h5, if_pos rfl]
      exact Ev.neg h5 ih
theorem spec_ValidPatch_ev (l : List Change) : Ev (fun k => spec_ValidPatch.f k l) (patchOk l) := by
  unfold spec_ValidPatch.f patchOk
  by_cases h : (l.length : Int) > 200
  · rw [if_pos h]
    exact Ev.pos h (Ev.now _)
  · rw [if_neg h]
    exact Ev.neg h (spec_VP0 l (by omega) l.length 0 (by omega))
theorem impl_VP0 (l : List Change) (hl : l.length ≤ 200) (hz : ∀ i : Nat, (rdC l (i : Int)).f0.size ≤ 1048576) : ∀ (d i : Nat), i + d = l.length → Ev (fun k => impl_ValidPatch.l0 k l (l.length : Int) (i : Int) l) (patchFrom l d i)
  | 0, i, hd => by
    rw [patchFrom]
    exact Ev.step (fun k => impl_ValidPatch.l0.eq_2 ..) (Ev.neg (by omega) (Ev.now _))
  | d + 1, i, hd => by
    have ih := impl_VP0 l hl hz d (i + 1) (by omega)
    rw [show ((i + 1 : Nat) : Int) = (i : Int) + 1 from by omega] at ih
    refine Ev.step (fun k => impl_ValidPatch.l0.eq_2 ..) (Ev.pos (by omega) (Ev.pos (by omega) (Ev.pos (by omega) (Ev.bind (impl_pathC_ev _ (hz i)) ?_))))
    rw [patchFrom, impl_goodFile_eq, impl_goodFile_eq, w64 (n := (i : Int) + 1) (by omega) (by omega)]
    by_cases h1 : pathOk (rdC l (i : Int)).f0 false = true
    rotate_left
    · rw [show rowC l i = false from by simp [rowC, h1], if_neg (by simp)]
      exact Ev.neg h1 (Ev.now _)
    refine Ev.pos h1 ?_
    have G : ∀ R, Ev (fun k => impl_ValidPatch.l0 k l (l.length : Int) ((i : Int) + 1) l) R → Ev (fun k => (some (fileOk (rdC l (i : Int)).f1.f0 (rdC l (i : Int)).f1.f1 (rdC l (i : Int)).f1.f2)).bind fun t => if t = true then ((some (fileOk (rdC l (i : Int)).f2.f0 (rdC l (i : Int)).f2.f1 (rdC l (i : Int)).f2.f2)).bind fun t => if t = true then (if sameC (rdC l (i : Int)) = true then some false else impl_ValidPatch.l0 k l (l.length : Int) ((i : Int) + 1) l) else some false) else some false)
        (if (fileOk (rdC l (i : Int)).f1.f0 (rdC l (i : Int)).f1.f1 (rdC l (i : Int)).f1.f2 && (fileOk (rdC l (i : Int)).f2.f0 (rdC l (i : Int)).f2.f1 (rdC l (i : Int)).f2.f2 && !(sameC (rdC l (i : Int))))) = true then R else false) := by
      intro R hR
      refine Ev.sb ?_
      by_cases h2 : fileOk (rdC l (i : Int)).f1.f0 (rdC l (i : Int)).f1.f1 (rdC l (i : Int)).f1.f2 = true
      rotate_left
      · rw [if_neg (by simp [h2])]
        exact Ev.neg h2 (Ev.now _)
      refine Ev.pos h2 (Ev.sb ?_)
      by_cases h3 : fileOk (rdC l (i : Int)).f2.f0 (rdC l (i : Int)).f2.f1 (rdC l (i : Int)).f2.f2 = true
      rotate_left
      · rw [if_neg (by simp [h3])]
        exact Ev.neg h3 (Ev.now _)
      refine Ev.pos h3 ?_
      by_cases h4 : sameC (rdC l (i : Int)) = true
      · rw [if_neg (by simp [h4])]
        exact Ev.pos h4 (Ev.now _)
      · rw [if_pos (by simp [h2, h3, h4])]
        exact Ev.neg h4 hR
    by_cases h5 : (i : Int) > 0
    · refine Ev.pos h5 ?_
      rw [w64 (n := (i : Int) - 1) (by omega) (by omega)]
      refine Ev.pos (by omega) (Ev.pos (by omega) ?_)
      by_cases h6 : Op.bytesLess (rdC l ((i : Int) - 1)).f0.toList (rdC l (i : Int)).f0.toList = true
      · have e : rowC l i = (fileOk (rdC l (i : Int)).f1.f0 (rdC l (i : Int)).f1.f1 (rdC l (i : Int)).f1.f2 && (fileOk (rdC l (i : Int)).f2.f0 (rdC l (i : Int)).f2.f1 (rdC l (i : Int)).f2.f2 && !(sameC (rdC l (i : Int))))) := by
          unfold rowC ascC
          rw [if_pos h5, h6, h1]
          simp
        rw [e]
        exact Ev.pos h6 (G _ ih)
      · have e : rowC l i = false := by
          unfold rowC ascC
          rw [if_pos h5, Bool.eq_false_iff.2 h6]
          simp
        rw [e, if_neg (by simp)]
        exact Ev.neg h6 (Ev.now _)
    · have e : rowC l i = (fileOk (rdC l (i : Int)).f1.f0 (rdC l (i : Int)).f1.f1 (rdC l (i : Int)).f1.f2 && (fileOk (rdC l (i : Int)).f2.f0 (rdC l (i : Int)).f2.f1 (rdC l (i : Int)).f2.f2 && !(sameC (rdC l (i : Int))))) := by
        unfold rowC ascC
        rw [if_neg h5, h1]
        simp
      rw [e]
      exact Ev.neg h5 (G _ ih)
theorem rdC_small {l : List Change} (h : ∀ e ∈ l, e.f0.size ≤ 1048576) (i : Nat) : (rdC l (i : Int)).f0.size ≤ 1048576 := by
  by_cases hi : i < l.length
  · rw [rdC, rdC_eq hi]
    exact h _ (List.getElem_mem hi)
  · have : rdC l (i : Int) = z79 := by
      show l.getD (i : Int).toNat _ = _
      rw [Int.toNat_natCast, List.getD_eq_getElem?_getD, List.getElem?_eq_none (by omega)]
      rfl
    rw [this]
    decide
theorem impl_ValidPatch_ev (l : List Change) (hz : ∀ e ∈ l, e.f0.size ≤ 1048576) : Ev (fun k => impl_ValidPatch.f k l) (patchOk l) := by
  unfold impl_ValidPatch.f patchOk
  by_cases h : (l.length : Int) > 200
  · rw [if_pos h]
    exact Ev.pos h (Ev.now _)
  · rw [if_neg h]
    exact Ev.neg h (impl_VP0 l (by omega) (rdC_small hz) l.length 0 (by omega))

end Go.Proofs.YtkdghhkpmkfjhaaDoor.Pure


namespace Go.Proofs.YtkdghhkpmkfjhaaDoor.Pure
open Go Go.RowKit Go.Proofs.YtkdghhkpmkfjhaaDoor.P Go.Proofs.YtkdghhkpmkfjhaaDoorW.PrintWords Go.Proofs.YtkdghhkpmkfjhaaDoorW.PrintLast
set_option linter.unusedVariables false
set_option linter.unusedSimpArgs false

theorem ofC_small {l : List LChange} {left : Int} (h1 : left ≤ 1048576) (h : ∀ s ∈ l, (cw s : Int) ≤ left) : ∀ e ∈ l.map ofC, e.f0.size ≤ 1048576 := by
  intro e he
  obtain ⟨s, hs, rfl⟩ := List.mem_map.1 he
  have := h s hs
  unfold cw at this
  show s.f0.size ≤ 1048576
  omega
theorem FnExactValidPatch (l : List LChange) (h : l.length * 80 ≤ 140737488351232 ∧ ∀ x ∈ l, Small97 x) : ∃ k, laws_FnExactValidPatch.f k l = some true := by
  apply Ev.rounds
  unfold laws_FnExactValidPatch.f
  obtain ⟨r, hr, hR⟩ := szPatch_ev l (by omega) (fun s hs => by
    have := h.2 s hs
    simp only [Small97, Small95] at this
    omega) 1048576 (by omega) (by omega)
  refine Ev.bind hr ?_
  rcases hR with rfl | ⟨a, b, c, d⟩
  · exact Ev.pos (by omega) (Ev.now _)
  · have T := toPatch_ev l (by omega)
    have hl : (l.map ofC).length ≤ 8796093022208 := by rw [List.length_map]; omega
    exact Ev.neg (by omega) (Ev.bind T (Ev.bind (spec_ValidPatch_ev _) (Ev.bind T (Ev.bind (impl_ValidPatch_ev _ (ofC_small (by omega) d)) (Ev.neg (by simp) (Ev.bind T (Ev.bind (eqPatch_ev _ hl) (Ev.pos rfl (Ev.now _)))))))))

end Go.Proofs.YtkdghhkpmkfjhaaDoor.Pure

