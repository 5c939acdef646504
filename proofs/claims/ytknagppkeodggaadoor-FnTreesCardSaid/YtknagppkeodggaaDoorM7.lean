/- Several texts of this claim in one file: YtknagppkeodggaaDoorSq173, YtknagppkeodggaaDoorCuts, YtknagppkeodggaaDoorSortedEq, YtknagppkeodggaaDoorPaths, YtknagppkeodggaaDoorTrees, YtknagppkeodggaaDoorTreeRows, YtknagppkeodggaaDoorSetE, YtknagppkeodggaaDoorPut, YtknagppkeodggaaDoorFind, YtknagppkeodggaaDoorRemoveI, YtknagppkeodggaaDoorTreeIff, YtknagppkeodggaaDoorTreeLaws. -/
import Derived.Test.YtknagppkeodggaaDoorM3
import Derived.Test.YtknagppkeodggaaDoorM4
import Derived.Test.YtknagppkeodggaaDoorM5
import Derived.Lib.SplitLaws
namespace Go.Proofs.YtknagppkeodggaaDoor.P
open Go.RowKit Go.Proofs.YtknagppkeodggaaDoorW.PrintWords Go.Proofs.YtknagppkeodggaaDoorW.PrintLast Go.Proofs.YtknagppkeodggaaDoorW.PrintMore
attribute [local go_sem] max2_int min2_int max_two min_two max_three min_three max_four min_four
set_option linter.unusedVariables false
set_option linter.unusedSimpArgs false

theorem isf173_ {w0 W : World} {g : Nat} {f0 : List Int} {f1 : Int} {p : Addr} {u : Value} (zz1_ : IsS173 w0 W g f0 f1) (zz2_ : g ≠ p.block) : IsS173 w0 (W.setCell p u) g f0 f1 := IsS173.far zz1_ zz2_ u
theorem iq173 {p q : Prop} (h : q) (f : q → p := by intro h_; repeat' (first | (with_reducible exact h_) | (with_reducible first | apply IsS173.alloc | apply IsS173.drewN | apply IsS173.drew | apply IsS173.set_1 | apply isf173_) | (with_reducible exact Aside0.out (by assumption)) | exact h_)) : p := f h
theorem bq173 {p q z : Prop} (h : q) (hi : z) (f : q → z → p := by intro h_ i_; repeat' (first | (with_reducible exact h_) | (with_reducible first | apply below_alloc | apply pw_below_drewN | apply below_drew1 | apply bsq_) | (with_reducible exact Aside0.out (by assumption)) | (with_reducible exact IsS173.ge i_) | exact h_)) : p := f h hi
theorem ra173 {w0 W : World} {g : Nat} {f0 : List Int} {f1 : Int} {W1 : World} {α : Type} {d : Kd α} {e base : Nat} {ok : Nat → Prop} {v : Value} {xs : List α} (h : IsS173 w0 W g f0 f1) (ho : d.R e W base ok v xs) (hk : KeepBut W W1 g none) (ht : ∀ q, q ∈ e :: d.E → q ≠ 173 := by decide) : d.R e W1 base ok v xs := Kd.R_mono (Kd.R_keep (IsS173.apart h ho ht) hk (fun _ h => h.2)) (fun _ h => h.1)

end Go.Proofs.YtknagppkeodggaaDoor.P


namespace Go.Proofs.YtknagppkeodggaaDoor.Pure
open Go Go.RowKit Go.Proofs.YtknagppkeodggaaDoor.P Go.Proofs.YtknagppkeodggaaDoorW.PrintWords Go.Proofs.YtknagppkeodggaaDoorW.PrintLast
set_option linter.unusedVariables false
set_option linter.unusedSimpArgs false

/-- The bytes, cut at each c; cur: what has been read of the piece. -/
def cuts (c : UInt8) : List UInt8 → List UInt8 → List (List UInt8)
  | [], cur => [cur]
  | b :: r, cur => if b = c then cur :: cuts c r [] else cuts c r (cur ++ [b])
def ofBytes (l : List UInt8) : ByteArray := ⟨l.toArray⟩
theorem ofBytes_data (l : List UInt8) : (ofBytes l).data.toList = l := by simp [ofBytes]
theorem ofBytes_of (s : ByteArray) : ofBytes s.data.toList = s := ba_ext (ofBytes_data _)
theorem ofBytes_size (l : List UInt8) : (ofBytes l).size = l.length := by rw [← size_toList, ofBytes_data]
def piecesB (c : UInt8) (s : ByteArray) : List ByteArray := (cuts c s.data.toList []).map ofBytes

theorem cuts_free (c : UInt8) : ∀ (a cur : List UInt8), c ∉ a → cuts c a cur = [cur ++ a]
  | [], cur, _ => by rw [cuts, List.append_nil]
  | b :: r, cur, h => by
    rw [cuts, if_neg (fun e : b = c => h (by rw [e]; exact List.mem_cons_self ..)), cuts_free c r _ (fun hm => h (List.mem_cons_of_mem _ hm)), List.append_assoc]
    rfl
theorem cuts_hit (c : UInt8) (r : List UInt8) : ∀ (a cur : List UInt8), c ∉ a → cuts c (a ++ c :: r) cur = (cur ++ a) :: cuts c r []
  | [], cur, _ => by rw [List.nil_append, cuts, if_pos rfl, List.append_nil]
  | b :: a, cur, h => by
    rw [List.cons_append, cuts, if_neg (fun e : b = c => h (by rw [e]; exact List.mem_cons_self ..)), cuts_hit c r a _ (fun hm => h (List.mem_cons_of_mem _ hm)), List.append_assoc]
    rfl
theorem cuts_length (c : UInt8) : ∀ (l cur : List UInt8), (cuts c l cur).length ≤ l.length + 1
  | [], cur => by simp [cuts]
  | b :: r, cur => by
    rw [cuts]
    split
    · have := cuts_length c r []
      simp only [List.length_cons]
      omega
    · have := cuts_length c r (cur ++ [b])
      simp only [List.length_cons]
      omega
/-- All bytes are in the pieces, but for the cuts. -/
theorem cuts_total (c : UInt8) : ∀ (l cur : List UInt8), ((cuts c l cur).map List.length).sum + (cuts c l cur).length = cur.length + l.length + 1
  | [], cur => by simp [cuts]
  | b :: r, cur => by
    rw [cuts]
    split
    · have := cuts_total c r []
      simp only [List.map_cons, List.sum_cons, List.length_cons, List.length_nil] at this ⊢
      omega
    · have := cuts_total c r (cur ++ [b])
      simp only [List.length_append, List.length_cons, List.length_nil] at this ⊢
      omega
theorem piecesB_length (c : UInt8) (s : ByteArray) : (piecesB c s).length ≤ s.size + 1 := by
  unfold piecesB
  rw [List.length_map, ← size_toList]
  exact cuts_length c _ _
theorem piecesB_size (c : UInt8) (s : ByteArray) : ∀ p ∈ piecesB c s, p.size ≤ s.size := by
  intro p hp
  unfold piecesB at hp
  obtain ⟨l, hl, rfl⟩ := List.mem_map.1 hp
  have ht := cuts_total c s.data.toList []
  have h1 : l.length ≤ ((cuts c s.data.toList []).map List.length).sum := by
    have : ∀ (L : List (List UInt8)), l ∈ L → l.length ≤ (L.map List.length).sum := by
      intro L
      induction L with
      | nil => intro h; cases h
      | cons a L ih =>
        intro h
        rw [List.map_cons, List.sum_cons]
        rcases List.mem_cons.1 h with rfl | h
        · omega
        · have := ih h
          omega
    exact this _ hl
  have h2 : 1 ≤ (cuts c s.data.toList []).length := by
    cases hc : cuts c s.data.toList [] with
    | nil => rw [hc] at hl; cases hl
    | cons a r => simp
  rw [ofBytes_size, ← size_toList]
  simp only [List.length_nil] at ht
  omega

/-! ### the library -/
theorem index_one (c : UInt8) : ∀ l : List UInt8, (Go.Lib.index l [c] = -1 ∧ c ∉ l) ∨ ∃ a r, l = a ++ c :: r ∧ c ∉ a ∧ Go.Lib.index l [c] = (a.length : Int)
  | [] => .inl ⟨by simp [Go.Lib.index], by simp⟩
  | b :: l => by
    by_cases h : b = c
    · subst h
      exact .inr ⟨[], l, rfl, by simp, by rw [Go.Lib.index]; simp [List.isPrefixOf]⟩
    · have hp : ([c] : List UInt8).isPrefixOf (b :: l) = false := by simp [List.isPrefixOf, Ne.symm h]
      have hix : Go.Lib.index (b :: l) [c] = if Go.Lib.index l [c] == -1 then -1 else Go.Lib.index l [c] + 1 := by rw [Go.Lib.index, hp]; simp
      rcases index_one c l with ⟨h1, h2⟩ | ⟨a, r, h1, h2, h3⟩
      · refine .inl ⟨by rw [hix, h1]; rfl, fun hm => ?_⟩
        rcases List.mem_cons.1 hm with e | hm
        · exact h e.symm
        · exact h2 hm
      · refine .inr ⟨b :: a, r, by rw [h1]; rfl, fun hm => ?_, ?_⟩
        · rcases List.mem_cons.1 hm with e | hm
          · exact h e.symm
          · exact h2 hm
        · rw [hix, h3, if_neg (by simp)]
          simp
theorem splitB_one (c : UInt8) (save : Nat) (hs : save ≤ 1) : ∀ (n : Nat) (s : ByteArray), s.size ≤ n →
    (Go.Lib.splitB ⟨#[c]⟩ save (Go.Lib.countB s ⟨#[c]⟩) s).map (·.data.toList) = (if save = 0 then cuts c s.data.toList [] else Go.Lib.splitK [c] save (s.data.toList.count c) s.data.toList) := by
  intro n s hn
  rw [Go.Lib.splitB_data]
  have hc : Go.Lib.countB s ⟨#[c]⟩ = s.data.toList.count c := Go.Lib.count_one c _
  rw [hc]
  by_cases h0 : save = 0
  · subst h0
    rw [if_pos rfl]
    clear hn hc hs
    generalize s.data.toList = l
    suffices H : ∀ (m : Nat) (l : List UInt8), l.length ≤ m → Go.Lib.splitK [c] 0 (l.count c) l = cuts c l [] from H l.length l (Nat.le_refl _)
    intro m
    induction m with
    | zero =>
      intro l hl
      obtain rfl : l = [] := List.length_eq_zero_iff.1 (by omega)
      rfl
    | succ m ih =>
      intro l hl
      rcases index_one c l with ⟨h1, h2⟩ | ⟨a, r, h1, h2, h3⟩
      · rw [cuts_free c l [] h2, List.count_eq_zero_of_not_mem h2]
        rfl
      · have hcount : l.count c = r.count c + 1 := by
          rw [h1, List.count_append, List.count_cons_self, List.count_eq_zero_of_not_mem h2]
          omega
        rw [hcount, Go.Lib.splitK, if_neg (by rw [h3]; simp), h3, h1, cuts_hit c r a [] h2]
        have e1 : (a ++ c :: r).take ((a.length : Int).toNat + 0) = a := by simp
        have e2 : (a ++ c :: r).drop ((a.length : Int).toNat + [c].length) = r := by simp
        rw [e1, e2, ih r (by rw [h1, List.length_append, List.length_cons] at hl; omega)]
        rfl
  · rw [if_neg h0]
theorem split_eq (c : UInt8) (s : ByteArray) (hs : s.size < 4294967281) : strings_Split.f s ⟨#[c]⟩ = some (piecesB c s) := by
  unfold strings_Split.f
  rw [if_pos hs, if_pos (by simp [ByteArray.size])]
  congr 1
  have := splitB_one c 0 (by omega) s.size s (Nat.le_refl _)
  rw [if_pos rfl] at this
  unfold piecesB
  rw [← this, List.map_map]
  have : (ofBytes ∘ fun x : ByteArray => x.data.toList) = id := by
    funext x
    exact ofBytes_of x
  rw [this, List.map_id]

/-! ### the reference -/
theorem extract_data (s : ByteArray) (a b : Nat) : (s.extract a b).data.toList = (s.data.toList.take b).drop a := by
  rw [ByteArray.data_extract, Array.toList_extract]
  simp [List.extract, List.drop_take]
theorem spec_Pa0 (s : ByteArray) (hs : s.size ≤ 1048576) : ∀ (d i f : Nat) (acc : List ByteArray), i + d = s.size → f ≤ i → acc.length ≤ i →
    Ev (fun k => spec_l4Parts.l0 k s acc (f : Int) (i : Int)) (acc ++ (cuts 47 (s.data.toList.drop i) ((s.data.toList.take i).drop f)).map ofBytes)
  | 0, i, f, acc, hd, hf, ha => by
    refine Ev.step (fun k => spec_l4Parts.l0.eq_2 ..) (Ev.neg (by omega) (Ev.pos (by omega) (Ev.pos (by omega) (Ev.pos (by omega) ?_))))
    rw [List.drop_of_length_le (by rw [size_toList]; omega), cuts]
    have : s.extract (f : Int).toNat s.size = ofBytes ((s.data.toList.take i).drop f) := by
      apply ba_ext
      rw [ofBytes_data, extract_data, Int.toNat_natCast, show s.size = i from by omega]
    rw [this]
    exact Ev.now _
  | d + 1, i, f, acc, hd, hf, ha => by
    have hi : i < s.data.toList.length := by rw [size_toList]; omega
    have hb : bt s (i : Int) = (s.data.toList[i].toNat : Int) := by
      rw [bt_getD, List.getD_eq_getElem?_getD, List.getElem?_eq_getElem hi]
      rfl
    have hw : wrap64 ((i : Int) + 1) = ((i + 1 : Nat) : Int) := by rw [w64 (by omega) (by omega)]; omega
    have ht : (s.data.toList.take (i + 1)).drop f = (s.data.toList.take i).drop f ++ [s.data.toList[i]] := by
      rw [List.take_succ_eq_append_getElem hi, List.drop_append_of_le_length (by rw [List.length_take]; omega)]
    refine Ev.step (fun k => spec_l4Parts.l0.eq_2 ..) (Ev.pos (by omega) (Ev.pos (by omega) ?_))
    rw [List.drop_eq_getElem_cons hi, cuts, hb, hw]
    by_cases h : s.data.toList[i] = 47
    · rw [if_pos h]
      refine Ev.pos (by rw [h]; rfl) (Ev.pos (by omega) (Ev.pos (by omega) (Ev.pos (by omega) (Ev.pos (by omega) ?_))))
      have := spec_Pa0 s hs d (i + 1) (i + 1) (acc ++ [s.extract (f : Int).toNat (i : Int).toNat]) (by omega) (by omega) (by simp; omega)
      have e : s.extract (f : Int).toNat (i : Int).toNat = ofBytes ((s.data.toList.take i).drop f) := by
        apply ba_ext
        rw [ofBytes_data, extract_data, Int.toNat_natCast, Int.toNat_natCast]
      rw [e] at this ⊢
      rw [List.drop_of_length_le (l := s.data.toList.take (i + 1)) (by rw [List.length_take]; omega)] at this
      simpa using this
    · rw [if_neg h]
      refine Ev.neg (fun e => h (UInt8.toNat_inj.1 (by have : (47 : UInt8).toNat = 47 := rfl; omega))) ?_
      have := spec_Pa0 s hs d (i + 1) f acc (by omega) (by omega) (by omega)
      rwa [ht] at this
theorem spec_parts_ev (s : ByteArray) (hs : s.size ≤ 1048576) : Ev (fun k => spec_l4Parts.f k s) (piecesB 47 s) := by
  unfold spec_l4Parts.f piecesB
  have := spec_Pa0 s hs s.size 0 0 [] (by omega) (by omega) (by simp)
  simpa using this

end Go.Proofs.YtknagppkeodggaaDoor.Pure


namespace Go.Proofs.YtknagppkeodggaaDoor.Pure
open Go Go.RowKit Go.Proofs.YtknagppkeodggaaDoor.P Go.Proofs.YtknagppkeodggaaDoorW.PrintWords Go.Proofs.YtknagppkeodggaaDoorW.PrintLast
set_option linter.unusedVariables false
set_option linter.unusedSimpArgs false

theorem impl_sorted_eq {l : List Entry} (hl : l.length ≤ 1000) (h : Apart l) : impl_sorted.f l = some (sortE l) := if_pos ⟨by omega, h⟩

end Go.Proofs.YtknagppkeodggaaDoor.Pure


namespace Go.Proofs.YtknagppkeodggaaDoor.Pure
open Go Go.RowKit Go.Proofs.YtknagppkeodggaaDoor.P Go.Proofs.YtknagppkeodggaaDoorW.PrintWords Go.Proofs.YtknagppkeodggaaDoorW.PrintLast
set_option linter.unusedVariables false
set_option linter.unusedSimpArgs false

theorem in_eq4 (a b c : Int) : spec_l1In.f a b c = some (decide (b ≤ a ∧ a ≤ c)) := by
  unfold spec_l1In.f
  by_cases h : a ≥ b
  · rw [if_pos h]
    congr 1
    simp [h]
  · rw [if_neg h]
    congr 1
    simp [h]
theorem impl_in_eq4 (a b c : Int) : impl_in.f a b c = some (decide (b ≤ a ∧ a ≤ c)) := by
  unfold impl_in.f
  by_cases h : a ≥ b
  · rw [if_pos h]
    congr 1
    simp [h]
  · rw [if_neg h]
    congr 1
    simp [h]
def charOk (g : Bool) (b : Int) : Bool := if b < 33 then false else if b > 126 then false else if b = 47 then false else if b = 34 then false else if g = true then true else if b = 42 then false else if b = 63 then false else true
def allOk (g : Bool) (s : ByteArray) (i : Nat) : Bool := (s.data.toList.drop i).all fun b => charOk g (b.toNat : Int)
def partOk (s : ByteArray) (g : Bool) : Bool :=
  if 1 ≤ (s.size : Int) ∧ (s.size : Int) ≤ 20 then (if s.toList = ([46] : List UInt8) then false else if s.toList = ([46, 46] : List UInt8) then false else allOk g s 0) else false
theorem allOk_step (g : Bool) (s : ByteArray) (i : Nat) (h : i < s.size) : allOk g s i = (charOk g (bt s (i : Int)) && allOk g s (i + 1)) := by
  have hi : i < s.data.toList.length := by rw [size_toList]; exact h
  unfold allOk
  rw [List.drop_eq_getElem_cons hi, List.all_cons, bt_getD, List.getD_eq_getElem?_getD, List.getElem?_eq_getElem hi]
  rfl
theorem allOk_end (g : Bool) (s : ByteArray) (i : Nat) (h : s.size ≤ i) : allOk g s i = true := by
  unfold allOk
  rw [List.drop_of_length_le (by rw [size_toList]; exact h)]
  rfl
theorem spec_PO0 (s : ByteArray) (g : Bool) (hs : s.size ≤ 20) : ∀ (d i : Nat), i + d = s.size → Ev (fun k => spec_l4PartOk.l0 k s g (i : Int)) (allOk g s i)
  | 0, i, hd => by
    rw [allOk_end g s i (by omega)]
    exact Ev.step (fun k => spec_l4PartOk.l0.eq_2 ..) (Ev.neg (by omega) (Ev.now _))
  | d + 1, i, hd => by
    have hw : wrap64 ((i : Int) + 1) = ((i + 1 : Nat) : Int) := by rw [w64 (by omega) (by omega)]; omega
    have ih := spec_PO0 s g hs d (i + 1) (by omega)
    refine Ev.step (fun k => spec_l4PartOk.l0.eq_2 ..) (Ev.pos (by omega) (Ev.pos (by omega) ?_))
    rw [allOk_step g s i (by omega), hw]
    unfold charOk
    generalize bt s (i : Int) = b
    by_cases h1 : b < 33
    · rw [if_pos h1]; exact Ev.pos h1 (Ev.now _)
    by_cases h2 : b > 126
    · rw [if_neg h1, if_pos h2]; exact Ev.neg h1 (Ev.pos h2 (Ev.now _))
    by_cases h3 : b = 47
    · rw [if_neg h1, if_neg h2, if_pos h3]; exact Ev.neg h1 (Ev.neg h2 (Ev.pos h3 (Ev.now _)))
    by_cases h4 : b = 34
    · rw [if_neg h1, if_neg h2, if_neg h3, if_pos h4]; exact Ev.neg h1 (Ev.neg h2 (Ev.neg h3 (Ev.pos h4 (Ev.now _))))
    rw [if_neg h1, if_neg h2, if_neg h3, if_neg h4]
    refine Ev.neg h1 (Ev.neg h2 (Ev.neg h3 (Ev.neg h4 ?_)))
    by_cases hg : g = true
    · rw [if_pos hg, Bool.true_and]; exact Ev.pos hg ih
    rw [if_neg hg]
    refine Ev.neg hg ?_
    by_cases h5 : b = 42
    · rw [if_pos h5]; exact Ev.pos h5 (Ev.now _)
    by_cases h6 : b = 63
    · rw [if_neg h5, if_pos h6]; exact Ev.neg h5 (Ev.pos h6 (Ev.now _))
    rw [if_neg h5, if_neg h6, Bool.true_and]
    exact Ev.neg h5 (Ev.neg h6 ih)
theorem impl_PO0 (s : ByteArray) (g : Bool) (hs : s.size ≤ 20) : ∀ (d i : Nat), i + d = s.size → Ev (fun k => impl_goodPart.l0 k s g (i : Int)) (allOk g s i)
  | 0, i, hd => by
    rw [allOk_end g s i (by omega)]
    exact Ev.step (fun k => impl_goodPart.l0.eq_2 ..) (Ev.neg (by omega) (Ev.now _))
  | d + 1, i, hd => by
    have hw : wrap64 ((i : Int) + 1) = ((i + 1 : Nat) : Int) := by rw [w64 (by omega) (by omega)]; omega
    have ih := impl_PO0 s g hs d (i + 1) (by omega)
    refine Ev.step (fun k => impl_goodPart.l0.eq_2 ..) (Ev.pos (by omega) (Ev.pos (by omega) ?_))
    rw [allOk_step g s i (by omega), hw]
    unfold charOk
    generalize bt s (i : Int) = b
    by_cases h1 : b < 33
    · rw [if_pos h1]; exact Ev.pos h1 (Ev.now _)
    by_cases h2 : b > 126
    · rw [if_neg h1, if_pos h2]; exact Ev.neg h1 (Ev.pos h2 (Ev.now _))
    refine Ev.neg h1 (Ev.neg h2 ?_)
    rw [if_neg h1, if_neg h2]
    by_cases h4 : b = 34
    · rw [if_neg (by omega), if_pos h4]; exact Ev.pos h4 (Ev.now _)
    refine Ev.neg h4 ?_
    by_cases h3 : b = 47
    · rw [if_pos h3]; exact Ev.pos h3 (Ev.now _)
    rw [if_neg h3, if_neg h4]
    refine Ev.neg h3 ?_
    by_cases hg : g = true
    · rw [if_pos hg, Bool.true_and]; exact Ev.pos hg ih
    rw [if_neg hg]
    refine Ev.neg hg ?_
    by_cases h5 : b = 42
    · rw [if_pos h5]; exact Ev.pos h5 (Ev.now _)
    by_cases h6 : b = 63
    · rw [if_neg h5, if_pos h6]; exact Ev.neg h5 (Ev.pos h6 (Ev.now _))
    rw [if_neg h5, if_neg h6, Bool.true_and]
    exact Ev.neg h5 (Ev.neg h6 ih)
theorem spec_part_ev (s : ByteArray) (g : Bool) : Ev (fun k => spec_l4PartOk.f k s g) (partOk s g) := by
  unfold spec_l4PartOk.f partOk
  rw [in_eq4]
  refine Ev.sb ?_
  have bad : Ev (fun k => spec_l4PartOk.j0 k s g true) false := Ev.step (fun k => spec_l4PartOk.j0.eq_2 ..) (Ev.pos rfl (Ev.now _))
  by_cases h : 1 ≤ (s.size : Int) ∧ (s.size : Int) ≤ 20
  · rw [if_pos h]
    refine Ev.pos (decide_eq_true h) ?_
    by_cases h1 : s.toList = ([46] : List UInt8)
    · rw [if_pos h1]
      exact Ev.pos h1 bad
    · rw [if_neg h1]
      refine Ev.neg h1 ?_
      by_cases h2 : s.toList = ([46, 46] : List UInt8)
      · rw [if_pos h2, show (s.toList == ([46, 46] : List UInt8)) = true from beq_iff_eq.2 h2]
        exact bad
      · rw [if_neg h2, show (s.toList == ([46, 46] : List UInt8)) = false from beq_eq_false_iff_ne.2 h2]
        exact Ev.step (fun k => spec_l4PartOk.j0.eq_2 ..) (Ev.neg (by simp) (spec_PO0 s g (by omega) s.size 0 (by omega)))
  · rw [if_neg h]
    exact Ev.neg (by simpa using h) bad
theorem impl_part_ev (s : ByteArray) (g : Bool) : Ev (fun k => impl_goodPart.f k s g) (partOk s g) := by
  unfold impl_goodPart.f partOk
  rw [impl_in_eq4]
  refine Ev.sb ?_
  have bad : Ev (fun k => impl_goodPart.j0 k s g true) false := Ev.step (fun k => impl_goodPart.j0.eq_2 ..) (Ev.pos rfl (Ev.now _))
  by_cases h : 1 ≤ (s.size : Int) ∧ (s.size : Int) ≤ 20
  · rw [if_pos h]
    refine Ev.pos (decide_eq_true h) ?_
    by_cases h1 : s.toList = ([46] : List UInt8)
    · rw [if_pos h1]
      exact Ev.pos h1 bad
    · rw [if_neg h1]
      refine Ev.neg h1 ?_
      by_cases h2 : s.toList = ([46, 46] : List UInt8)
      · rw [if_pos h2, show (s.toList == ([46, 46] : List UInt8)) = true from beq_iff_eq.2 h2]
        exact bad
      · rw [if_neg h2, show (s.toList == ([46, 46] : List UInt8)) = false from beq_eq_false_iff_ne.2 h2]
        exact Ev.step (fun k => impl_goodPart.j0.eq_2 ..) (Ev.neg (by simp) (impl_PO0 s g (by omega) s.size 0 (by omega)))
  · rw [if_neg h]
    exact Ev.neg (by simpa using h) bad

/-- A path or a glob holds. -/
def pathOk (s : ByteArray) (g : Bool) : Bool := if (piecesB 47 s).length > 6 then false else (piecesB 47 s).all fun p => partOk p g
theorem rdB_eq {l : List ByteArray} {i : Nat} (h : i < l.length) : rdOf ByteArray.empty l (i : Int) = l[i] := by
  unfold rdOf
  rw [Int.toNat_natCast, List.getD_eq_getElem?_getD, List.getElem?_eq_getElem h]
  rfl
theorem spec_Ok0 (g : Bool) (l : List ByteArray) (hl : l.length ≤ 6) : ∀ (d i : Nat), i + d = l.length → Ev (fun k => spec_l4Ok.l0 k g l (i : Int)) ((l.drop i).all fun p => partOk p g)
  | 0, i, hd => by
    rw [List.drop_of_length_le (by omega)]
    exact Ev.step (fun k => spec_l4Ok.l0.eq_2 ..) (Ev.neg (by omega) (Ev.now _))
  | d + 1, i, hd => by
    have hi : i < l.length := by omega
    refine Ev.step (fun k => spec_l4Ok.l0.eq_2 ..) (Ev.pos (by omega) (Ev.pos (by omega) ?_))
    rw [rdB_eq hi, List.drop_eq_getElem_cons hi, List.all_cons, w64 (by omega) (by omega), show (i : Int) + 1 = ((i + 1 : Nat) : Int) from by omega]
    refine Ev.bind (spec_part_ev l[i] g) ?_
    by_cases h : partOk l[i] g = true
    · rw [h, Bool.true_and]
      exact Ev.pos rfl (spec_Ok0 g l hl d (i + 1) (by omega))
    · rw [Bool.eq_false_iff.2 h, Bool.false_and]
      exact Ev.neg (by simp) (Ev.now _)
theorem impl_Ok0 (g : Bool) (l : List ByteArray) (hl : l.length ≤ 6) : ∀ (d i : Nat), i + d = l.length → Ev (fun k => impl_parts.l0 k g l (l.length : Int) (i : Int)) ((l.drop i).all fun p => partOk p g)
  | 0, i, hd => by
    rw [List.drop_of_length_le (by omega)]
    exact Ev.step (fun k => impl_parts.l0.eq_2 ..) (Ev.neg (by omega) (Ev.now _))
  | d + 1, i, hd => by
    have hi : i < l.length := by omega
    refine Ev.step (fun k => impl_parts.l0.eq_2 ..) (Ev.pos (by omega) (Ev.pos (by omega) (Ev.pos (by omega) ?_)))
    rw [rdB_eq hi, List.drop_eq_getElem_cons hi, List.all_cons, w64 (by omega) (by omega), show (i : Int) + 1 = ((i + 1 : Nat) : Int) from by omega]
    refine Ev.bind (impl_part_ev l[i] g) ?_
    by_cases h : partOk l[i] g = true
    · rw [h, Bool.true_and]
      exact Ev.pos rfl (impl_Ok0 g l hl d (i + 1) (by omega))
    · rw [Bool.eq_false_iff.2 h, Bool.false_and]
      exact Ev.neg (by simp) (Ev.now _)
theorem pathOk_long (s : ByteArray) (g : Bool) (h : 126 < s.size) : pathOk s g = false := by
  unfold pathOk
  split
  · rfl
  · rename_i h6
    apply Bool.eq_false_iff.2
    intro hall
    have ht := cuts_total 47 s.data.toList []
    have hall' : ∀ l ∈ cuts 47 s.data.toList [], l.length ≤ 20 := by
      intro l hl
      have := List.all_eq_true.1 hall (ofBytes l) (List.mem_map.2 ⟨l, hl, rfl⟩)
      unfold partOk at this
      by_cases hz : 1 ≤ ((ofBytes l).size : Int) ∧ ((ofBytes l).size : Int) ≤ 20
      · rw [ofBytes_size] at hz
        omega
      · rw [if_neg hz] at this
        cases this
    have hsum : ∀ (L : List (List UInt8)), (∀ l ∈ L, l.length ≤ 20) → (L.map List.length).sum ≤ 20 * L.length := by
      intro L
      induction L with
      | nil => intro _; simp
      | cons a L ih =>
        intro hL
        have := ih (fun l hl => hL l (List.mem_cons_of_mem _ hl))
        have := hL a (List.mem_cons_self ..)
        simp only [List.map_cons, List.sum_cons, List.length_cons]
        omega
    have := hsum _ hall'
    unfold piecesB at h6
    rw [List.length_map] at h6
    rw [size_toList] at ht
    simp only [List.length_nil] at ht
    omega
theorem spec_ok_ev (s : ByteArray) (g : Bool) : Ev (fun k => spec_l4Ok.f k s g) (pathOk s g) := by
  unfold spec_l4Ok.f
  by_cases h : (s.size : Int) > 126
  · rw [pathOk_long s g (by omega)]
    exact Ev.pos h (Ev.now _)
  · refine Ev.neg h (Ev.bind (spec_parts_ev s (by omega)) ?_)
    unfold pathOk
    by_cases h6 : (piecesB 47 s).length > 6
    · rw [if_pos h6]
      exact Ev.pos (by omega) (Ev.now _)
    · rw [if_neg h6]
      exact Ev.neg (by omega) (spec_Ok0 g (piecesB 47 s) (by omega) (piecesB 47 s).length 0 (by omega))
theorem impl_parts_ev (s : ByteArray) (hs : s.size ≤ 1048576) (g : Bool) : Ev (fun k => impl_parts.f k s g) (pathOk s g) := by
  unfold impl_parts.f pathOk
  rw [split_eq 47 s (by omega)]
  refine Ev.sb ?_
  by_cases h6 : (piecesB 47 s).length > 6
  · rw [if_pos h6]
    exact Ev.pos (by omega) (Ev.now _)
  · rw [if_neg h6]
    exact Ev.neg (by omega) (impl_Ok0 g (piecesB 47 s) (by omega) (piecesB 47 s).length 0 (by omega))

end Go.Proofs.YtknagppkeodggaaDoor.Pure


namespace Go.Proofs.YtknagppkeodggaaDoor.Pure
open Go Go.RowKit Go.Proofs.YtknagppkeodggaaDoor.P Go.Proofs.YtknagppkeodggaaDoorW.PrintWords Go.Proofs.YtknagppkeodggaaDoorW.PrintLast
set_option linter.unusedVariables false
set_option linter.unusedSimpArgs false

theorem spec_path_ev (s : ByteArray) : Ev (fun k => spec_ValidPath.f k s) (pathOk s false) := by
  unfold spec_ValidPath.f
  exact Ev.bind (spec_ok_ev s false) (Ev.now _)
theorem impl_path_ev (s : ByteArray) (h : s.size ≤ 1048576) : Ev (fun k => impl_ValidPath.f k s) (pathOk s false) := by
  unfold impl_ValidPath.f
  exact Ev.bind (impl_parts_ev s h false) (Ev.now _)
theorem spec_begins_eq (a b : ByteArray) : spec_l5Begins.f a b = some (begins a b) := by
  unfold spec_l5Begins.f
  have h := begins_iff a b
  by_cases h1 : (b.size : Int) > (a.size : Int)
  · rw [if_pos h1, if_pos (by omega), if_pos (by omega), Int.toNat_natCast]
    by_cases h2 : (b.extract 0 a.size).toList = a.toList
    · rw [if_pos h2, if_pos (by omega)]
      have h3 : b.extract 0 a.size = a := ba_ext (by rw [← Lib.toList_data, h2, Lib.toList_data])
      congr 1
      by_cases h4 : bt b (a.size : Int) = 47
      · rw [h.2 ⟨by omega, h3, h4⟩, h4]
        rfl
      · rw [Bool.eq_false_iff.2 (fun hh => h4 (h.1 hh).2.2)]
        exact beq_eq_false_iff_ne.2 h4
    · rw [if_neg h2, show begins a b = false from Bool.eq_false_iff.2 (fun hh => h2 (by rw [(h.1 hh).2.1]))]
  · rw [if_neg h1, show begins a b = false from Bool.eq_false_iff.2 (fun hh => h1 (by have := (h.1 hh).1; omega))]
theorem impl_over_eq (a b : ByteArray) (ha : a.size ≤ 1048576) : impl_over.f a b = some (begins a b) := by
  unfold impl_over.f strings_HasPrefix.f stringslite_HasPrefix.f
  rw [if_pos (by omega)]
  have e : (a ++ (⟨#[47]⟩ : ByteArray)).size = a.size + 1 := ByteArray.size_append
  have ed : (a ++ (⟨#[47]⟩ : ByteArray)).data.toList = a.data.toList ++ [47] := data_append _ _
  have hb : begins a b = true ↔ (a ++ (⟨#[47]⟩ : ByteArray)).data.toList <+: b.data.toList := by
    unfold begins Lib.hasPrefix
    rw [List.isPrefixOf_iff_prefix, ed]
  rw [List.prefix_iff_eq_take] at hb
  have hx : (b.extract 0 (a ++ (⟨#[47]⟩ : ByteArray)).size).data.toList = b.data.toList.take (a ++ (⟨#[47]⟩ : ByteArray)).data.toList.length := by
    rw [ByteArray.data_extract, Array.toList_extract, List.extract_eq_take_drop, List.drop_zero, Nat.sub_zero, size_toList]
  by_cases h1 : (b.size : Int) ≥ ((a ++ (⟨#[47]⟩ : ByteArray)).size : Int)
  · rw [if_pos h1, if_pos (by omega), if_pos (by omega), Int.toNat_natCast]
    show some ((b.extract 0 (a ++ (⟨#[47]⟩ : ByteArray)).size).toList == (a ++ (⟨#[47]⟩ : ByteArray)).toList) = some (begins a b)
    congr 1
    rw [Lib.toList_data, Lib.toList_data, hx]
    by_cases h2 : begins a b = true
    · rw [h2, ← hb.1 h2]
      exact beq_self_eq_true _
    · rw [Bool.eq_false_iff.2 h2]
      exact beq_eq_false_iff_ne.2 (fun hh => h2 (hb.2 hh.symm))
  · rw [if_neg h1]
    show some false = _
    rw [show begins a b = false from Bool.eq_false_iff.2 (fun hh => h1 (by
      have := ((begins_iff a b).1 hh).1
      omega))]

/-- One of the rows behind i (d of them) lies over p. -/
def anyOver (l : List Entry) (p : ByteArray) : Nat → Nat → Bool
  | 0, _ => false
  | d + 1, i => if begins (rd_T27 l (i : Int)).f0 p = true then true else anyOver l p d (i + 1)
def entryOk (e : Entry) : Bool := if pathOk e.f0 false = true then decide ((e.f1.size : Int) ≤ 1500) else false
def rowOk (l : List Entry) (i : Nat) : Bool :=
  if entryOk (rd_T27 l (i : Int)) = true then (if (i : Int) > 0 then Op.bytesLess (rd_T27 l ((i : Int) - 1)).f0.toList (rd_T27 l (i : Int)).f0.toList else true) else false
def treeFrom (l : List Entry) : Nat → Nat → Bool
  | 0, _ => true
  | d + 1, i => if rowOk l i = true then (if anyOver l (rd_T27 l (i : Int)).f0 i 0 = true then false else treeFrom l d (i + 1)) else false
def treeOk (l : List Entry) : Bool := if (l.length : Int) > 100 then false else treeFrom l l.length 0

theorem spec_VT1 (l : List Entry) (hl : l.length ≤ 100) (n : Nat) (hn : n < l.length) (p t : ByteArray) (u R : Bool) (hR : Ev (fun k => spec_ValidTree.l0 k ((n : Int) + 1) l) R) : ∀ (d j : Nat), j + d = n →
    Ev (fun k => spec_ValidTree.l1 k (n : Int) (j : Int) l p t u) (if anyOver l p d j = true then false else R)
  | 0, j, hd => by
    rw [anyOver, if_neg (by simp)]
    refine Ev.step (fun k => spec_ValidTree.l1.eq_2 ..) (Ev.neg (by omega) ?_)
    rw [w64 (n := (n : Int) + 1) (by omega) (by omega)]
    exact hR
  | d + 1, j, hd => by
    refine Ev.step (fun k => spec_ValidTree.l1.eq_2 ..) (Ev.pos (by omega) (Ev.pos (by omega) (Ev.pos (by omega) ?_)))
    rw [spec_begins_eq, anyOver, w64 (n := (j : Int) + 1) (by omega) (by omega)]
    refine Ev.sb ?_
    by_cases h : begins (rd_T27 l (j : Int)).f0 p = true
    · rw [if_pos h, if_pos rfl]
      exact Ev.pos h (Ev.now _)
    · rw [if_neg h]
      exact Ev.neg h (spec_VT1 l hl n hn p t u R hR d (j + 1) (by omega))
theorem spec_VT0 (l : List Entry) (hl : l.length ≤ 100) : ∀ (d i : Nat), i + d = l.length → Ev (fun k => spec_ValidTree.l0 k (i : Int) l) (treeFrom l d i)
  | 0, i, hd => by
    rw [treeFrom]
    exact Ev.step (fun k => spec_ValidTree.l0.eq_2 ..) (Ev.neg (by omega) (Ev.now _))
  | d + 1, i, hd => by
    have ih := spec_VT0 l hl d (i + 1) (by omega)
    rw [show ((i + 1 : Nat) : Int) = (i : Int) + 1 from by omega] at ih
    refine Ev.step (fun k => spec_ValidTree.l0.eq_2 ..) (Ev.pos (by omega) (Ev.pos (by omega) (Ev.bind (spec_path_ev _) ?_)))
    rw [treeFrom]
    have L := fun p t u => spec_VT1 l hl i (by omega) p t u _ ih i 0 (by omega)
    have jt : ∀ p t u, Ev (fun k => spec_ValidTree.j1 k (i : Int) true l p t u) false := fun p t u => Ev.step (fun k => spec_ValidTree.j1.eq_2 ..) (Ev.pos rfl (Ev.now _))
    have jf : ∀ p t u R, Ev (fun k => spec_ValidTree.l1 k (i : Int) 0 l p t u) R → Ev (fun k => spec_ValidTree.j1 k (i : Int) false l p t u) R := fun p t u R h => Ev.step (fun k => spec_ValidTree.j1.eq_2 ..) (Ev.neg (by simp) h)
    by_cases h1 : pathOk (rd_T27 l (i : Int)).f0 false = true
    · refine Ev.pos h1 ?_
      by_cases h2 : ((rd_T27 l (i : Int)).f1.size : Int) > 1500
      · have e : rowOk l i = false := by
          unfold rowOk entryOk
          rw [if_pos h1, decide_eq_false (by omega)]
          rfl
        rw [e, if_neg (by simp)]
        exact Ev.pos h2 (jt _ _ _)
      · have e0 : entryOk (rd_T27 l (i : Int)) = true := by
          unfold entryOk
          rw [if_pos h1, decide_eq_true (by omega)]
        refine Ev.neg h2 ?_
        by_cases h3 : (i : Int) > 0
        · refine Ev.pos h3 ?_
          rw [w64 (n := (i : Int) - 1) (by omega) (by omega)]
          refine Ev.pos (by omega) (Ev.pos (by omega) ?_)
          have e : rowOk l i = Op.bytesLess (rd_T27 l ((i : Int) - 1)).f0.toList (rd_T27 l (i : Int)).f0.toList := by
            unfold rowOk
            rw [if_pos e0, if_pos h3]
          rw [e]
          by_cases h4 : Op.bytesLess (rd_T27 l ((i : Int) - 1)).f0.toList (rd_T27 l (i : Int)).f0.toList = true
          · rw [if_pos h4, h4]
            exact jf _ _ _ _ (L _ _ _)
          · rw [if_neg h4, Bool.eq_false_iff.2 h4]
            exact jt _ _ _
        · have e : rowOk l i = true := by
            unfold rowOk
            rw [if_pos e0, if_neg h3]
          rw [e, if_pos rfl]
          exact Ev.neg h3 (jf _ _ _ _ (L _ _ _))
    · have e : rowOk l i = false := by
        unfold rowOk entryOk
        rw [if_neg h1]
        rfl
      rw [e, if_neg (by simp)]
      exact Ev.neg h1 (jt _ _ _)
theorem spec_ValidTree_ev (l : List Entry) : Ev (fun k => spec_ValidTree.f k l) (treeOk l) := by
  unfold spec_ValidTree.f treeOk
  by_cases h : (l.length : Int) > 100
  · rw [if_pos h]
    exact Ev.pos h (Ev.now _)
  · rw [if_neg h]
    exact Ev.neg h (spec_VT0 l (by omega) l.length 0 (by omega))
theorem impl_VT1 (l : List Entry) (hl : l.length ≤ 100) (hz : ∀ i : Nat, (rd_T27 l (i : Int)).f0.size ≤ 1048576) (n : Nat) (hn : n < l.length) (p t : ByteArray) (u R : Bool) (hR : Ev (fun k => impl_ValidTree.l0 k l (l.length : Int) ((n : Int) + 1) l) R) : ∀ (d j : Nat), j + d = n →
    Ev (fun k => impl_ValidTree.l1 k (n : Int) (j : Int) l (l.length : Int) (n : Int) l p t u) (if anyOver l p d j = true then false else R)
  | 0, j, hd => by
    rw [anyOver, if_neg (by simp)]
    refine Ev.step (fun k => impl_ValidTree.l1.eq_2 ..) (Ev.neg (by omega) ?_)
    rw [w64 (n := (n : Int) + 1) (by omega) (by omega)]
    exact hR
  | d + 1, j, hd => by
    refine Ev.step (fun k => impl_ValidTree.l1.eq_2 ..) (Ev.pos (by omega) (Ev.pos (by omega) (Ev.pos (by omega) ?_)))
    rw [impl_over_eq _ _ (hz j), anyOver, w64 (n := (j : Int) + 1) (by omega) (by omega)]
    refine Ev.sb ?_
    by_cases h : begins (rd_T27 l (j : Int)).f0 p = true
    · rw [if_pos h, if_pos rfl]
      exact Ev.pos h (Ev.now _)
    · rw [if_neg h]
      exact Ev.neg h (impl_VT1 l hl hz n hn p t u R hR d (j + 1) (by omega))
theorem impl_goodEntry_ev (p t : ByteArray) (u : Bool) (h : p.size ≤ 1048576) : Ev (fun k => impl_goodEntry.f k p t u) (entryOk ⟨p, t, u⟩) := by
  unfold impl_goodEntry.f entryOk
  exact Ev.bind (impl_path_ev p h) (Ev.both (fun _ => Ev.now _) (fun _ => Ev.now _))
theorem impl_VT0 (l : List Entry) (hl : l.length ≤ 100) (hz : ∀ i : Nat, (rd_T27 l (i : Int)).f0.size ≤ 1048576) : ∀ (d i : Nat), i + d = l.length → Ev (fun k => impl_ValidTree.l0 k l (l.length : Int) (i : Int) l) (treeFrom l d i)
  | 0, i, hd => by
    rw [treeFrom]
    exact Ev.step (fun k => impl_ValidTree.l0.eq_2 ..) (Ev.neg (by omega) (Ev.now _))
  | d + 1, i, hd => by
    have ih := impl_VT0 l hl hz d (i + 1) (by omega)
    rw [show ((i + 1 : Nat) : Int) = (i : Int) + 1 from by omega] at ih
    refine Ev.step (fun k => impl_ValidTree.l0.eq_2 ..) (Ev.pos (by omega) (Ev.pos (by omega) (Ev.pos (by omega) (Ev.bind (impl_goodEntry_ev _ _ _ (hz i)) ?_))))
    rw [treeFrom]
    have L := fun p t u => impl_VT1 l hl hz i (by omega) p t u _ ih i 0 (by omega)
    have jt : ∀ p t u, Ev (fun k => impl_ValidTree.j1 k (i : Int) l (l.length : Int) (i : Int) true l p t u) false := fun p t u => Ev.step (fun k => impl_ValidTree.j1.eq_2 ..) (Ev.pos rfl (Ev.now _))
    have jf : ∀ p t u R, Ev (fun k => impl_ValidTree.l1 k (i : Int) 0 l (l.length : Int) (i : Int) l p t u) R → Ev (fun k => impl_ValidTree.j1 k (i : Int) l (l.length : Int) (i : Int) false l p t u) R := fun p t u R h => Ev.step (fun k => impl_ValidTree.j1.eq_2 ..) (Ev.neg (by simp) h)
    have he : (⟨(rd_T27 l (i : Int)).f0, (rd_T27 l (i : Int)).f1, (rd_T27 l (i : Int)).f2⟩ : Entry) = rd_T27 l (i : Int) := rfl
    rw [he]
    by_cases h1 : entryOk (rd_T27 l (i : Int)) = true
    · refine Ev.pos h1 ?_
      by_cases h3 : (i : Int) > 0
      · refine Ev.pos h3 ?_
        rw [w64 (n := (i : Int) - 1) (by omega) (by omega)]
        refine Ev.pos (by omega) (Ev.pos (by omega) ?_)
        have e : rowOk l i = Op.bytesLess (rd_T27 l ((i : Int) - 1)).f0.toList (rd_T27 l (i : Int)).f0.toList := by
          unfold rowOk
          rw [if_pos h1, if_pos h3]
        rw [e]
        by_cases h4 : Op.bytesLess (rd_T27 l ((i : Int) - 1)).f0.toList (rd_T27 l (i : Int)).f0.toList = true
        · rw [if_pos h4, h4]
          exact jf _ _ _ _ (L _ _ _)
        · rw [if_neg h4, Bool.eq_false_iff.2 h4]
          exact jt _ _ _
      · have e : rowOk l i = true := by
          unfold rowOk
          rw [if_pos h1, if_neg h3]
        rw [e, if_pos rfl]
        exact Ev.neg h3 (jf _ _ _ _ (L _ _ _))
    · have e : rowOk l i = false := by
        unfold rowOk
        rw [if_neg h1]
      rw [e, if_neg (by simp)]
      exact Ev.neg h1 (jt _ _ _)
theorem rdE_small {l : List Entry} (h : ∀ e ∈ l, e.f0.size ≤ 1048576) (i : Nat) : (rd_T27 l (i : Int)).f0.size ≤ 1048576 := by
  by_cases hi : i < l.length
  · rw [rdE_eq hi]
    exact h _ (List.getElem_mem hi)
  · have : rd_T27 l (i : Int) = z27 := by
      show l.getD (i : Int).toNat _ = _
      rw [Int.toNat_natCast, List.getD_eq_getElem?_getD, List.getElem?_eq_none (by omega)]
      rfl
    rw [this]
    decide
theorem impl_ValidTree_ev (l : List Entry) (hz : ∀ e ∈ l, e.f0.size ≤ 1048576) : Ev (fun k => impl_ValidTree.f k l) (treeOk l) := by
  unfold impl_ValidTree.f treeOk
  by_cases h : (l.length : Int) > 100
  · rw [if_pos h]
    exact Ev.pos h (Ev.now _)
  · rw [if_neg h]
    exact Ev.neg h (impl_VT0 l (by omega) (rdE_small hz) l.length 0 (by omega))

end Go.Proofs.YtknagppkeodggaaDoor.Pure


namespace Go.Proofs.YtknagppkeodggaaDoor.Pure
open Go Go.RowKit Go.Proofs.YtknagppkeodggaaDoor.P Go.Proofs.YtknagppkeodggaaDoorW.PrintWords Go.Proofs.YtknagppkeodggaaDoorW.PrintLast
set_option linter.unusedVariables false
set_option linter.unusedSimpArgs false

theorem treeFrom_rows (l : List Entry) : ∀ (d i : Nat), treeFrom l d i = true → ∀ j, i ≤ j → j < i + d → rowOk l j = true
  | 0, i, h, j, h1, h2 => by omega
  | d + 1, i, h, j, h1, h2 => by
    unfold treeFrom at h
    split at h
    · rename_i hr
      split at h
      · cases h
      · rcases Nat.eq_or_lt_of_le h1 with rfl | h3
        · exact hr
        · exact treeFrom_rows l d (i + 1) h j (by omega) (by omega)
    · cases h
theorem treeOk_rows {l : List Entry} (h : treeOk l = true) (j : Nat) (hj : j < l.length) : rowOk l j = true := by
  unfold treeOk at h
  split at h
  · cases h
  · exact treeFrom_rows l _ _ h j (by omega) (by omega)
/-- The rows' paths ascend. -/
theorem treeOk_next {l : List Entry} (h : treeOk l = true) (j : Nat) (hj : j + 1 < l.length) : less (l[j].f0.toList) (l[j + 1].f0.toList) = true := by
  have := treeOk_rows h (j + 1) hj
  unfold rowOk at this
  split at this
  · rw [if_pos (by omega), show ((j + 1 : Nat) : Int) - 1 = (j : Int) from by omega, rdE_eq (show j < l.length by omega), rdE_eq hj] at this
    exact this
  · cases this
theorem treeOk_asc {l : List Entry} (h : treeOk l = true) : ∀ (d i : Nat) (hj : i + d + 1 < l.length), less (l[i].f0.toList) (l[i + d + 1].f0.toList) = true
  | 0, i, hj => treeOk_next h i hj
  | d + 1, i, hj => less_trans _ _ _ (treeOk_asc h d i (by omega)) (treeOk_next h (i + d + 1) (by omega))
theorem treeOk_lt {l : List Entry} (h : treeOk l = true) {i j : Nat} (hij : i < j) (hj : j < l.length) : less (l[i].f0.toList) (l[j].f0.toList) = true := by
  have := treeOk_asc h (j - i - 1) i (by omega)
  simp only [show i + (j - i - 1) + 1 = j from by omega] at this
  exact this

end Go.Proofs.YtknagppkeodggaaDoor.Pure


namespace Go.Proofs.YtknagppkeodggaaDoor.Pure
open Go Go.RowKit Go.Proofs.YtknagppkeodggaaDoor.P Go.Proofs.YtknagppkeodggaaDoorW.PrintWords Go.Proofs.YtknagppkeodggaaDoorW.PrintLast
set_option linter.unusedVariables false
set_option linter.unusedSimpArgs false

/-- The entry lies elsewhere. -/
def notAt (p : ByteArray) (z : Entry) : Bool := !decide (z.f0.toList = p.toList)
def setR (e : Entry) : List Entry → List Entry
  | [] => [e]
  | y :: r => if less y.f0.toList e.f0.toList = true then y :: setR e r else e :: (y :: r).filter (notAt e.f0)
theorem spec_S_done (l : List Entry) (hl : l.length ≤ 1000) (p t : ByteArray) (u : Bool) : ∀ (d i : Nat) (acc : List Entry), i + d = l.length → acc.length ≤ i + 1 → Ev (fun k => spec_l5Set.l0 k true (i : Int) l p t u acc) (acc ++ (l.drop i).filter (notAt p))
  | 0, i, acc, hd, ha => by
    rw [List.drop_of_length_le (by omega)]
    refine Ev.step (fun k => spec_l5Set.l0.eq_2 ..) (Ev.neg (by omega) (Ev.pos rfl ?_))
    show Ev _ (acc ++ [])
    rw [List.append_nil]
    exact Ev.now _
  | d + 1, i, acc, hd, ha => by
    have hi : i < l.length := by omega
    refine Ev.step (fun k => spec_l5Set.l0.eq_2 ..) (Ev.pos (by omega) (Ev.pos rfl (Ev.step (fun k => spec_l5Set.j1.eq_2 ..) (Ev.neg (by simp) (Ev.pos (by omega) (Ev.pos (by omega) ?_))))))
    rw [rdE_eq hi, w64 (n := (i : Int) + 1) (by omega) (by omega), show (i : Int) + 1 = ((i + 1 : Nat) : Int) from by omega, List.drop_eq_getElem_cons hi]
    by_cases h : l[i].f0.toList = p.toList
    · rw [List.filter_cons_of_neg (by simp [notAt, h])]
      exact Ev.pos h (spec_S_done l hl p t u d (i + 1) acc (by omega) (by omega))
    · rw [List.filter_cons_of_pos (by simp [notAt, h]), List.append_cons acc l[i] (List.filter (notAt p) (l.drop (i + 1)))]
      exact Ev.neg h (Ev.pos (by omega) (spec_S_done l hl p t u d (i + 1) (acc ++ [l[i]]) (by omega) (by rw [List.length_append, List.length_singleton]; omega)))
theorem spec_S_open (l : List Entry) (hl : l.length ≤ 1000) (p t : ByteArray) (u : Bool) : ∀ (d i : Nat) (acc : List Entry), i + d = l.length → acc.length ≤ i → Ev (fun k => spec_l5Set.l0 k false (i : Int) l p t u acc) (acc ++ setR ⟨p, t, u⟩ (l.drop i))
  | 0, i, acc, hd, ha => by
    rw [List.drop_of_length_le (by omega)]
    exact Ev.step (fun k => spec_l5Set.l0.eq_2 ..) (Ev.neg (by omega) (Ev.neg (by simp) (Ev.pos (by omega) (Ev.now _))))
  | d + 1, i, acc, hd, ha => by
    have hi : i < l.length := by omega
    refine Ev.step (fun k => spec_l5Set.l0.eq_2 ..) (Ev.pos (by omega) (Ev.neg (by simp) (Ev.pos (by omega) (Ev.step (fun k => spec_l5Set.j1.eq_2 ..) ?_))))
    rw [rdE_eq hi, w64 (n := (i : Int) + 1) (by omega) (by omega), show (i : Int) + 1 = ((i + 1 : Nat) : Int) from by omega, List.drop_eq_getElem_cons hi]
    by_cases hlt : Op.bytesLess l[i].f0.toList p.toList = true
    · have h : ¬ l[i].f0.toList = p.toList := fun e => by
        rw [e] at hlt
        have := less_irrefl p.toList
        unfold less at this
        rw [this] at hlt
        cases hlt
      have e : setR ⟨p, t, u⟩ (l[i] :: l.drop (i + 1)) = l[i] :: setR ⟨p, t, u⟩ (l.drop (i + 1)) := by
        conv => lhs; unfold setR
        exact if_pos hlt
      rw [e, List.append_cons acc l[i] (setR ⟨p, t, u⟩ (l.drop (i + 1)))]
      exact Ev.neg (by rw [hlt]; simp) (Ev.pos (by omega) (Ev.pos (by omega) (Ev.neg h (Ev.pos (by omega) (spec_S_open l hl p t u d (i + 1) (acc ++ [l[i]]) (by omega) (by rw [List.length_append, List.length_singleton]; omega))))))
    · have e : setR ⟨p, t, u⟩ (l[i] :: l.drop (i + 1)) = ⟨p, t, u⟩ :: (l[i] :: l.drop (i + 1)).filter (notAt p) := by
        conv => lhs; unfold setR
        exact if_neg hlt
      rw [e]
      refine Ev.pos (by rw [Bool.eq_false_iff.2 hlt]; rfl) (Ev.pos (by omega) (Ev.sb (Ev.pos (by omega) (Ev.pos (by omega) ?_))))
      by_cases h : l[i].f0.toList = p.toList
      · rw [List.filter_cons_of_neg (by simp [notAt, h]), List.append_cons acc ⟨p, t, u⟩ (List.filter (notAt p) (l.drop (i + 1)))]
        exact Ev.pos h (spec_S_done l hl p t u d (i + 1) (acc ++ [⟨p, t, u⟩]) (by omega) (by rw [List.length_append, List.length_singleton]; omega))
      · rw [List.filter_cons_of_pos (by simp [notAt, h]), List.append_cons acc ⟨p, t, u⟩ (l[i] :: List.filter (notAt p) (l.drop (i + 1))), List.append_cons (acc ++ [(⟨p, t, u⟩ : Entry)]) l[i] (List.filter (notAt p) (l.drop (i + 1)))]
        exact Ev.neg h (Ev.pos (by rw [List.length_append, List.length_singleton]; omega) (spec_S_done l hl p t u d (i + 1) (acc ++ [⟨p, t, u⟩] ++ [l[i]]) (by omega) (by simp only [List.length_append, List.length_singleton]; omega)))
theorem spec_set_ev (l : List Entry) (hl : l.length ≤ 1000) (p t : ByteArray) (u : Bool) : Ev (fun k => spec_l5Set.f k l p t u) (setR ⟨p, t, u⟩ l) := by
  unfold spec_l5Set.f
  exact spec_S_open l hl p t u l.length 0 [] (by omega) (by simp)
theorem notAt_iff {p : ByteArray} {z : Entry} : notAt p z = true ↔ z.f0.toList ≠ p.toList := by
  unfold notAt
  simp
theorem setR_len (e : Entry) : ∀ l, (setR e l).length ≤ l.length + 1
  | [] => by simp [setR]
  | y :: r => by
    unfold setR
    split
    · have := setR_len e r
      simp only [List.length_cons]
      omega
    · have := List.length_filter_le (notAt e.f0) (y :: r)
      simp only [List.length_cons] at this ⊢
      omega
theorem setR_mem (e : Entry) : ∀ (l : List Entry) (x : Entry), x ∈ setR e l ↔ x = e ∨ (x ∈ l ∧ x.f0.toList ≠ e.f0.toList)
  | [], x => by simp [setR]
  | y :: r, x => by
    unfold setR
    split
    · rename_i hlt
      have hy : y.f0.toList ≠ e.f0.toList := fun h => by
        rw [h, less_irrefl] at hlt
        cases hlt
      rw [List.mem_cons, setR_mem e r x, List.mem_cons]
      constructor
      · rintro (rfl | rfl | ⟨h1, h2⟩)
        · exact .inr ⟨.inl rfl, hy⟩
        · exact .inl rfl
        · exact .inr ⟨.inr h1, h2⟩
      · rintro (rfl | ⟨rfl | h1, h2⟩)
        · exact .inr (.inl rfl)
        · exact .inl rfl
        · exact .inr (.inr ⟨h1, h2⟩)
    · rw [List.mem_cons, List.mem_filter, notAt_iff]
theorem setR_asc (e : Entry) : ∀ l : List Entry, l.Pairwise ltE → (setR e l).Pairwise ltE
  | [], _ => List.pairwise_singleton _ _
  | y :: r, h => by
    have h' := h
    obtain ⟨h1, h2⟩ := List.pairwise_cons.1 h'
    unfold setR
    split
    · rename_i hlt
      refine List.pairwise_cons.2 ⟨fun z hz => ?_, setR_asc e r h2⟩
      rcases (setR_mem e r z).1 hz with rfl | ⟨hz, _⟩
      · exact hlt
      · exact h1 z hz
    · rename_i hlt
      refine List.pairwise_cons.2 ⟨fun z hz => ?_, h.filter _⟩
      obtain ⟨hz, hn⟩ := List.mem_filter.1 hz
      rw [notAt_iff] at hn
      by_cases hy : y.f0.toList = e.f0.toList
      · rcases List.mem_cons.1 hz with rfl | hz
        · exact absurd hy hn
        · have := h1 z hz
          unfold ltE at this ⊢
          rw [← hy]
          exact this
      · have hey : ltE e y := less_or (Bool.eq_false_iff.2 hlt) hy
        rcases List.mem_cons.1 hz with rfl | hz
        · exact hey
        · exact ltE_trans hey (h1 z hz)
theorem asc_apart {l : List Entry} (h : l.Pairwise ltE) : Apart l := h.imp fun {a b} hab e => by
  unfold ltE at hab
  rw [e, less_irrefl] at hab
  cases hab
theorem set_apart (e : Entry) {l : List Entry} (h : l.Pairwise ltE) : Apart (e :: l.filter (notAt e.f0)) :=
  List.pairwise_cons.2 ⟨fun z hz => (notAt_iff.1 (List.mem_filter.1 hz).2).symm, asc_apart (h.filter _)⟩
/-- Set is: the row without the path, the entry beside it, sorted. -/
theorem setR_sort (e : Entry) {l : List Entry} (h : l.Pairwise ltE) : setR e l = sortE (e :: l.filter (notAt e.f0)) := by
  refine asc_unique _ _ (setR_asc e l h) (sortE_asc _ (set_apart e h)) (fun x => ?_)
  rw [setR_mem, (sortE_perm _).mem_iff, List.mem_cons, List.mem_filter, notAt_iff]
theorem treeOk_pair {l : List Entry} (h : treeOk l = true) : l.Pairwise ltE := by
  rw [List.pairwise_iff_getElem]
  intro i j hi hj hij
  exact treeOk_lt h hij hj
theorem pathOk_size {s : ByteArray} {g : Bool} (h : pathOk s g = true) : s.size ≤ 126 := by
  rcases Nat.lt_or_ge 126 s.size with h' | h'
  · rw [pathOk_long s g h'] at h
    cases h
  · exact h'
theorem treeOk_path {l : List Entry} (h : treeOk l = true) {i : Nat} (hi : i < l.length) : pathOk l[i].f0 false = true := by
  have := treeOk_rows h i hi
  unfold rowOk entryOk at this
  rw [rdE_eq hi] at this
  by_cases hp : pathOk l[i].f0 false = true
  · exact hp
  · rw [if_neg hp] at this
    cases this
theorem treeOk_size {l : List Entry} (h : treeOk l = true) {i : Nat} (hi : i < l.length) : l[i].f0.size ≤ 126 := pathOk_size (treeOk_path h hi)
theorem treeOk_size' {l : List Entry} (h : treeOk l = true) : ∀ e ∈ l, e.f0.size ≤ 126 := by
  intro e he
  obtain ⟨i, hi, rfl⟩ := List.getElem_of_mem he
  exact treeOk_size h hi
theorem treeOk_len100 {l : List Entry} (h : treeOk l = true) : l.length ≤ 100 := by
  unfold treeOk at h
  split at h
  · cases h
  · omega

end Go.Proofs.YtknagppkeodggaaDoor.Pure


namespace Go.Proofs.YtknagppkeodggaaDoor.Pure
open Go Go.RowKit Go.Proofs.YtknagppkeodggaaDoor.P Go.Proofs.YtknagppkeodggaaDoorW.PrintWords Go.Proofs.YtknagppkeodggaaDoorW.PrintLast
set_option linter.unusedVariables false
set_option linter.unusedSimpArgs false

def overs (p : ByteArray) (x : Entry) : Bool := begins x.f0 p || begins p x.f0
def putL (l : List Entry) (e : Entry) (rest : List Entry) : List Entry × Int := if rest.any (overs e.f0) = true then ([], 3) else if ((setR e l).length : Int) > 100 then ([], 4) else (setR e l, 0)
def put (l : List Entry) (e : Entry) : List Entry × Int := if treeOk l = true then (if entryOk e = true then putL l e l else ([], 2)) else ([], 1)
theorem putL_pos {l : List Entry} {e y : Entry} {r : List Entry} (h : overs e.f0 y = true) : putL l e (y :: r) = ([], 3) := by
  unfold putL
  rw [List.any_cons, h]
  rfl
theorem putL_neg {l : List Entry} {e y : Entry} {r : List Entry} (h : overs e.f0 y = false) : putL l e (y :: r) = putL l e r := by
  unfold putL
  rw [List.any_cons, h, Bool.false_or]
theorem spec_Put0 (l : List Entry) (hl : l.length ≤ 100) (p t : ByteArray) (u : Bool) : ∀ (d i : Nat), i + d = l.length → Ev (fun k => spec_Put.l0 k (i : Int) l p t u) (putL l ⟨p, t, u⟩ (l.drop i))
  | 0, i, hd => by
    rw [List.drop_of_length_le (by omega)]
    refine Ev.step (fun k => spec_Put.l0.eq_2 ..) (Ev.neg (by omega) (Ev.bind (spec_set_ev l (by omega) p t u) ?_))
    exact Ev.both (fun _ => Ev.now _) (fun _ => Ev.now _)
  | d + 1, i, hd => by
    have hi : i < l.length := by omega
    refine Ev.step (fun k => spec_Put.l0.eq_2 ..) (Ev.pos (by omega) (Ev.pos (by omega) ?_))
    rw [rdE_eq hi, w64 (n := (i : Int) + 1) (by omega) (by omega), show (i : Int) + 1 = ((i + 1 : Nat) : Int) from by omega, List.drop_eq_getElem_cons hi, spec_begins_eq, spec_begins_eq]
    refine Ev.sb ?_
    by_cases h1 : begins l[i].f0 p = true
    · rw [putL_pos (by simp [overs, h1])]
      exact Ev.pos h1 (Ev.now _)
    · refine Ev.neg h1 (Ev.sb ?_)
      by_cases h2 : begins p l[i].f0 = true
      · rw [putL_pos (by simp [overs, h2])]
        exact Ev.pos h2 (Ev.now _)
      · rw [putL_neg (by simp [overs, h1, h2])]
        exact Ev.neg h2 (spec_Put0 l hl p t u d (i + 1) (by omega))
theorem spec_Put_ev (l : List Entry) (p t : ByteArray) (u : Bool) : Ev (fun k => spec_Put.f k l p t u) (put l ⟨p, t, u⟩) := by
  unfold spec_Put.f put entryOk
  refine Ev.bind (spec_ValidTree_ev l) ?_
  by_cases h : treeOk l = true
  · rw [if_pos h]
    refine Ev.pos h (Ev.bind (spec_path_ev p) ?_)
    by_cases h2 : pathOk p false = true
    · rw [if_pos h2]
      refine Ev.pos h2 (Ev.step (fun k => spec_Put.j0.eq_2 ..) ?_)
      by_cases h3 : (t.size : Int) ≤ 1500
      · rw [if_pos (by simpa using h3)]
        exact Ev.neg (by simpa using h3) (spec_Put0 l (treeOk_len100 h) p t u l.length 0 (by omega))
      · rw [if_neg (by simpa using h3)]
        exact Ev.pos (by simpa using h3) (Ev.now _)
    · rw [if_neg h2, if_neg (by simp)]
      exact Ev.neg h2 (Ev.step (fun k => spec_Put.j0.eq_2 ..) (Ev.pos rfl (Ev.now _)))
  · rw [if_neg h]
    exact Ev.neg h (Ev.now _)
theorem impl_Put0 (l : List Entry) (hl : l.length ≤ 100) (hz : ∀ e ∈ l, e.f0.size ≤ 126) (ha : l.Pairwise ltE) (p t : ByteArray) (u : Bool) (hp : p.size ≤ 126) : ∀ (d i : Nat) (acc : List Entry), i + d = l.length → acc.length ≤ i + 1 → acc ++ (l.drop i).filter (notAt p) = ⟨p, t, u⟩ :: l.filter (notAt p) →
    Ev (fun k => impl_Put.l0 k acc l (l.length : Int) (i : Int) p t u) (putL l ⟨p, t, u⟩ (l.drop i))
  | 0, i, acc, hd, hc, hT => by
    rw [List.drop_of_length_le (by omega)] at hT ⊢
    rw [List.filter_nil, List.append_nil] at hT
    have hs := setR_sort ⟨p, t, u⟩ ha
    have hn : (setR ⟨p, t, u⟩ l).length = acc.length := by rw [hs, (sortE_perm _).length_eq, hT]
    refine Ev.step (fun k => impl_Put.l0.eq_2 ..) (Ev.neg (by omega) ?_)
    unfold putL
    rw [List.any_nil, if_neg (show ¬ (false = true) by simp), hn]
    refine Ev.both (fun _ => Ev.now _) (fun h => ?_)
    rw [impl_sorted_eq (by omega) (by rw [hT]; exact set_apart ⟨p, t, u⟩ ha), hT, ← hs]
    exact Ev.now _
  | d + 1, i, acc, hd, hc, hT => by
    have hi : i < l.length := by omega
    have hzi := hz l[i] (List.getElem_mem hi)
    refine Ev.step (fun k => impl_Put.l0.eq_2 ..) (Ev.pos (by omega) (Ev.pos (by omega) (Ev.pos (by omega) ?_)))
    rw [rdE_eq hi, List.drop_eq_getElem_cons hi, impl_over_eq _ _ (by omega), impl_over_eq _ _ (by omega)]
    rw [List.drop_eq_getElem_cons hi] at hT
    refine Ev.sb ?_
    by_cases h1 : begins l[i].f0 p = true
    · rw [putL_pos (by simp [overs, h1])]
      exact Ev.pos h1 (Ev.step (fun k => impl_Put.j1.eq_2 ..) (Ev.pos rfl (Ev.now _)))
    · refine Ev.neg h1 (Ev.sb (Ev.step (fun k => impl_Put.j1.eq_2 ..) ?_))
      by_cases h2 : begins p l[i].f0 = true
      · rw [putL_pos (by simp [overs, h2])]
        exact Ev.pos h2 (Ev.now _)
      · rw [putL_neg (by simp [overs, h1, h2]), w64 (n := (i : Int) + 1) (by omega) (by omega), show (i : Int) + 1 = ((i + 1 : Nat) : Int) from by omega]
        refine Ev.neg h2 ?_
        by_cases h : l[i].f0.toList = p.toList
        · rw [List.filter_cons_of_neg (by simp [notAt, h])] at hT
          exact Ev.pos h (impl_Put0 l hl hz ha p t u hp d (i + 1) acc (by omega) (by omega) hT)
        · rw [List.filter_cons_of_pos (by simp [notAt, h]), List.append_cons] at hT
          exact Ev.neg h (Ev.pos (by omega) (impl_Put0 l hl hz ha p t u hp d (i + 1) (acc ++ [l[i]]) (by omega) (by rw [List.length_append, List.length_singleton]; omega) hT))
theorem impl_Put_ev (l : List Entry) (hz : ∀ e ∈ l, e.f0.size ≤ 1048576) (p t : ByteArray) (u : Bool) (hp : p.size ≤ 1048576) : Ev (fun k => impl_Put.f k l p t u) (put l ⟨p, t, u⟩) := by
  unfold impl_Put.f put
  refine Ev.bind (impl_ValidTree_ev l hz) ?_
  by_cases h : treeOk l = true
  · rw [if_pos h]
    refine Ev.pos h (Ev.bind (impl_goodEntry_ev p t u hp) ?_)
    by_cases h2 : entryOk ⟨p, t, u⟩ = true
    · have hps : p.size ≤ 126 := by
        unfold entryOk at h2
        by_cases hp : pathOk p false = true
        · exact pathOk_size hp
        · rw [if_neg hp] at h2
          cases h2
      rw [if_pos h2]
      exact Ev.pos h2 (impl_Put0 l (treeOk_len100 h) (treeOk_size' h) (treeOk_pair h) p t u hps l.length 0 [⟨p, t, u⟩] (by omega) (by simp) rfl)
    · rw [if_neg h2]
      exact Ev.neg h2 (Ev.now _)
  · rw [if_neg h]
    exact Ev.neg h (Ev.now _)
theorem put_len (l : List Entry) (e : Entry) : (put l e).1.length ≤ 100 := by
  unfold put putL
  split
  · split
    · split
      · simp
      · split
        · simp
        · show (setR e l).length ≤ 100
          omega
    · simp
  · simp

end Go.Proofs.YtknagppkeodggaaDoor.Pure


namespace Go.Proofs.YtknagppkeodggaaDoor.Pure
open Go Go.RowKit Go.Proofs.YtknagppkeodggaaDoor.P Go.Proofs.YtknagppkeodggaaDoorW.PrintWords Go.Proofs.YtknagppkeodggaaDoorW.PrintLast
set_option linter.unusedVariables false
set_option linter.unusedSimpArgs false

theorem g_eq {l : List Entry} {p : ByteArray} {i : Nat} (hi : i < l.length) : impl_find.g l p i = Lib.compareBytes p.toList (l[i].f0.toList) := by
  unfold impl_find.g
  rw [rdE_eq hi, Lib.toList_data, Lib.toList_data]
theorem bs_ev (l : List Entry) (p : ByteArray) (h : treeOk l = true) : ∀ (d i j : Nat), j - i ≤ d → i ≤ j → j ≤ l.length → (∀ x, (hx : x < l.length) → x < i → less (l[x].f0.toList) p.toList = true) → (∀ x, (hx : x < l.length) → j ≤ x → ¬ less (l[x].f0.toList) p.toList = true) →
    ∃ m, Ev (fun k => impl_find.l0 (impl_find.g l p) k i j) m ∧ m ≤ l.length ∧ (∀ x, (hx : x < l.length) → x < m → less (l[x].f0.toList) p.toList = true) ∧ (∀ x, (hx : x < l.length) → m ≤ x → ¬ less (l[x].f0.toList) p.toList = true)
  | 0, i, j, hd, hij, hj, h1, h2 => by
    obtain rfl : i = j := by omega
    exact ⟨i, Ev.step (fun k => impl_find.l0.eq_2 ..) (Ev.neg (by omega) (Ev.now _)), hj, h1, h2⟩
  | d + 1, i, j, hd, hij, hj, h1, h2 => by
    by_cases e : i < j
    · have hm : (i + j) / 2 < l.length := by omega
      by_cases hg : less (l[(i + j) / 2].f0.toList) p.toList = true
      · obtain ⟨m, a, b⟩ := bs_ev l p h d ((i + j) / 2 + 1) j (by omega) (by omega) hj (fun x hx hlt => by
          rcases Nat.lt_or_ge x ((i + j) / 2) with h' | h'
          · exact less_trans _ _ _ (treeOk_lt h h' hm) hg
          · obtain rfl : x = (i + j) / 2 := by omega
            exact hg) h2
        exact ⟨m, Ev.step (fun k => impl_find.l0.eq_2 ..) (Ev.pos e (Ev.pos (by rw [g_eq hm]; exact cmp_pos.2 hg) a)), b⟩
      · obtain ⟨m, a, b⟩ := bs_ev l p h d i ((i + j) / 2) (by omega) (by omega) (by omega) h1 (fun x hx hge => by
          rcases Nat.eq_or_lt_of_le hge with h' | h'
          · simp only [← h']
            exact hg
          · intro hl
            exact hg (less_trans _ _ _ (treeOk_lt h h' hx) hl))
        exact ⟨m, Ev.step (fun k => impl_find.l0.eq_2 ..) (Ev.pos e (Ev.neg (by rw [g_eq hm]; exact fun hh => hg (cmp_pos.1 hh)) a)), b⟩
    · exact ⟨i, Ev.step (fun k => impl_find.l0.eq_2 ..) (Ev.neg e (Ev.now _)), by omega, h1, fun x hx hge => h2 x hx (by omega)⟩
/-- What find tells of a valid tree: the place of the path, or that it is not there. -/
theorem find_ev (l : List Entry) (p : ByteArray) (h : treeOk l = true) :
    ∃ (m : Nat) (ok : Bool), Ev (fun k => impl_find.f k l p) ((m : Int), ok) ∧ (ok = true → ∃ hm : m < l.length, l[m].f0.toList = p.toList) ∧ (ok = false → ∀ x, (hx : x < l.length) → l[x].f0.toList ≠ p.toList) := by
  have hl : l.length ≤ 100 := by
    unfold treeOk at h
    split at h
    · cases h
    · omega
  obtain ⟨m, e, hm, h1, h2⟩ := bs_ev l p h l.length 0 l.length (by omega) (by omega) (Nat.le_refl _) (fun x _ hx => by omega) (fun x hx hge => by omega)
  refine ⟨m, if m < l.length then (impl_find.g l p m == 0) else false, ?_, ?_, ?_⟩
  · unfold impl_find.f
    exact Ev.pos (by omega) (Ev.bind e (Ev.now _))
  · intro ho
    split at ho
    · rename_i hlt
      refine ⟨hlt, ?_⟩
      rw [g_eq hlt] at ho
      exact (cmp_zero.1 (beq_iff_eq.1 ho)).symm
    · cases ho
  · intro ho x hx he
    split at ho
    · rename_i hlt
      rw [g_eq hlt] at ho
      have hne : p.toList ≠ l[m].f0.toList := fun ee => (beq_eq_false_iff_ne.1 ho) (cmp_zero.2 ee)
      rcases Nat.lt_trichotomy x m with h' | h' | h'
      · have := h1 x hx h'
        rw [he, less_irrefl] at this
        cases this
      · subst h'
        exact hne he.symm
      · have h3 := treeOk_lt h h' hx
        rw [he] at h3
        exact h2 m hlt (Nat.le_refl _) h3
    · have := h1 x hx (by omega)
      rw [he, less_irrefl] at this
      cases this

end Go.Proofs.YtknagppkeodggaaDoor.Pure


namespace Go.Proofs.YtknagppkeodggaaDoor.Pure
open Go Go.RowKit Go.Proofs.YtknagppkeodggaaDoor.P Go.Proofs.YtknagppkeodggaaDoorW.PrintWords Go.Proofs.YtknagppkeodggaaDoorW.PrintLast
set_option linter.unusedVariables false
set_option linter.unusedSimpArgs false

def finR (l o : List Entry) : List Entry × Int := if (o.length : Int) = (l.length : Int) then ([], 4) else (o, 0)
def remove (l : List Entry) (p : ByteArray) : List Entry × Int := if treeOk l = true then finR l (l.filter (notAt p)) else ([], 1)
/-- A path that lies there once goes alone. -/
theorem filter_erase : ∀ (l : List Entry) (p : ByteArray) (m : Nat) (_ : Apart l) (hm : m < l.length), l[m].f0.toList = p.toList → l.filter (notAt p) = l.eraseIdx m
  | [], _, m, _, hm, _ => absurd hm (Nat.not_lt_zero _)
  | y :: r, p, 0, ha, hm, he => by
    have he' : y.f0.toList = p.toList := he
    obtain ⟨h1, _⟩ := List.pairwise_cons.1 ha
    rw [List.filter_cons_of_neg (by simp [notAt, he']), List.eraseIdx_cons_zero]
    exact List.filter_eq_self.2 (fun z hz => notAt_iff.2 (by rw [← he']; exact (h1 z hz).symm))
  | y :: r, p, m + 1, ha, hm, he => by
    obtain ⟨h1, h2⟩ := List.pairwise_cons.1 ha
    have hm' : m < r.length := by simpa using hm
    have he' : r[m].f0.toList = p.toList := he
    rw [List.filter_cons_of_pos (notAt_iff.2 (by rw [← he']; exact h1 _ (List.getElem_mem hm'))), List.eraseIdx_cons_succ, filter_erase r p m h2 hm' he']
theorem impl_Remove_ev (l : List Entry) (hz : ∀ e ∈ l, e.f0.size ≤ 1048576) (p : ByteArray) : Ev (fun k => impl_Remove.f k l p) (remove l p) := by
  unfold impl_Remove.f remove
  refine Ev.bind (impl_ValidTree_ev l hz) ?_
  by_cases h : treeOk l = true
  · rw [if_pos h]
    have hl := treeOk_len100 h
    obtain ⟨m, ok, e, h1, h2⟩ := find_ev l p h
    refine Ev.pos h (Ev.bind e ?_)
    cases ok with
    | true =>
      obtain ⟨hm, he⟩ := h1 rfl
      rw [filter_erase l p m (asc_apart (treeOk_pair h)) hm he]
      have hlen : (l.eraseIdx m).length = l.length - 1 := by rw [List.length_eraseIdx, if_pos hm]
      have e3 : finR l (l.eraseIdx m) = (l.eraseIdx m, 0) := if_neg (by rw [hlen]; omega)
      rw [e3]
      refine Ev.pos rfl ?_
      rw [show impl_Entry_76.f l = some l from if_pos (by omega)]
      refine Ev.sb ?_
      rw [w64 (n := (m : Int) + 1) (by omega) (by omega), show impl_Entry_75.f l (m : Int) ((m : Int) + 1) = some (l.eraseIdx m) from by
        unfold impl_Entry_75.f
        rw [if_pos ⟨by omega, rfl, by omega, by omega⟩, Int.toNat_natCast]]
      exact Ev.sb (Ev.now _)
    | false =>
      have hf : l.filter (notAt p) = l := List.filter_eq_self.2 (fun z hz => by
        obtain ⟨i, hi, rfl⟩ := List.getElem_of_mem hz
        exact notAt_iff.2 (h2 rfl i hi))
      have e3 : finR l l = ([], 4) := if_pos rfl
      rw [hf, e3]
      exact Ev.neg (by simp) (Ev.now _)
  · rw [if_neg h]
    exact Ev.neg h (Ev.now _)
theorem remove_len (l : List Entry) (p : ByteArray) : (remove l p).1.length ≤ 100 := by
  unfold remove finR
  split
  · rename_i h
    have := treeOk_len100 h
    have h2 := List.length_filter_le (notAt p) l
    split
    · simp
    · show (l.filter (notAt p)).length ≤ 100
      omega
  · simp

end Go.Proofs.YtknagppkeodggaaDoor.Pure


namespace Go.Proofs.YtknagppkeodggaaDoor.Pure
open Go Go.RowKit Go.Proofs.YtknagppkeodggaaDoor.P Go.Proofs.YtknagppkeodggaaDoorW.PrintWords Go.Proofs.YtknagppkeodggaaDoorW.PrintLast
set_option linter.unusedVariables false
set_option linter.unusedSimpArgs false

theorem anyOver_iff (l : List Entry) (p : ByteArray) : ∀ (d j : Nat), anyOver l p d j = true ↔ ∃ k, j ≤ k ∧ k < j + d ∧ begins (rd_T27 l (k : Int)).f0 p = true
  | 0, j => by
    rw [anyOver]
    exact ⟨fun h => (by cases h), fun ⟨k, h1, h2, _⟩ => (by omega)⟩
  | d + 1, j => by
    rw [anyOver]
    split
    · rename_i h
      exact ⟨fun _ => ⟨j, by omega, by omega, h⟩, fun _ => rfl⟩
    · rename_i h
      rw [anyOver_iff l p d (j + 1)]
      constructor
      · rintro ⟨k, h1, h2, h3⟩
        exact ⟨k, by omega, by omega, h3⟩
      · rintro ⟨k, h1, h2, h3⟩
        refine ⟨k, ?_, by omega, h3⟩
        rcases Nat.lt_or_ge j k with h' | h'
        · omega
        · obtain rfl : k = j := by omega
          exact absurd h3 h
theorem treeFrom_iff (l : List Entry) : ∀ (d i : Nat), treeFrom l d i = true ↔ ∀ j, i ≤ j → j < i + d → rowOk l j = true ∧ anyOver l (rd_T27 l (j : Int)).f0 j 0 = false
  | 0, i => by
    rw [treeFrom]
    exact ⟨fun _ j h1 h2 => (by omega), fun _ => rfl⟩
  | d + 1, i => by
    rw [treeFrom]
    constructor
    · intro h j h1 h2
      split at h
      · rename_i hr
        split at h
        · cases h
        · rename_i ho
          rcases Nat.lt_or_ge i j with h' | h'
          · exact (treeFrom_iff l d (i + 1)).1 h j (by omega) (by omega)
          · obtain rfl : j = i := by omega
            exact ⟨hr, Bool.eq_false_iff.2 ho⟩
      · cases h
    · intro h
      obtain ⟨h1, h2⟩ := h i (Nat.le_refl _) (by omega)
      rw [if_pos h1, if_neg (by rw [h2]; simp)]
      exact (treeFrom_iff l d (i + 1)).2 (fun j h3 h4 => h j (by omega) (by omega))
/-- Two paths of which the first is not a directory of the second. -/
def clear (x y : Entry) : Prop := begins x.f0 y.f0 = false
theorem treeOk_iff (l : List Entry) : treeOk l = true ↔ l.length ≤ 100 ∧ (∀ e ∈ l, entryOk e = true) ∧ l.Pairwise ltE ∧ l.Pairwise clear := by
  constructor
  · intro h
    have hl := treeOk_len100 h
    refine ⟨hl, fun e he => ?_, treeOk_pair h, ?_⟩
    · obtain ⟨i, hi, rfl⟩ := List.getElem_of_mem he
      have := treeOk_rows h i hi
      unfold rowOk at this
      rw [rdE_eq hi] at this
      by_cases hh : entryOk l[i] = true
      · exact hh
      · rw [if_neg hh] at this
        cases this
    · rw [List.pairwise_iff_getElem]
      intro i j hi hj hij
      unfold treeOk at h
      rw [if_neg (by omega), treeFrom_iff] at h
      have h2 := (h j (by omega) (by omega)).2
      show begins l[i].f0 l[j].f0 = false
      rw [Bool.eq_false_iff] at h2 ⊢
      intro hb
      refine h2 ((anyOver_iff _ _ _ _).2 ⟨i, by omega, by omega, ?_⟩)
      rw [rdE_eq hi, rdE_eq hj]
      exact hb
  · rintro ⟨hl, h1, h2, h3⟩
    unfold treeOk
    rw [if_neg (by omega), treeFrom_iff]
    intro j _ hj
    have hj' : j < l.length := by omega
    refine ⟨?_, ?_⟩
    · unfold rowOk
      rw [rdE_eq hj', if_pos (h1 _ (List.getElem_mem hj'))]
      match j, hj' with
      | 0, _ => rw [if_neg (by omega)]
      | i + 1, hj' =>
        rw [if_pos (by omega), show ((i + 1 : Nat) : Int) - 1 = (i : Int) from by omega, rdE_eq (by omega : i < l.length)]
        exact (List.pairwise_iff_getElem.1 h2) i (i + 1) (by omega) hj' (by omega)
    · rw [Bool.eq_false_iff]
      intro hb
      obtain ⟨k, _, hk, hb⟩ := (anyOver_iff _ _ _ _).1 hb
      have hk' : k < j := by omega
      rw [rdE_eq hj', rdE_eq (by omega : k < l.length)] at hb
      have := (List.pairwise_iff_getElem.1 h3) k j (by omega) hj' hk'
      unfold clear at this
      rw [hb] at this
      cases this
/-- A directory stands ahead of what lies in it. -/
theorem begins_less {a b : ByteArray} (h : begins a b = true) : less a.toList b.toList = true := by
  unfold begins Lib.hasPrefix at h
  rw [List.isPrefixOf_iff_prefix] at h
  obtain ⟨t, h⟩ := h
  rw [Lib.toList_data, Lib.toList_data, ← h]
  have : ∀ (a t : List UInt8), less a (a ++ [47] ++ t) = true := by
    intro a t
    induction a with
    | nil => simp [less, Op.bytesLess]
    | cons x r ih =>
      simp only [less, Op.bytesLess, List.cons_append] at ih ⊢
      simpa using ih
  exact this _ _
def none5 : ByteArray × ByteArray × Bool × Bool := (⟨#[]⟩, ⟨#[]⟩, false, false)
def got5 (e : Entry) : ByteArray × ByteArray × Bool × Bool := (e.f0, e.f1, e.f2, true)
/-- What lies under a path. -/
def at_ (l : List Entry) (p : ByteArray) : Option Entry := l.find? fun e => decide (e.f0.toList = p.toList)
def gotO : Option Entry → ByteArray × ByteArray × Bool × Bool
  | none => none5
  | some e => got5 e
def get (l : List Entry) (p : ByteArray) : ByteArray × ByteArray × Bool × Bool := if treeOk l = true then gotO (at_ l p) else none5
theorem at_none {l : List Entry} {p : ByteArray} (h : ∀ x, (hx : x < l.length) → l[x].f0.toList ≠ p.toList) : at_ l p = none := by
  unfold at_
  rw [List.find?_eq_none]
  intro e he
  obtain ⟨i, hi, rfl⟩ := List.getElem_of_mem he
  simpa using h i hi
theorem at_some {l : List Entry} {p : ByteArray} (ha : Apart l) {e : Entry} (he : e ∈ l) (h : e.f0.toList = p.toList) : at_ l p = some e := by
  unfold at_
  cases hf : l.find? (fun e => decide (e.f0.toList = p.toList)) with
  | none => exact absurd (List.find?_eq_none.1 hf e he) (by simp [h])
  | some x =>
    have h1 := List.mem_of_find?_eq_some hf
    have h2 : x.f0.toList = p.toList := by simpa using List.find?_some hf
    by_cases hxe : x = e
    · rw [hxe]
    · exfalso
      have hp : l.Pairwise fun x y => x.f0.toList ≠ y.f0.toList := ha
      rcases List.getElem_of_mem h1 with ⟨i, hi, ei⟩
      rcases List.getElem_of_mem he with ⟨j, hj, ej⟩
      rcases Nat.lt_trichotomy i j with hij | hij | hij
      · exact (List.pairwise_iff_getElem.1 hp) i j hi hj hij (by rw [ei, ej, h2, h])
      · subst hij
        exact hxe (by rw [← ei, ← ej])
      · exact (List.pairwise_iff_getElem.1 hp) j i hj hi hij (by rw [ei, ej, h2, h])
theorem at_mem {l : List Entry} {p : ByteArray} {e : Entry} (h : at_ l p = some e) : e ∈ l ∧ e.f0.toList = p.toList := ⟨List.mem_of_find?_eq_some h, by simpa using List.find?_some h⟩
theorem impl_Get_ev (l : List Entry) (hz : ∀ e ∈ l, e.f0.size ≤ 1048576) (p : ByteArray) : Ev (fun k => impl_Get.f k l p) (get l p) := by
  unfold impl_Get.f get
  by_cases h : treeOk l = true
  · rw [if_pos h]
    obtain ⟨m, ok, e, h1, h2⟩ := find_ev l p h
    cases ok with
    | true =>
      obtain ⟨hm, he⟩ := h1 rfl
      refine Ev.bind (impl_ValidTree_ev l hz) (Ev.pos h (Ev.bind e (Ev.pos rfl (Ev.pos (by omega) (Ev.pos (by omega) ?_)))))
      rw [at_some (asc_apart (treeOk_pair h)) (List.getElem_mem hm) he]
      show Ev (fun _ => some ((rd_T27 l (m : Int)).f0, (rd_T27 l (m : Int)).f1, (rd_T27 l (m : Int)).f2, true)) _
      rw [rdE_eq hm]
      exact Ev.now _
    | false =>
      rw [at_none (h2 rfl)]
      exact Ev.bind (impl_ValidTree_ev l hz) (Ev.pos h (Ev.bind e (Ev.neg (by simp) (Ev.now _))))
  · rw [if_neg h]
    exact Ev.bind (impl_ValidTree_ev l hz) (Ev.neg h (Ev.now _))

end Go.Proofs.YtknagppkeodggaaDoor.Pure


namespace Go.Proofs.YtknagppkeodggaaDoor.Pure
open Go Go.RowKit Go.Proofs.YtknagppkeodggaaDoor.P Go.Proofs.YtknagppkeodggaaDoorW.PrintWords Go.Proofs.YtknagppkeodggaaDoorW.PrintLast
set_option linter.unusedVariables false
set_option linter.unusedSimpArgs false

theorem tl_eq {a b : ByteArray} (h : a.toList = b.toList) : a = b := ba_ext (by rw [← Lib.toList_data, h, Lib.toList_data])
theorem begins_irrefl (a : ByteArray) : begins a a = false := by
  cases h : begins a a with
  | false => rfl
  | true =>
    have := begins_less h
    rw [less_irrefl] at this
    cases this
theorem ltE_of_less {a b : Entry} (h : less a.f0.toList b.f0.toList = true) : ltE a b := h
/-- A tree in plain words: no path lies over another one. -/
theorem treeOk_all (l : List Entry) : treeOk l = true ↔ l.length ≤ 100 ∧ (∀ e ∈ l, entryOk e = true) ∧ l.Pairwise ltE ∧ ∀ x ∈ l, ∀ y ∈ l, begins x.f0 y.f0 = false := by
  rw [treeOk_iff]
  constructor
  · rintro ⟨h1, h2, h3, h4⟩
    refine ⟨h1, h2, h3, fun x hx y hy => ?_⟩
    rw [List.pairwise_iff_getElem] at h3 h4
    obtain ⟨i, hi, rfl⟩ := List.getElem_of_mem hx
    obtain ⟨j, hj, rfl⟩ := List.getElem_of_mem hy
    rcases Nat.lt_trichotomy i j with h | h | h
    · exact h4 i j hi hj h
    · subst h
      exact begins_irrefl _
    · cases hb : begins l[i].f0 l[j].f0 with
      | false => rfl
      | true => exact absurd (ltE_trans (h3 j i hj hi h) (ltE_of_less (begins_less hb))) (ltE_irrefl _)
  · rintro ⟨h1, h2, h3, h4⟩
    refine ⟨h1, h2, h3, ?_⟩
    rw [List.pairwise_iff_getElem]
    intro i j hi hj _
    exact h4 _ (List.getElem_mem hi) _ (List.getElem_mem hj)
theorem tree_part {l m : List Entry} (h : treeOk l = true) (hs : m.Sublist l) : treeOk m = true := by
  rw [treeOk_all] at h ⊢
  obtain ⟨h1, h2, h3, h4⟩ := h
  exact ⟨Nat.le_trans hs.length_le h1, fun e he => h2 e (hs.subset he), h3.sublist hs, fun x hx y hy => h4 x (hs.subset hx) y (hs.subset hy)⟩
theorem put_zero {t x : List Entry} {e : Entry} (h : put t e = (x, 0)) : treeOk t = true ∧ entryOk e = true ∧ (∀ y ∈ t, begins y.f0 e.f0 = false ∧ begins e.f0 y.f0 = false) ∧ (setR e t).length ≤ 100 ∧ x = setR e t := by
  unfold put putL at h
  split at h
  · rename_i h1
    split at h
    · rename_i h2
      split at h
      · exact absurd (Prod.mk.inj h).2 (by decide)
      · rename_i h3
        split at h
        · exact absurd (Prod.mk.inj h).2 (by decide)
        · rename_i h4
          obtain ⟨rfl, _⟩ := Prod.mk.inj h
          refine ⟨h1, h2, fun y hy => ?_, by omega, rfl⟩
          have : overs e.f0 y = false := by
            cases ho : overs e.f0 y with
            | false => rfl
            | true => exact absurd (List.any_eq_true.2 ⟨y, hy, ho⟩) h3
          unfold overs at this
          simpa using this
    · exact absurd (Prod.mk.inj h).2 (by decide)
  · exact absurd (Prod.mk.inj h).2 (by decide)
theorem put_fail {t x : List Entry} {e : Entry} {c : Int} (h : put t e = (x, c)) (hc : c ≠ 0) : x = [] := by
  unfold put putL at h
  repeat' split at h
  all_goals (first | exact ((Prod.mk.inj h).1).symm | exact absurd ((Prod.mk.inj h).2).symm hc)
theorem put_of {t : List Entry} {e : Entry} (h1 : treeOk t = true) (h2 : entryOk e = true) (h3 : ∀ y ∈ t, begins y.f0 e.f0 = false ∧ begins e.f0 y.f0 = false) (h4 : (setR e t).length ≤ 100) : put t e = (setR e t, 0) := by
  unfold put putL
  rw [if_pos h1, if_pos h2, if_neg, if_neg (by omega)]
  intro ha
  obtain ⟨y, hy, ho⟩ := List.any_eq_true.1 ha
  unfold overs at ho
  rw [(h3 y hy).1, (h3 y hy).2] at ho
  cases ho
theorem put_ok {t x : List Entry} {e : Entry} (h : put t e = (x, 0)) : treeOk x = true := by
  obtain ⟨h1, h2, h3, h4, rfl⟩ := put_zero h
  rw [treeOk_all] at h1 ⊢
  obtain ⟨_, a2, a3, a4⟩ := h1
  refine ⟨h4, fun y hy => ?_, setR_asc e t a3, fun y hy z hz => ?_⟩
  · rcases (setR_mem e t y).1 hy with rfl | ⟨hy, _⟩
    · exact h2
    · exact a2 y hy
  · rcases (setR_mem e t y).1 hy with hye | ⟨hy1, _⟩
    · subst hye
      rcases (setR_mem y t z).1 hz with hze | ⟨hz1, _⟩
      · subst hze
        exact begins_irrefl _
      · exact (h3 z hz1).2
    · rcases (setR_mem e t z).1 hz with hze | ⟨hz1, _⟩
      · subst hze
        exact (h3 y hy1).1
      · exact a4 y hy1 z hz1
theorem get_of {l : List Entry} (h : treeOk l = true) {e : Entry} (he : e ∈ l) {p : ByteArray} (hp : e.f0 = p) : get l p = got5 e := by
  unfold get
  rw [if_pos h, at_some (asc_apart (treeOk_pair h)) he (by rw [hp])]
  rfl
theorem get_not {l : List Entry} (h : treeOk l = true) {p : ByteArray} (hp : ∀ e ∈ l, e.f0 ≠ p) : get l p = none5 := by
  unfold get
  rw [if_pos h, at_none (fun x hx e => hp _ (List.getElem_mem hx) (tl_eq e))]
  rfl
theorem put_get {t x : List Entry} {e : Entry} (h : put t e = (x, 0)) : get x e.f0 = got5 e := by
  have hx := put_ok h
  obtain ⟨_, _, _, _, rfl⟩ := put_zero h
  exact get_of hx ((setR_mem e t e).2 (.inl rfl)) rfl
theorem put_kept {t x : List Entry} {e y : Entry} (h : put t e = (x, 0)) (hy : y ∈ t) (hne : y.f0.toList ≠ e.f0.toList) : get x y.f0 = got5 y := by
  have hx := put_ok h
  obtain ⟨_, _, _, _, rfl⟩ := put_zero h
  exact get_of hx ((setR_mem e t y).2 (.inr ⟨hy, hne⟩)) rfl
theorem put_back {t x : List Entry} {e : Entry} (h : put t e = (x, 0)) : x.filter (notAt e.f0) = t.filter (notAt e.f0) := by
  obtain ⟨h1, _, _, _, rfl⟩ := put_zero h
  have ha := treeOk_pair h1
  refine asc_unique _ _ ((setR_asc e t ha).filter _) (ha.filter _) (fun y => ?_)
  rw [List.mem_filter, List.mem_filter, setR_mem, notAt_iff]
  constructor
  · rintro ⟨rfl | ⟨h2, _⟩, h3⟩
    · exact absurd rfl h3
    · exact ⟨h2, h3⟩
  · rintro ⟨h2, h3⟩
    exact ⟨.inr ⟨h2, h3⟩, h3⟩
theorem remove_of {l : List Entry} (h : treeOk l = true) {e : Entry} (he : e ∈ l) : remove l e.f0 = (l.filter (notAt e.f0), 0) := by
  unfold remove finR
  rw [if_pos h, if_neg]
  intro hl
  have h1 : (l.filter (notAt e.f0)).length < l.length := by
    rw [List.length_filter_lt_length_iff_exists]
    exact ⟨e, he, by rw [notAt_iff]; simp⟩
  omega
theorem remove_not {l : List Entry} (h : treeOk l = true) {p : ByteArray} (hp : ∀ e ∈ l, e.f0.toList ≠ p.toList) : remove l p = ([], 4) := by
  unfold remove finR
  rw [if_pos h, if_pos]
  rw [List.filter_eq_self.2 (fun e he => notAt_iff.2 (hp e he))]
/-- Put in and taken away again. -/
theorem put_remove {t x : List Entry} {e : Entry} (h : put t e = (x, 0)) : remove x e.f0 = (t.filter (notAt e.f0), 0) ∧ remove (t.filter (notAt e.f0)) e.f0 = ([], 4) := by
  have hx := put_ok h
  have hb := put_back h
  obtain ⟨h1, _, _, _, rfl⟩ := put_zero h
  refine ⟨by rw [remove_of hx ((setR_mem e t e).2 (.inl rfl)), hb], ?_⟩
  exact remove_not (tree_part h1 List.filter_sublist) (fun y hy => notAt_iff.1 (List.mem_filter.1 hy).2)
theorem put_new {t : List Entry} {p : ByteArray} (h : ∀ y ∈ t, y.f0 ≠ p) : t.filter (notAt p) = t :=
  List.filter_eq_self.2 (fun y hy => notAt_iff.2 (fun e => h y hy (tl_eq e)))
theorem put_old {t : List Entry} {o : Entry} (h1 : treeOk t = true) (ho : o ∈ t) : put (t.filter (notAt o.f0)) o = (t, 0) := by
  have h1' := h1
  rw [treeOk_all] at h1'
  obtain ⟨a1, a2, a3, a4⟩ := h1'
  have e : setR o (t.filter (notAt o.f0)) = t := by
    refine asc_unique _ _ (setR_asc o _ (a3.filter _)) a3 (fun y => ?_)
    rw [setR_mem, List.mem_filter, notAt_iff]
    constructor
    · rintro (rfl | ⟨⟨h2, _⟩, _⟩)
      · exact ho
      · exact h2
    · intro hy
      by_cases hp : y.f0.toList = o.f0.toList
      · left
        have := at_some (asc_apart a3) hy hp
        rw [at_some (asc_apart a3) ho rfl] at this
        exact (Option.some.inj this).symm
      · exact .inr ⟨⟨hy, hp⟩, hp⟩
  have := put_of (tree_part h1 (List.filter_sublist (p := notAt o.f0))) (a2 o ho) (fun y hy => ⟨a4 y (List.mem_filter.1 hy).1 o ho, a4 o ho y (List.mem_filter.1 hy).1⟩) (by rw [e]; exact a1)
  rw [this, e]

end Go.Proofs.YtknagppkeodggaaDoor.Pure

