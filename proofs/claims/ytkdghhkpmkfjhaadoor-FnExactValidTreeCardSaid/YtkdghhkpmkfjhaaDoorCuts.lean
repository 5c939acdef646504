/- A text cut at a byte: the reference's walk, the library's Split. Conditions: sizes. -/
import Derived.Test.YtkdghhkpmkfjhaaDoorPSpecL4Parts
import Derived.Test.YtkdghhkpmkfjhaaDoorPStringsSplit
import Derived.Test.YtkdghhkpmkfjhaaDoorBase
import Derived.Lib.SplitLaws
namespace Go.Proofs.YtkdghhkpmkfjhaaDoor.Pure
open Go Go.RowKit Go.Proofs.YtkdghhkpmkfjhaaDoor.P Go.Proofs.YtkdghhkpmkfjhaaDoorW.PrintWords Go.Proofs.YtkdghhkpmkfjhaaDoorW.PrintLast
set_option linter.unusedVariables false
set_option linter.unusedSimpArgs false

/-- The bytes, cut at each c; cur: what has been read of the piece. -/
def cuts (c : UInt8) : List UInt8 → List UInt8 → List (List UInt8)
  | [], cur => [cur]
  | b :: r, cur => if b = c then cur :: cuts c r [] else cuts c r (cur ++ [b])
def ofBytes (l : List UInt8) : ByteArray := ⟨l.toArray⟩
theorem ofBytes_data (l : List UInt8) : (ofBytes l).data.toList = l := by simp [ofBytes]
theorem ofBytes_of (s : ByteArray) : ofBytes s.data.toList = s := ba_ext (ofBytes_data _)
theorem ofBytes_size (l : List UInt8) : (ofBytes l).size = l.length := by rw [← size_toList, ofBytes_data]
def piecesB (c : UInt8) (s : ByteArray) : List ByteArray := (cuts c s.data.toList []).map ofBytes

theorem cuts_free (c : UInt8) : ∀ (a cur : List UInt8), c ∉ a → cuts c a cur = [cur ++ a]
  | [], cur, _ => by rw [cuts, List.append_nil]
  | b :: r, cur, h => by
    rw [cuts, if_neg (fun e : b = c => h (by rw [e]; exact List.mem_cons_self ..)), cuts_free c r _ (fun hm => h (List.mem_cons_of_mem _ hm)), List.append_assoc]
    rfl
theorem cuts_hit (c : UInt8) (r : List UInt8) : ∀ (a cur : List UInt8), c ∉ a → cuts c (a ++ c :: r) cur = (cur ++ a) :: cuts c r []
  | [], cur, _ => by rw [List.nil_append, cuts, if_pos rfl, List.append_nil]
  | b :: a, cur, h => by
    rw [List.cons_append, cuts, if_neg (fun e : b = c => h (by rw [e]; exact List.mem_cons_self ..)), cuts_hit c r a _ (fun hm => h (List.mem_cons_of_mem _ hm)), List.append_assoc]
    rfl
theorem cuts_length (c : UInt8) : ∀ (l cur : List UInt8), (cuts c l cur).length ≤ l.length + 1
  | [], cur => by simp [cuts]
  | b :: r, cur => by
    rw [cuts]
    split
    · have := cuts_length c r []
      simp only [List.length_cons]
      omega
    · have := cuts_length c r (cur ++ [b])
      simp only [List.length_cons]
      omega
/-- All bytes are in the pieces, but for the cuts. -/
theorem cuts_total (c : UInt8) : ∀ (l cur : List UInt8), ((cuts c l cur).map List.length).sum + (cuts c l cur).length = cur.length + l.length + 1
  | [], cur => by simp [cuts]
  | b :: r, cur => by
    rw [cuts]
    split
    · have := cuts_total c r []
      simp only [List.map_cons, List.sum_cons, List.length_cons, List.length_nil] at this ⊢
      omega
    · have := cuts_total c r (cur ++ [b])
      simp only [List.length_append, List.length_cons, List.length_nil] at this ⊢
      omega
theorem piecesB_length (c : UInt8) (s : ByteArray) : (piecesB c s).length ≤ s.size + 1 := by
  unfold piecesB
  rw [List.length_map, ← size_toList]
  exact cuts_length c _ _
theorem piecesB_size (c : UInt8) (s : ByteArray) : ∀ p ∈ piecesB c s, p.size ≤ s.size := by
  intro p hp
  unfold piecesB at hp
  obtain ⟨l, hl, rfl⟩ := List.mem_map.1 hp
  have ht := cuts_total c s.data.toList []
  have h1 : l.length ≤ ((cuts c s.data.toList []).map List.length).sum := by
    have : ∀ (L : List (List UInt8)), l ∈ L → l.length ≤ (L.map List.length).sum := by
      intro L
      induction L with
      | nil => intro h; cases h
      | cons a L ih =>
        intro h
        rw [List.map_cons, List.sum_cons]
        rcases List.mem_cons.1 h with rfl | h
        · omega
        · have := ih h
          omega
    exact this _ hl
  have h2 : 1 ≤ (cuts c s.data.toList []).length := by
    cases hc : cuts c s.data.toList [] with
    | nil => rw [hc] at hl; cases hl
    | cons a r => simp
  rw [ofBytes_size, ← size_toList]
  simp only [List.length_nil] at ht
  omega

/-! ### the library -/
theorem index_one (c : UInt8) : ∀ l : List UInt8, (Go.Lib.index l [c] = -1 ∧ c ∉ l) ∨ ∃ a r, l = a ++ c :: r ∧ c ∉ a ∧ Go.Lib.index l [c] = (a.length : Int)
  | [] => .inl ⟨by simp [Go.Lib.index], by simp⟩
  | b :: l => by
    by_cases h : b = c
    · subst h
      exact .inr ⟨[], l, rfl, by simp, by rw [Go.Lib.index]; simp [List.isPrefixOf]⟩
    · have hp : ([c] : List UInt8).isPrefixOf (b :: l) = false := by simp [List.isPrefixOf, Ne.symm h]
      have hix : Go.Lib.index (b :: l) [c] = if Go.Lib.index l [c] == -1 then -1 else Go.Lib.index l [c] + 1 := by rw [Go.Lib.index, hp]; simp
      rcases index_one c l with ⟨h1, h2⟩ | ⟨a, r, h1, h2, h3⟩
      · refine .inl ⟨by rw [hix, h1]; rfl, fun hm => ?_⟩
        rcases List.mem_cons.1 hm with e | hm
        · exact h e.symm
        · exact h2 hm
      · refine .inr ⟨b :: a, r, by rw [h1]; rfl, fun hm => ?_, ?_⟩
        · rcases List.mem_cons.1 hm with e | hm
          · exact h e.symm
          · exact h2 hm
        · rw [hix, h3, if_neg (by simp)]
          simp
theorem splitB_one (c : UInt8) (save : Nat) (hs : save ≤ 1) : ∀ (n : Nat) (s : ByteArray), s.size ≤ n →
    (Go.Lib.splitB ⟨#[c]⟩ save (Go.Lib.countB s ⟨#[c]⟩) s).map (·.data.toList) = (if save = 0 then cuts c s.data.toList [] else Go.Lib.splitK [c] save (s.data.toList.count c) s.data.toList) := by
  intro n s hn
  rw [Go.Lib.splitB_data]
  have hc : Go.Lib.countB s ⟨#[c]⟩ = s.data.toList.count c := Go.Lib.count_one c _
  rw [hc]
  by_cases h0 : save = 0
  · subst h0
    rw [if_pos rfl]
    clear hn hc hs
    generalize s.data.toList = l
    suffices H : ∀ (m : Nat) (l : List UInt8), l.length ≤ m → Go.Lib.splitK [c] 0 (l.count c) l = cuts c l [] from H l.length l (Nat.le_refl _)
    intro m
    induction m with
    | zero =>
      intro l hl
      obtain rfl : l = [] := List.length_eq_zero_iff.1 (by omega)
      rfl
    | succ m ih =>
      intro l hl
      rcases index_one c l with ⟨h1, h2⟩ | ⟨a, r, h1, h2, h3⟩
      · rw [cuts_free c l [] h2, List.count_eq_zero_of_not_mem h2]
        rfl
      · have hcount : l.count c = r.count c + 1 := by
          rw [h1, List.count_append, List.count_cons_self, List.count_eq_zero_of_not_mem h2]
          omega
        rw [hcount, Go.Lib.splitK, if_neg (by rw [h3]; simp), h3, h1, cuts_hit c r a [] h2]
        have e1 : (a ++ c :: r).take ((a.length : Int).toNat + 0) = a := by simp
        have e2 : (a ++ c :: r).drop ((a.length : Int).toNat + [c].length) = r := by simp
        rw [e1, e2, ih r (by rw [h1, List.length_append, List.length_cons] at hl; omega)]
        rfl
  · rw [if_neg h0]
theorem split_eq (c : UInt8) (s : ByteArray) (hs : s.size < 4294967281) : strings_Split.f s ⟨#[c]⟩ = some (piecesB c s) := by
  unfold strings_Split.f
  rw [if_pos hs, if_pos (by simp [ByteArray.size])]
  congr 1
  have := splitB_one c 0 (by omega) s.size s (Nat.le_refl _)
  rw [if_pos rfl] at this
  unfold piecesB
  rw [← this, List.map_map]
  have : (ofBytes ∘ fun x : ByteArray => x.data.toList) = id := by
    funext x
    exact ofBytes_of x
  rw [this, List.map_id]

/-! ### the reference -/
theorem extract_data (s : ByteArray) (a b : Nat) : (s.extract a b).data.toList = (s.data.toList.take b).drop a := by
  rw [ByteArray.data_extract, Array.toList_extract]
  simp [List.extract, List.drop_take]
theorem spec_Pa0 (s : ByteArray) (hs : s.size ≤ 1048576) : ∀ (d i f : Nat) (acc : List ByteArray), i + d = s.size → f ≤ i → acc.length ≤ i →
    Ev (fun k => spec_l4Parts.l0 k s acc (f : Int) (i : Int)) (acc ++ (cuts 47 (s.data.toList.drop i) ((s.data.toList.take i).drop f)).map ofBytes)
  | 0, i, f, acc, hd, hf, ha => by
    refine Ev.step (fun k => spec_l4Parts.l0.eq_2 ..) (Ev.neg (by omega) (Ev.pos (by omega) (Ev.pos (by omega) (Ev.pos (by omega) ?_))))
    rw [List.drop_of_length_le (by rw [size_toList]; omega), cuts]
    have : s.extract (f : Int).toNat s.size = ofBytes ((s.data.toList.take i).drop f) := by
      apply ba_ext
      rw [ofBytes_data, extract_data, Int.toNat_natCast, show s.size = i from by omega]
    rw [this]
    exact Ev.now _
  | d + 1, i, f, acc, hd, hf, ha => by
    have hi : i < s.data.toList.length := by rw [size_toList]; omega
    have hb : bt s (i : Int) = (s.data.toList[i].toNat : Int) := by
      rw [bt_getD, List.getD_eq_getElem?_getD, List.getElem?_eq_getElem hi]
      rfl
    have hw : wrap64 ((i : Int) + 1) = ((i + 1 : Nat) : Int) := by rw [w64 (by omega) (by omega)]; omega
    have ht : (s.data.toList.take (i + 1)).drop f = (s.data.toList.take i).drop f ++ [s.data.toList[i]] := by
      rw [List.take_succ_eq_append_getElem hi, List.drop_append_of_le_length (by rw [List.length_take]; omega)]
    refine Ev.step (fun k => spec_l4Parts.l0.eq_2 ..) (Ev.pos (by omega) (Ev.pos (by omega) ?_))
    rw [List.drop_eq_getElem_cons hi, cuts, hb, hw]
    by_cases h : s.data.toList[i] = 47
    · rw [if_pos h]
      refine Ev.pos (by rw [h]; rfl) (Ev.pos (by omega) (Ev.pos (by omega) (Ev.pos (by omega) (Ev.pos (by omega) ?_))))
      have := spec_Pa0 s hs d (i + 1) (i + 1) (acc ++ [s.extract (f : Int).toNat (i : Int).toNat]) (by omega) (by omega) (by simp; omega)
      have e : s.extract (f : Int).toNat (i : Int).toNat = ofBytes ((s.data.toList.take i).drop f) := by
        apply ba_ext
        rw [ofBytes_data, extract_data, Int.toNat_natCast, Int.toNat_natCast]
      rw [e] at this ⊢
      rw [List.drop_of_length_le (l := s.data.toList.take (i + 1)) (by rw [List.length_take]; omega)] at this
      simpa using this
    · rw [if_neg h]
      refine Ev.neg (fun e => h (UInt8.toNat_inj.1 (by have : (47 : UInt8).toNat = 47 := rfl; omega))) ?_
      have := spec_Pa0 s hs d (i + 1) f acc (by omega) (by omega) (by omega)
      rwa [ht] at this
theorem spec_parts_ev (s : ByteArray) (hs : s.size ≤ 1048576) : Ev (fun k => spec_l4Parts.f k s) (piecesB 47 s) := by
  unfold spec_l4Parts.f piecesB
  have := spec_Pa0 s hs s.size 0 0 [] (by omega) (by omega) (by simp)
  simpa using this

end Go.Proofs.YtkdghhkpmkfjhaaDoor.Pure
