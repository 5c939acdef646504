/- Lines of a text, in the reference and in the program; marks. Conditions: sizes. -/
import Derived.Test.YtgaibeckblmbbaaDoorPImplLines
import Derived.Test.YtgaibeckblmbbaaDoorPLawsFnExactLines
import Derived.Test.YtgaibeckblmbbaaDoorPSpecLines
import Derived.Test.YtgaibeckblmbbaaDoorCuts
namespace Go.Proofs.YtgaibeckblmbbaaDoor.Pure
open Go Go.RowKit Go.Proofs.YtgaibeckblmbbaaDoor.P Go.Proofs.YtgaibeckblmbbaaDoorW.PrintWords Go.Proofs.YtgaibeckblmbbaaDoorW.PrintLast
set_option linter.unusedVariables false
set_option linter.unusedSimpArgs false

/-- The bytes, cut behind each c; what is left stands last, be it empty. -/
def behind (c : UInt8) : List UInt8 → List UInt8 → List (List UInt8)
  | [], cur => [cur]
  | b :: r, cur => if b = c then (cur ++ [b]) :: behind c r [] else behind c r (cur ++ [b])
def cutEnd (L : List (List UInt8)) : List (List UInt8) := if L.getLast? = some [] then L.dropLast else L
theorem behind_free (c : UInt8) : ∀ (a cur : List UInt8), c ∉ a → behind c a cur = [cur ++ a]
  | [], cur, _ => by rw [behind, List.append_nil]
  | b :: r, cur, h => by
    rw [behind, if_neg (fun e : b = c => h (by rw [e]; exact List.mem_cons_self ..)), behind_free c r _ (fun hm => h (List.mem_cons_of_mem _ hm)), List.append_assoc]
    rfl
theorem behind_hit (c : UInt8) (r : List UInt8) : ∀ (a cur : List UInt8), c ∉ a → behind c (a ++ c :: r) cur = (cur ++ a ++ [c]) :: behind c r []
  | [], cur, _ => by rw [List.nil_append, behind, if_pos rfl, List.append_nil]
  | b :: a, cur, h => by
    rw [List.cons_append, behind, if_neg (fun e : b = c => h (by rw [e]; exact List.mem_cons_self ..)), behind_hit c r a _ (fun hm => h (List.mem_cons_of_mem _ hm)), List.append_assoc cur [b] a]
    rfl
theorem behind_ne (c : UInt8) : ∀ (l cur : List UInt8), behind c l cur ≠ []
  | [], cur => by simp [behind]
  | b :: r, cur => by
    rw [behind]
    split
    · simp
    · exact behind_ne c r _
theorem behind_length (c : UInt8) : ∀ (l cur : List UInt8), (behind c l cur).length ≤ l.length + 1
  | [], cur => by simp [behind]
  | b :: r, cur => by
    rw [behind]
    split
    · have := behind_length c r []
      simp only [List.length_cons]
      omega
    · have := behind_length c r (cur ++ [b])
      simp only [List.length_cons]
      omega
theorem splitK_behind (c : UInt8) : ∀ (m : Nat) (l : List UInt8), l.length ≤ m → Go.Lib.splitK [c] 1 (l.count c) l = behind c l [] := by
  intro m
  induction m with
  | zero =>
    intro l hl
    obtain rfl : l = [] := List.length_eq_zero_iff.1 (by omega)
    rfl
  | succ m ih =>
    intro l hl
    rcases index_one c l with ⟨h1, h2⟩ | ⟨a, r, h1, h2, h3⟩
    · rw [behind_free c l [] h2, List.count_eq_zero_of_not_mem h2]
      rfl
    · have hcount : l.count c = r.count c + 1 := by
        rw [h1, List.count_append, List.count_cons_self, List.count_eq_zero_of_not_mem h2]
        omega
      rw [hcount, Go.Lib.splitK, if_neg (by rw [h3]; simp), h3, h1, behind_hit c r a [] h2]
      have e1 : (a ++ c :: r).take ((a.length : Int).toNat + 1) = a ++ [c] := by
        rw [Int.toNat_natCast, List.take_append, List.take_of_length_le (by omega), Nat.add_sub_cancel_left]
        rfl
      have e2 : (a ++ c :: r).drop ((a.length : Int).toNat + [c].length) = r := by simp
      rw [e1, e2, ih r (by rw [h1, List.length_append, List.length_cons] at hl; omega)]
      rfl
def behindB (c : UInt8) (s : ByteArray) : List ByteArray := (behind c s.data.toList []).map ofBytes
theorem splitAfter_eq (c : UInt8) (s : ByteArray) (hs : s.size < 4294967281) : strings_SplitAfter.f s ⟨#[c]⟩ = some (behindB c s) := by
  unfold strings_SplitAfter.f
  rw [if_pos hs, if_pos (by simp [ByteArray.size])]
  congr 1
  have := splitB_one c 1 (by omega) s.size s (Nat.le_refl _)
  rw [if_neg (by omega), splitK_behind c _ _ (Nat.le_refl _)] at this
  unfold behindB
  rw [← this, List.map_map]
  have : (ofBytes ∘ fun x : ByteArray => x.data.toList) = id := by
    funext x
    exact ofBytes_of x
  rw [this, List.map_id]
  rfl
def lines (s : ByteArray) : List ByteArray := if (s.size : Int) > 1500 then [] else (cutEnd (behind 10 s.data.toList [])).map ofBytes

theorem spec_Ln0 (s : ByteArray) (hs : s.size ≤ 1500) : ∀ (d i f : Nat) (acc : List ByteArray), i + d = s.size → f ≤ i → acc.length ≤ i →
    Ev (fun k => spec_Lines.l0 k s acc (f : Int) (i : Int)) (acc ++ (cutEnd (behind 10 (s.data.toList.drop i) ((s.data.toList.take i).drop f))).map ofBytes)
  | 0, i, f, acc, hd, hf, ha => by
    refine Ev.step (fun k => spec_Lines.l0.eq_2 ..) (Ev.neg (by omega) ?_)
    rw [List.drop_of_length_le (by rw [size_toList]; omega), behind]
    unfold cutEnd
    rw [List.getLast?_singleton]
    by_cases h : (f : Int) < (s.size : Int)
    · have hne : (s.data.toList.take i).drop f ≠ [] := by
        intro e
        have := congrArg List.length e
        rw [List.length_drop, List.length_take, size_toList, List.length_nil] at this
        omega
      rw [if_neg (fun e => hne (Option.some.inj e))]
      refine Ev.pos h (Ev.pos (by omega) (Ev.pos (by omega) (Ev.pos (by omega) ?_)))
      have : s.extract (f : Int).toNat s.size = ofBytes ((s.data.toList.take i).drop f) := by
        apply ba_ext
        rw [ofBytes_data, extract_data, Int.toNat_natCast, show s.size = i from by omega]
      rw [this]
      exact Ev.now _
    · have he : (s.data.toList.take i).drop f = [] := List.drop_of_length_le (by rw [List.length_take, size_toList]; omega)
      rw [he, if_pos rfl]
      refine Ev.neg h ?_
      simp only [List.dropLast_singleton, List.map_nil, List.append_nil]
      exact Ev.now _
  | d + 1, i, f, acc, hd, hf, ha => by
    have hi : i < s.data.toList.length := by rw [size_toList]; omega
    have hb : bt s (i : Int) = (s.data.toList[i].toNat : Int) := by
      rw [bt_getD, List.getD_eq_getElem?_getD, List.getElem?_eq_getElem hi]
      rfl
    have hw : wrap64 ((i : Int) + 1) = ((i + 1 : Nat) : Int) := by rw [w64 (by omega) (by omega)]; omega
    have ht : (s.data.toList.take (i + 1)).drop f = (s.data.toList.take i).drop f ++ [s.data.toList[i]] := by
      rw [List.take_succ_eq_append_getElem hi, List.drop_append_of_le_length (by rw [List.length_take]; omega)]
    refine Ev.step (fun k => spec_Lines.l0.eq_2 ..) (Ev.pos (by omega) (Ev.pos (by omega) ?_))
    rw [List.drop_eq_getElem_cons hi, behind, hb, hw]
    by_cases h : s.data.toList[i] = 10
    · rw [if_pos h]
      refine Ev.pos (by rw [h]; rfl) (Ev.pos (by omega) (Ev.pos (by omega) (Ev.pos (by omega) (Ev.pos (by omega) ?_))))
      have := spec_Ln0 s hs d (i + 1) (i + 1) (acc ++ [s.extract (f : Int).toNat ((i + 1 : Nat) : Int).toNat]) (by omega) (by omega) (by simp; omega)
      have e : s.extract (f : Int).toNat ((i + 1 : Nat) : Int).toNat = ofBytes ((s.data.toList.take i).drop f ++ [s.data.toList[i]]) := by
        apply ba_ext
        rw [ofBytes_data, extract_data, Int.toNat_natCast, Int.toNat_natCast, ht]
      rw [e] at this ⊢
      rw [List.drop_of_length_le (l := s.data.toList.take (i + 1)) (by rw [List.length_take]; omega)] at this
      have hc : cutEnd (((s.data.toList.take i).drop f ++ [s.data.toList[i]]) :: behind 10 (s.data.toList.drop (i + 1)) []) = ((s.data.toList.take i).drop f ++ [s.data.toList[i]]) :: cutEnd (behind 10 (s.data.toList.drop (i + 1)) []) := by
        have hn := behind_ne 10 (s.data.toList.drop (i + 1)) []
        revert hn
        generalize behind 10 (s.data.toList.drop (i + 1)) [] = L
        intro hn
        unfold cutEnd
        cases L with
        | nil => exact absurd rfl hn
        | cons x L =>
          rw [List.getLast?_cons_cons]
          split <;> rfl
      rw [hc]
      simpa using this
    · rw [if_neg h]
      refine Ev.neg (fun e => h (UInt8.toNat_inj.1 (by have : (10 : UInt8).toNat = 10 := rfl; omega))) ?_
      have := spec_Ln0 s hs d (i + 1) f acc (by omega) (by omega) (by omega)
      rwa [ht] at this
theorem spec_Lines_ev (s : ByteArray) : Ev (fun k => spec_Lines.f k s) (lines s) := by
  unfold spec_Lines.f lines
  refine Ev.sb ?_
  by_cases h : (s.size : Int) > 1500
  · rw [if_pos h]
    exact Ev.pos h (Ev.now _)
  · rw [if_neg h]
    have := spec_Ln0 s (by omega) s.size 0 0 [] (by omega) (by omega) (by simp)
    exact Ev.neg h (by simpa using this)

end Go.Proofs.YtgaibeckblmbbaaDoor.Pure
