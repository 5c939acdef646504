/- What Encode computes, in the reference and in the program. Conditions: sizes. -/
import Derived.Test.YtgaibeckblmbbaaPImplEncode
import Derived.Test.YtgaibeckblmbbaaPSpecEncode
import Derived.Test.YtgaibeckblmbbaaPSpecL2Text
import Derived.Test.YtgaibeckblmbbaaSum
import Derived.Test.YtgaibeckblmbbaaShort
import Derived.Test.YtgaibeckblmbbaaTexts
namespace Go.Proofs.Ytgaibeckblmbbaa.Pure
open Go Go.RowKit Go.Proofs.Ytgaibeckblmbbaa.P Go.Proofs.YtgaibeckblmbbaaW.PrintWords Go.Proofs.YtgaibeckblmbbaaW.PrintLast
set_option linter.unusedVariables false
set_option linter.unusedSimpArgs false

def frame (p : ByteArray) (w : Int) : ByteArray := shortS p.size ++ p ++ sumOf p w
def encFrom (w : Int) : List ByteArray → ByteArray → ByteArray
  | [], acc => acc
  | p :: r, acc => if 1 ≤ (p.size : Int) ∧ (p.size : Int) ≤ 1000 then encFrom w r (acc ++ frame p w) else ⟨#[]⟩
def encode (l : List ByteArray) (w : Int) : ByteArray := if (1 ≤ w ∧ w ≤ 8) ∧ l.length ≤ 500 then encFrom w l ⟨#[]⟩ else ⟨#[]⟩
theorem frame_size (p : ByteArray) (w : Int) (hp : p.size ≤ 1000) : (frame p w).size ≤ 1018 := by
  unfold frame
  rw [ByteArray.size_append, ByteArray.size_append]
  have := shortS_size p.size (by omega)
  have := sumOf_size p w
  omega
theorem l2Text_ev (p : ByteArray) (hp : p.size ≤ 140737488351232) : Ev (fun k => spec_l2Text.f k p) (shortS p.size ++ p) := by
  unfold spec_l2Text.f
  rw [u64_in (by omega) (by omega)]
  have := shortS_size p.size (by omega)
  exact Ev.bind (spec_short_ev p.size (by omega)) (Ev.pos (by omega) (Ev.now _))
theorem spec_En0 (l : List ByteArray) (hz : ∀ s ∈ l, s.size ≤ 140737488351232) (w : Int) (hl : l.length ≤ 500) : ∀ (d i : Nat) (x5 : List Int), i + d = l.length → x5.length ≤ 1018 * i →
    Ev (fun k => spec_Encode.l0 k l w x5 (i : Int)) (encFrom w (l.drop i) (strOfNums x5))
  | 0, i, x5, hd, hx => by
    refine Ev.step (fun k => spec_Encode.l0.eq_2 ..) (Ev.neg (by omega) ?_)
    rw [List.drop_of_length_le (by omega), encFrom]
    exact Ev.now _
  | d + 1, i, x5, hd, hx => by
    have hi : i < l.length := by omega
    refine Ev.step (fun k => spec_Encode.l0.eq_2 ..) (Ev.pos (by omega) (Ev.pos (by omega) ?_))
    rw [rd_eq _ hi, in_eq, List.drop_eq_getElem_cons hi, encFrom]
    have hz1 := hz l[i] (List.getElem_mem hi)
    refine Ev.sb ?_
    by_cases h : 1 ≤ (l[i].size : Int) ∧ (l[i].size : Int) ≤ 1000
    · rw [if_pos h]
      have s1 := shortS_size l[i].size (by omega)
      have s2 := sumOf_size l[i] w
      refine Ev.pos (decide_eq_true h) (Ev.bind (l2Text_ev l[i] hz1) (Ev.pos (by rw [ByteArray.size_append]; omega) (Ev.sb (Ev.bind (ev_of _ (fun k hk => spec_Sum_eq l[i] hz1 w k hk)) (Ev.pos (by rw [List.length_append, bytesOf_len, ByteArray.size_append]; omega) ?_)))))
      rw [w64 (by omega) (by omega), show (i : Int) + 1 = ((i + 1 : Nat) : Int) from by omega]
      have := spec_En0 l hz w hl d (i + 1) (x5 ++ bytesOf (shortS l[i].size ++ l[i]) ++ bytesOf (sumOf l[i] w)) (by omega) (by rw [List.length_append, List.length_append, bytesOf_len, bytesOf_len, ByteArray.size_append]; omega)
      rw [son_append, son_append, son_bytesOf, son_bytesOf, ba_assoc] at this
      exact this
    · rw [if_neg h]
      exact Ev.neg (by simpa using h) (Ev.now _)
theorem spec_Encode_ev (l : List ByteArray) (hz : ∀ s ∈ l, s.size ≤ 140737488351232) (w : Int) : Ev (fun k => spec_Encode.f k l w) (encode l w) := by
  unfold spec_Encode.f encode
  rw [in_eq]
  refine Ev.sb ?_
  by_cases hw : 1 ≤ w ∧ w ≤ 8
  · refine Ev.pos (decide_eq_true hw) (Ev.step (fun k => spec_Encode.j0.eq_2 ..) ?_)
    by_cases hl : l.length ≤ 500
    · rw [if_pos ⟨hw, hl⟩]
      exact Ev.neg (by simp; omega) (spec_En0 l hz w hl l.length 0 [] (by omega) (by simp))
    · rw [if_neg (fun h => hl h.2)]
      exact Ev.pos (by simp; omega) (Ev.now _)
  · rw [if_neg (fun h => hw h.1)]
    exact Ev.neg (by simpa using hw) (Ev.step (fun k => spec_Encode.j0.eq_2 ..) (Ev.pos rfl (Ev.now _)))

theorem impl_En0 (w : Int) : ∀ (l : List ByteArray) (_ : ∀ s ∈ l, s.size ≤ 140737488351232) (acc : ByteArray), acc.size + 1018 * l.length ≤ 1000000 → Ev (fun k => impl_Encode.l0 k w l acc) (encFrom w l acc)
  | [], _, acc, _ => Ev.now _
  | p :: r, hz, acc, ha => by
    have hz1 := hz p (List.mem_cons_self ..)
    have s1 := shortS_size p.size (by omega)
    have s2 := sumOf_size p w
    have e : ∀ k, impl_Encode.l0 k w (p :: r) acc = ((impl_in.f (p.size : Int) 1 1000).bind fun t => if t = true then (impl_short.f k (IntKind.u64.wrap (p.size : Int))).bind fun s => (impl_Sum.f k p w).bind fun u => if acc.size + ((s ++ p) ++ u).size ≤ 140737488355328 then impl_Encode.l0 k w r (acc ++ ((s ++ p) ++ u)) else none else some ⟨#[]⟩) := fun k => rfl
    refine Ev.congr e ?_
    rw [impl_in_eq, encFrom, u64_in (by omega) (by omega)]
    refine Ev.sb ?_
    rw [List.length_cons] at ha
    by_cases h : 1 ≤ (p.size : Int) ∧ (p.size : Int) ≤ 1000
    · rw [if_pos h]
      refine Ev.pos (decide_eq_true h) (Ev.bind (impl_short_ev p.size (by omega)) (Ev.bind (ev_of _ (fun k hk => impl_Sum_eq p hz1 w k hk)) (Ev.pos (by rw [ByteArray.size_append, ByteArray.size_append]; omega) ?_)))
      refine impl_En0 w r (fun s hs => hz s (List.mem_cons_of_mem _ hs)) _ ?_
      rw [ByteArray.size_append, ByteArray.size_append, ByteArray.size_append]
      omega
    · rw [if_neg h]
      exact Ev.neg (by simpa using h) (Ev.now _)
theorem impl_Encode_ev (l : List ByteArray) (hz : ∀ s ∈ l, s.size ≤ 140737488351232) (w : Int) : Ev (fun k => impl_Encode.f k l w) (encode l w) := by
  unfold impl_Encode.f encode
  rw [impl_in_eq]
  refine Ev.sb ?_
  by_cases hw : 1 ≤ w ∧ w ≤ 8
  · refine Ev.pos (decide_eq_true hw) ?_
    by_cases hl : l.length ≤ 500
    · rw [if_pos ⟨hw, hl⟩]
      exact Ev.neg (by omega) (impl_En0 w l hz _ (by have : (⟨#[]⟩ : ByteArray).size = 0 := rfl; omega))
    · rw [if_neg (fun h => hl h.2)]
      exact Ev.pos (by omega) (Ev.now _)
  · rw [if_neg (fun h => hw h.1)]
    exact Ev.neg (by simpa using hw) (Ev.now _)

end Go.Proofs.Ytgaibeckblmbbaa.Pure
