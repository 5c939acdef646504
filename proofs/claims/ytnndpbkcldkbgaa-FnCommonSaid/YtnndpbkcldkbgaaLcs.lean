/- The length of a longest common list, told from the front and from the back. No condition. -/
import Derived.Test.YtnndpbkcldkbgaaLongest
namespace Go.Proofs.Ytnndpbkcldkbgaa.Pure
open Go Go.RowKit
set_option linter.unusedVariables false
set_option linter.unusedSimpArgs false

def L2 : List ByteArray → List ByteArray → Nat
  | [], _ => 0
  | _ :: _, [] => 0
  | x :: xs, y :: ys => if x = y then L2 xs ys + 1 else max (L2 xs (y :: ys)) (L2 (x :: xs) ys)
termination_by a b => a.length + b.length
theorem L2_upper : ∀ (d : Nat) (xs ys zs : List ByteArray), xs.length + ys.length ≤ d → zs.Sublist xs → zs.Sublist ys → zs.length ≤ L2 xs ys
  | _, [], ys, zs, _, h1, _ => by
    rw [List.sublist_nil.1 h1]
    simp
  | _, _ :: _, [], zs, _, _, h2 => by
    rw [List.sublist_nil.1 h2]
    simp
  | 0, _ :: _, _ :: _, _, hd, _, _ => by simp at hd
  | d + 1, x :: xs, y :: ys, [], _, _, _ => by simp
  | d + 1, x :: xs, y :: ys, z :: zs, hd, h1, h2 => by
    simp only [List.length_cons] at hd
    unfold L2
    split
    · rename_i hxy
      have t1 : zs.Sublist xs := List.Sublist.of_cons_cons (by
        rcases List.sublist_cons_iff.1 h1 with h | ⟨r, hr, h⟩
        · exact ((List.sublist_cons_self z zs).trans h).cons_cons z
        · injection hr with e1 e2
          subst e1 e2
          exact h.cons_cons z)
      have t2 : zs.Sublist ys := List.Sublist.of_cons_cons (by
        rcases List.sublist_cons_iff.1 h2 with h | ⟨r, hr, h⟩
        · exact ((List.sublist_cons_self z zs).trans h).cons_cons z
        · injection hr with e1 e2
          subst e1 e2
          exact h.cons_cons z)
      have := L2_upper d xs ys zs (by omega) t1 t2
      simp only [List.length_cons]
      omega
    · rename_i hxy
      by_cases hz : z = x
      · have h3 : (z :: zs).Sublist ys := by
          rcases List.sublist_cons_iff.1 h2 with h | ⟨r, hr, h⟩
          · exact h
          · injection hr with e1 _
            exact absurd (hz.symm.trans e1) hxy
        have := L2_upper d (x :: xs) ys (z :: zs) (by simp only [List.length_cons]; omega) h1 h3
        omega
      · have h3 : (z :: zs).Sublist xs := by
          rcases List.sublist_cons_iff.1 h1 with h | ⟨r, hr, h⟩
          · exact h
          · injection hr with e1 _
            exact absurd e1 hz
        have := L2_upper d xs (y :: ys) (z :: zs) (by simp only [List.length_cons]; omega) h3 h2
        omega
theorem L2_there : ∀ (d : Nat) (xs ys : List ByteArray), xs.length + ys.length ≤ d → ∃ zs : List ByteArray, zs.Sublist xs ∧ zs.Sublist ys ∧ zs.length = L2 xs ys
  | _, [], ys, _ => ⟨[], List.Sublist.refl _, List.nil_sublist _, by simp [L2]⟩
  | _, _ :: _, [], _ => ⟨[], List.nil_sublist _, List.Sublist.refl _, by simp [L2]⟩
  | 0, _ :: _, _ :: _, hd => by simp at hd
  | d + 1, x :: xs, y :: ys, hd => by
    simp only [List.length_cons] at hd
    unfold L2
    split
    · rename_i hxy
      obtain ⟨zs, h1, h2, h3⟩ := L2_there d xs ys (by omega)
      subst hxy
      exact ⟨x :: zs, h1.cons_cons x, h2.cons_cons x, by simp [h3]⟩
    · obtain ⟨zs, h1, h2, h3⟩ := L2_there d xs (y :: ys) (by simp only [List.length_cons]; omega)
      obtain ⟨vs, g1, g2, g3⟩ := L2_there d (x :: xs) ys (by simp only [List.length_cons]; omega)
      by_cases hm : L2 xs (y :: ys) ≤ L2 (x :: xs) ys
      · exact ⟨vs, g1, g2.cons y, by rw [g3]; omega⟩
      · exact ⟨zs, h1.cons x, h2, by rw [h3]; omega⟩
theorem L2_le_rev (xs ys : List ByteArray) : L2 xs ys ≤ L2 xs.reverse ys.reverse := by
  obtain ⟨zs, h1, h2, h3⟩ := L2_there _ xs ys (Nat.le_refl _)
  have := L2_upper _ xs.reverse ys.reverse zs.reverse (Nat.le_refl _) (List.reverse_sublist.2 h1) (List.reverse_sublist.2 h2)
  rw [List.length_reverse, h3] at this
  exact this
/-- From the front and from the back it is the same. -/
theorem L2_rev (xs ys : List ByteArray) : L2 xs.reverse ys.reverse = L2 xs ys := by
  have h1 := L2_le_rev xs ys
  have h2 := L2_le_rev xs.reverse ys.reverse
  rw [List.reverse_reverse, List.reverse_reverse] at h2
  omega
theorem tail_sub {z x : ByteArray} {zs xs : List ByteArray} (h : (z :: zs).Sublist (x :: xs)) : zs.Sublist xs := List.Sublist.of_cons_cons (by
  rcases List.sublist_cons_iff.1 h with h | ⟨r, hr, h⟩
  · exact ((List.sublist_cons_self z zs).trans h).cons_cons z
  · injection hr with e1 e2
    subst e1 e2
    exact h.cons_cons z)
theorem L2_more1 (x : ByteArray) (xs ys : List ByteArray) : L2 (x :: xs) ys ≤ L2 xs ys + 1 := by
  obtain ⟨zs, h1, h2, h3⟩ := L2_there _ (x :: xs) ys (Nat.le_refl _)
  rw [← h3]
  cases zs with
  | nil => simp
  | cons z zs =>
    have := L2_upper _ xs ys zs (Nat.le_refl _) (tail_sub h1) ((List.sublist_cons_self z zs).trans h2)
    simp only [List.length_cons]
    omega
theorem L2_more2 (y : ByteArray) (xs ys : List ByteArray) : L2 xs (y :: ys) ≤ L2 xs ys + 1 := by
  obtain ⟨zs, h1, h2, h3⟩ := L2_there _ xs (y :: ys) (Nat.le_refl _)
  rw [← h3]
  cases zs with
  | nil => simp
  | cons z zs =>
    have := L2_upper _ xs ys zs (Nat.le_refl _) ((List.sublist_cons_self z zs).trans h1) (tail_sub h2)
    simp only [List.length_cons]
    omega
theorem L2_comm_step {x y : ByteArray} {xs ys : List ByteArray} : L2 (x :: xs) (y :: ys) = if x = y then L2 xs ys + 1 else max (L2 xs (y :: ys)) (L2 (x :: xs) ys) := by
  conv => lhs; unfold L2
/-- The table of Longest.lean is it, from a place on. -/
theorem lc_L2 (a b : List ByteArray) : ∀ (d i j : Nat), (a.length - i) + (b.length - j) ≤ d → lc a b i j = L2 (a.drop i) (b.drop j)
  | d, i, j, hd => by
    by_cases h : i < a.length
    · by_cases h' : j < b.length
      · match d, hd with
        | 0, hd => omega
        | d + 1, hd =>
          rw [lc_in h h', List.drop_eq_getElem_cons h, List.drop_eq_getElem_cons h', L2_comm_step, ← List.drop_eq_getElem_cons h, ← List.drop_eq_getElem_cons h', lc_L2 a b d (i + 1) (j + 1) (by omega), lc_L2 a b d (i + 1) j (by omega), lc_L2 a b d i (j + 1) (by omega)]
          have m1 := L2_more1 a[i] (a.drop (i + 1)) (b.drop (j + 1))
          have m2 := L2_more2 b[j] (a.drop (i + 1)) (b.drop (j + 1))
          rw [← List.drop_eq_getElem_cons h] at m1
          rw [← List.drop_eq_getElem_cons h'] at m2
          repeat (first | split | omega)
      · rw [lc_out2 (by omega), List.drop_of_length_le (by omega : b.length ≤ j), List.drop_eq_getElem_cons h]
        unfold L2
        rfl
    · rw [lc_out1 (by omega), List.drop_of_length_le (by omega : a.length ≤ i)]
      unfold L2
      rfl
/-- .. from the front. -/
def pf (a b : List ByteArray) (i j : Nat) : Nat := L2 (a.take i).reverse (b.take j).reverse
theorem pf_zero1 (a b : List ByteArray) (j : Nat) : pf a b 0 j = 0 := by
  unfold pf
  simp [L2]
theorem pf_zero2 (a b : List ByteArray) (i : Nat) : pf a b i 0 = 0 := by
  unfold pf
  cases h : (a.take i).reverse <;> simp [L2]
theorem pf_step {a b : List ByteArray} {i j : Nat} (h : i < a.length) (h' : j < b.length) : pf a b (i + 1) (j + 1) = if a[i] = b[j] then pf a b i j + 1 else max (pf a b i (j + 1)) (pf a b (i + 1) j) := by
  unfold pf
  rw [List.take_succ_eq_append_getElem h, List.take_succ_eq_append_getElem h']
  simp only [List.reverse_append, List.reverse_cons, List.reverse_nil, List.nil_append, List.singleton_append]
  exact L2_comm_step
theorem pf_full (a b : List ByteArray) : pf a b a.length b.length = lc a b 0 0 := by
  unfold pf
  rw [List.take_length, List.take_length, L2_rev, lc_L2 a b _ 0 0 (Nat.le_refl _), List.drop_zero, List.drop_zero]
theorem pf_le (a b : List ByteArray) (i j : Nat) : pf a b i j ≤ j := by
  obtain ⟨zs, _, h2, h3⟩ := L2_there _ (a.take i).reverse (b.take j).reverse (Nat.le_refl _)
  unfold pf
  rw [← h3]
  have := h2.length_le
  rw [List.length_reverse, List.length_take] at this
  omega

end Go.Proofs.Ytnndpbkcldkbgaa.Pure
