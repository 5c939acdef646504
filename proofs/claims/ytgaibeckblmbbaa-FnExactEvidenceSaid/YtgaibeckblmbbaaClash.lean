/- What Clash computes, in the reference and in the program: the first pair of different texts with one sum. Conditions: the texts' own sizes. -/
import Derived.Test.YtgaibeckblmbbaaPImplClash
import Derived.Test.YtgaibeckblmbbaaPSpecClash
import Derived.Test.YtgaibeckblmbbaaSum
namespace Go.Proofs.Ytgaibeckblmbbaa.Pure
open Go Go.RowKit Go.Proofs.Ytgaibeckblmbbaa.P Go.Proofs.YtgaibeckblmbbaaW.PrintWords Go.Proofs.YtgaibeckblmbbaaW.PrintLast
set_option linter.unusedVariables false
set_option linter.unusedSimpArgs false

abbrev at_ (l : List ByteArray) (i : Nat) : ByteArray := rdOf ByteArray.empty l (i : Int)
theorem at_getD (l : List ByteArray) (i : Nat) : at_ l i = l.getD i ByteArray.empty := by simp [at_, rdOf]
theorem at_mem {l : List ByteArray} {i : Nat} (h : i < l.length) : at_ l i ∈ l := by
  rw [at_getD, List.getD_eq_getElem?_getD, List.getElem?_eq_getElem h]
  exact List.getElem_mem h
theorem at_eq {l : List ByteArray} {i : Nat} (h : i < l.length) : at_ l i = l[i] := by
  rw [at_getD, List.getD_eq_getElem?_getD, List.getElem?_eq_getElem h]
  rfl

/-- Two different texts with one sum. -/
def Pair (l : List ByteArray) (w : Int) (i j : Nat) : Prop := (sumOf (at_ l i) w).toList = (sumOf (at_ l j) w).toList ∧ ¬ (at_ l i).toList = (at_ l j).toList
instance (l : List ByteArray) (w : Int) (i j : Nat) : Decidable (Pair l w i j) := by unfold Pair; exact inferInstance
def clI (l : List ByteArray) (w : Int) (j : Nat) : Nat → Nat → Option (ByteArray × ByteArray × Bool)
  | 0, _ => none
  | d + 1, i => if Pair l w i j then some (at_ l i, at_ l j, true) else clI l w j d (i + 1)
def clJ (l : List ByteArray) (w : Int) : Nat → Nat → ByteArray × ByteArray × Bool
  | 0, _ => (⟨#[]⟩, ⟨#[]⟩, false)
  | d + 1, j => (clI l w j j 0).getD (clJ l w d (j + 1))
def clash (l : List ByteArray) (w : Int) : ByteArray × ByteArray × Bool :=
  if (1 ≤ w ∧ w ≤ 8) ∧ l.length ≤ 3000 then clJ l w l.length 0 else (⟨#[]⟩, ⟨#[]⟩, false)

def Sized (l : List ByteArray) : Prop := ∀ s ∈ l, s.size ≤ 140737488351232
/-! ### the reference's -/
theorem spec_Cl1 (l : List ByteArray) (w : Int) (hl : l.length ≤ 3000) (x7 : List ByteArray) (j : Nat) (hj : j < l.length) (h7 : x7.length = j) (hs : ∀ i, i < j → at_ x7 i = sumOf (at_ l i) w) (r : ByteArray × ByteArray × Bool)
    (hr : Ev (fun k => spec_Clash.l0 k l w (x7 ++ [sumOf (at_ l j) w]) ((j + 1 : Nat) : Int)) r) :
    ∀ (d i : Nat), i + d = j → Ev (fun k => spec_Clash.l1 k l w x7 (j : Int) (sumOf (at_ l j) w) (i : Int)) ((clI l w j d i).getD r)
  | 0, i, hd => by
    refine Ev.step (f := fun k => spec_Clash.l0 k l w (x7 ++ [sumOf (at_ l j) w]) ((j + 1 : Nat) : Int)) (fun k => ?_) hr
    simp only [spec_Clash.l1]
    rw [if_neg (by omega), if_pos (by omega), w64 (by omega) (by omega)]
    rfl
  | d + 1, i, hd => by
    have e1 : (rdOf ByteArray.empty x7 (i : Int)) = sumOf (at_ l i) w := hs i (by omega)
    have step : ∀ k, spec_Clash.l1 (k + 1) l w x7 (j : Int) (sumOf (at_ l j) w) (i : Int) = if Pair l w i j then some (at_ l i, at_ l j, true) else spec_Clash.l1 k l w x7 (j : Int) (sumOf (at_ l j) w) ((i + 1 : Nat) : Int) := by
      intro k
      simp only [spec_Clash.l1]
      rw [if_pos (by omega), if_pos (by omega), if_pos (by omega), e1, w64 (by omega) (by omega), show (i : Int) + 1 = ((i + 1 : Nat) : Int) from by omega]
      by_cases h1 : (sumOf (at_ l i) w).toList = (sumOf (at_ l j) w).toList
      · rw [if_pos h1, if_pos (by omega), if_pos (by omega), if_pos (by omega)]
        by_cases h2 : (at_ l i).toList = (at_ l j).toList
        · rw [if_pos h2, if_neg (fun h => h.2 h2)]
        · rw [if_neg h2, if_pos ⟨h1, h2⟩]
      · rw [if_neg h1, if_neg (fun h => h1 h.1)]
    by_cases hp : Pair l w i j
    · refine Ev.step (f := fun _ => some (at_ l i, at_ l j, true)) (fun k => by rw [step, if_pos hp]) ?_
      rw [clI, if_pos hp]
      exact Ev.now _
    · refine Ev.step (fun k => by rw [step, if_neg hp]) ?_
      rw [clI, if_neg hp]
      exact spec_Cl1 l w hl x7 j hj h7 hs r hr d (i + 1) (by omega)
theorem spec_Cl0 (l : List ByteArray) (w : Int) (hl : l.length ≤ 3000) (hz : Sized l) : ∀ (d j : Nat) (x7 : List ByteArray), j + d = l.length → x7.length = j → (∀ i, i < j → at_ x7 i = sumOf (at_ l i) w) →
    Ev (fun k => spec_Clash.l0 k l w x7 (j : Int)) (clJ l w d j)
  | 0, j, x7, hd, h7, hs => by
    refine Ev.step (f := fun _ => some (⟨#[]⟩, ⟨#[]⟩, false)) (fun k => ?_) (Ev.now _)
    simp only [spec_Clash.l0]
    rw [if_neg (by omega)]
  | d + 1, j, x7, hd, h7, hs => by
    have hj : j < l.length := by omega
    refine Ev.step (f := fun k => (spec_Sum.f k (at_ l j) w).bind fun t => spec_Clash.l1 k l w x7 (j : Int) t 0) (fun k => ?_) ?_
    · simp only [spec_Clash.l0]
      rw [if_pos (by omega), if_pos (by omega)]
    · refine Ev.bind (a := sumOf (at_ l j) w) (ev_of _ (fun k hk => spec_Sum_eq _ (hz _ (at_mem hj)) w k hk)) ?_
      refine spec_Cl1 l w hl x7 j hj h7 hs _ (spec_Cl0 l w hl hz d (j + 1) _ (by omega) (by rw [List.length_append, h7]; rfl) ?_) j 0 (by omega)
      intro i hi
      rw [at_getD, List.getD_eq_getElem?_getD]
      rcases Nat.lt_or_ge i j with h | h
      · rw [List.getElem?_append_left (by omega), ← List.getD_eq_getElem?_getD, ← at_getD]
        exact hs i h
      · obtain rfl : i = j := by omega
        rw [List.getElem?_append_right (by omega), h7, Nat.sub_self]
        rfl
theorem spec_Clash_ev (l : List ByteArray) (w : Int) (hz : Sized l) : Ev (fun k => spec_Clash.f k l w) (clash l w) := by
  unfold spec_Clash.f clash
  simp only [in_eq, Option.bind_some]
  by_cases h : 1 ≤ w ∧ w ≤ 8
  · by_cases hl : l.length ≤ 3000
    · rw [if_pos ⟨h, hl⟩]
      simp only [decide_eq_true h, if_true]
      refine Ev.step (f := fun k => spec_Clash.l0 k l w [] 0) (fun k => ?_) (spec_Cl0 l w hl hz l.length 0 [] (by omega) rfl (fun i hi => by omega))
      simp only [spec_Clash.j0]
      rw [if_neg (by simp; omega)]
    · rw [if_neg (fun hh => hl hh.2)]
      simp only [decide_eq_true h, if_true]
      refine Ev.step (f := fun _ => some (⟨#[]⟩, ⟨#[]⟩, false)) (fun k => ?_) (Ev.now _)
      simp only [spec_Clash.j0]
      rw [if_pos (by simp; omega)]
  · rw [if_neg (fun hh => h hh.1)]
    simp only [decide_eq_false h]
    refine Ev.step (f := fun _ => some (⟨#[]⟩, ⟨#[]⟩, false)) (fun k => ?_) (Ev.now _)
    simp only [spec_Clash.j0]
    rfl

/-! ### the program's -/
theorem impl_Cl1 (l : List ByteArray) (w : Int) (hl : l.length ≤ 3000) (x7 : List ByteArray) (j : Nat) (hj : j < l.length) (h7 : x7.length = l.length) (hs : ∀ i, i ≤ j → at_ x7 i = sumOf (at_ l i) w) (r : ByteArray × ByteArray × Bool)
    (hr : Ev (fun k => impl_Clash.l0 k l w x7 l (l.length : Int) ((j + 1 : Nat) : Int)) r) :
    ∀ (d i : Nat), i + d = j → Ev (fun k => impl_Clash.l1 k l w x7 (j : Int) (at_ l j) (i : Int) l (l.length : Int) (j : Int)) ((clI l w j d i).getD r)
  | 0, i, hd => by
    refine Ev.step (f := fun k => impl_Clash.l0 k l w x7 l (l.length : Int) ((j + 1 : Nat) : Int)) (fun k => ?_) hr
    simp only [impl_Clash.l1]
    rw [if_neg (by omega), w64 (by omega) (by omega)]
    rfl
  | d + 1, i, hd => by
    have e1 : (rdOf ByteArray.empty x7 (i : Int)) = sumOf (at_ l i) w := hs i (by omega)
    have e2 : (rdOf ByteArray.empty x7 (j : Int)) = sumOf (at_ l j) w := hs j (by omega)
    have step : ∀ k, impl_Clash.l1 (k + 1) l w x7 (j : Int) (at_ l j) (i : Int) l (l.length : Int) (j : Int) = if Pair l w i j then some (at_ l i, at_ l j, true) else impl_Clash.l1 k l w x7 (j : Int) (at_ l j) ((i + 1 : Nat) : Int) l (l.length : Int) (j : Int) := by
      intro k
      simp only [impl_Clash.l1]
      rw [if_pos (by omega), if_pos (by omega), if_pos (by omega), if_pos (by omega), if_pos (by omega), e1, e2, w64 (by omega) (by omega), show (i : Int) + 1 = ((i + 1 : Nat) : Int) from by omega]
      by_cases h1 : (sumOf (at_ l i) w).toList = (sumOf (at_ l j) w).toList
      · rw [if_pos h1, if_pos (by omega)]
        by_cases h2 : (at_ l i).toList = (at_ l j).toList
        · rw [if_pos h2, if_neg (fun h => h.2 h2)]
        · rw [if_neg h2, if_pos ⟨h1, h2⟩]
      · rw [if_neg h1, if_neg (fun h => h1 h.1)]
    by_cases hp : Pair l w i j
    · refine Ev.step (f := fun _ => some (at_ l i, at_ l j, true)) (fun k => by rw [step, if_pos hp]) ?_
      rw [clI, if_pos hp]
      exact Ev.now _
    · refine Ev.step (fun k => by rw [step, if_neg hp]) ?_
      rw [clI, if_neg hp]
      exact impl_Cl1 l w hl x7 j hj h7 hs r hr d (i + 1) (by omega)
theorem impl_Cl0 (l : List ByteArray) (w : Int) (hl : l.length ≤ 3000) (hz : Sized l) : ∀ (d j : Nat) (x7 : List ByteArray), j + d = l.length → x7.length = l.length → (∀ i, i < j → at_ x7 i = sumOf (at_ l i) w) →
    Ev (fun k => impl_Clash.l0 k l w x7 l (l.length : Int) (j : Int)) (clJ l w d j)
  | 0, j, x7, hd, h7, hs => by
    refine Ev.step (f := fun _ => some (⟨#[]⟩, ⟨#[]⟩, false)) (fun k => ?_) (Ev.now _)
    simp only [impl_Clash.l0]
    rw [if_neg (by omega)]
  | d + 1, j, x7, hd, h7, hs => by
    have hj : j < l.length := by omega
    refine Ev.step (f := fun k => (impl_Sum.f k (at_ l j) w).bind fun t => impl_Clash.l1 k l w (x7.set j t) (j : Int) (at_ l j) 0 l (l.length : Int) (j : Int)) (fun k => ?_) ?_
    · simp only [impl_Clash.l0]
      rw [if_pos (by omega), if_pos (by omega), if_pos (by omega)]
      congr 1
      funext t
      rw [if_pos (by omega), Int.toNat_natCast]
    · refine Ev.bind (a := sumOf (at_ l j) w) (ev_of _ (fun k hk => impl_Sum_eq _ (hz _ (at_mem hj)) w k hk)) ?_
      have hset : ∀ i, i < j + 1 → at_ (x7.set j (sumOf (at_ l j) w)) i = sumOf (at_ l i) w := by
        intro i hi
        rw [at_getD, List.getD_eq_getElem?_getD, List.getElem?_set]
        by_cases h : j = i
        · subst h
          rw [if_pos rfl, if_pos (by omega)]
          rfl
        · rw [if_neg h, ← List.getD_eq_getElem?_getD, ← at_getD]
          exact hs i (by omega)
      exact impl_Cl1 l w hl _ j hj (by rw [List.length_set, h7]) (fun i hi => hset i (by omega)) _ (impl_Cl0 l w hl hz d (j + 1) _ (by omega) (by rw [List.length_set, h7]) hset) j 0 (by omega)
theorem impl_Clash_ev (l : List ByteArray) (w : Int) (hz : Sized l) : Ev (fun k => impl_Clash.f k l w) (clash l w) := by
  unfold impl_Clash.f clash
  simp only [impl_in_eq, Option.bind_some]
  by_cases h : 1 ≤ w ∧ w ≤ 8
  · by_cases hl : l.length ≤ 3000
    · rw [if_pos ⟨h, hl⟩]
      simp only [decide_eq_true h, if_true]
      refine Ev.step (f := fun k => impl_Clash.l0 k l w (List.replicate l.length ⟨#[]⟩) l (l.length : Int) 0) (fun k => ?_) (impl_Cl0 l w hl hz l.length 0 _ (by omega) (by simp) (fun i hi => by omega))
      simp only [impl_Clash.j0]
      rw [if_neg (by simp; omega), if_pos (by omega), if_pos (by omega), Int.toNat_natCast]
    · rw [if_neg (fun hh => hl hh.2)]
      simp only [decide_eq_true h, if_true]
      refine Ev.step (f := fun _ => some (⟨#[]⟩, ⟨#[]⟩, false)) (fun k => ?_) (Ev.now _)
      simp only [impl_Clash.j0]
      rw [if_pos (by simp; omega)]
  · rw [if_neg (fun hh => h hh.1)]
    simp only [decide_eq_false h]
    refine Ev.step (f := fun _ => some (⟨#[]⟩, ⟨#[]⟩, false)) (fun k => ?_) (Ev.now _)
    simp only [impl_Clash.j0]
    rfl

/-- What is found is a pair of different texts with one sum. -/
theorem clI_found (l : List ByteArray) (w : Int) (j : Nat) : ∀ (d i : Nat) (r : ByteArray × ByteArray × Bool), clI l w j d i = some r → ∃ i', i' < i + d ∧ Pair l w i' j ∧ r = (at_ l i', at_ l j, true)
  | 0, _, _, h => by cases h
  | d + 1, i, r, h => by
    rw [clI] at h
    split at h
    · rename_i hp
      exact ⟨i, by omega, hp, (Option.some.inj h).symm⟩
    · obtain ⟨i', h1, h2⟩ := clI_found l w j d (i + 1) r h
      exact ⟨i', by omega, h2⟩
theorem clJ_found (l : List ByteArray) (w : Int) : ∀ (d j : Nat), (clJ l w d j).2.2 = true → ∃ i' j', i' < j' ∧ j' < j + d ∧ Pair l w i' j' ∧ clJ l w d j = (at_ l i', at_ l j', true)
  | 0, _, h => by cases h
  | d + 1, j, h => by
    rw [clJ] at h ⊢
    cases hc : clI l w j j 0 with
    | none =>
      rw [hc, Option.getD_none] at h
      obtain ⟨i', j', h1, h2, h3, h4⟩ := clJ_found l w d (j + 1) h
      exact ⟨i', j', h1, by omega, h3, by simpa using h4⟩
    | some r =>
      obtain ⟨i', h1, h2, rfl⟩ := clI_found l w j j 0 r hc
      exact ⟨i', j, by omega, by omega, h2, rfl⟩
theorem clash_found (l : List ByteArray) (w : Int) (h : (clash l w).2.2 = true) : (1 ≤ w ∧ w ≤ 8) ∧ ∃ i j, i < j ∧ j < l.length ∧ Pair l w i j ∧ clash l w = (at_ l i, at_ l j, true) := by
  unfold clash at h ⊢
  split at h
  · rename_i hc
    rw [if_pos hc]
    obtain ⟨i, j, h1, h2, h3, h4⟩ := clJ_found l w l.length 0 h
    exact ⟨hc.1, i, j, h1, by omega, h3, h4⟩
  · cases h

end Go.Proofs.Ytgaibeckblmbbaa.Pure
