/- Longest common lists: how long, and the first pair that goes on to a longest one. No condition. -/
import Derived.Test.YtnndpbkcldkbgaaBase
namespace Go.Proofs.Ytnndpbkcldkbgaa.Pure
open Go Go.RowKit Go.Proofs.YtnndpbkcldkbgaaW.PrintWords Go.Proofs.YtnndpbkcldkbgaaW.PrintLast
set_option linter.unusedVariables false
set_option linter.unusedSimpArgs false

/-- How long a longest list of equal lines is, of a behind i and b behind j (d: how far the ends are). -/
def lc (a b : List ByteArray) (i j : Nat) : Nat :=
  if h : i < a.length then
    if h' : j < b.length then
      let n := lc a b (i + 1) j
      let m := lc a b i (j + 1)
      let x := if m > n then m else n
      if a[i] = b[j] then (if lc a b (i + 1) (j + 1) + 1 > x then lc a b (i + 1) (j + 1) + 1 else x) else x
    else 0
  else 0
termination_by (a.length - i) + (b.length - j)
theorem lc_in {a b : List ByteArray} {i j : Nat} (h : i < a.length) (h' : j < b.length) : lc a b i j =
    (if a[i] = b[j] then (if lc a b (i + 1) (j + 1) + 1 > (if lc a b i (j + 1) > lc a b (i + 1) j then lc a b i (j + 1) else lc a b (i + 1) j) then lc a b (i + 1) (j + 1) + 1 else (if lc a b i (j + 1) > lc a b (i + 1) j then lc a b i (j + 1) else lc a b (i + 1) j)) else (if lc a b i (j + 1) > lc a b (i + 1) j then lc a b i (j + 1) else lc a b (i + 1) j)) := by
  rw [lc, dif_pos h, dif_pos h']
theorem lc_out1 {a b : List ByteArray} {i j : Nat} (h : a.length ≤ i) : lc a b i j = 0 := by
  rw [lc, dif_neg (by omega)]
theorem lc_out2 {a b : List ByteArray} {i j : Nat} (h : b.length ≤ j) : lc a b i j = 0 := by
  rw [lc]
  split
  · rw [dif_neg (by omega)]
  · rfl
theorem lc_le (a b : List ByteArray) : ∀ (d i j : Nat), (a.length - i) + (b.length - j) ≤ d → lc a b i j ≤ a.length - i ∧ lc a b i j ≤ b.length - j
  | 0, i, j, h => by
    rw [lc_out1 (by omega)]
    omega
  | d + 1, i, j, h => by
    by_cases h1 : i < a.length
    · by_cases h2 : j < b.length
      · have x := lc_le a b d (i + 1) j (by omega)
        have y := lc_le a b d i (j + 1) (by omega)
        have z := lc_le a b d (i + 1) (j + 1) (by omega)
        rw [lc_in h1 h2]
        split <;> split <;> (try split) <;> omega
      · rw [lc_out2 (by omega)]
        omega
    · rw [lc_out1 (by omega)]
      omega
/-- Where something is left, a pair stands behind that goes on to it. -/
def Goes (a b : List ByteArray) (n x y : Nat) : Prop := ∃ (h : x < a.length) (h' : y < b.length), a[x] = b[y] ∧ lc a b (x + 1) (y + 1) + 1 = n
theorem lc_goes (a b : List ByteArray) : ∀ (d i j : Nat), (a.length - i) + (b.length - j) ≤ d → 0 < lc a b i j → ∃ x y, i ≤ x ∧ j ≤ y ∧ Goes a b (lc a b i j) x y
  | 0, i, j, h, hp => by
    rw [lc_out1 (by omega)] at hp
    omega
  | d + 1, i, j, h, hp => by
    by_cases h1 : i < a.length
    · by_cases h2 : j < b.length
      · have e := lc_in h1 h2
        by_cases hab : a[i] = b[j] ∧ lc a b i j = lc a b (i + 1) (j + 1) + 1
        · exact ⟨i, j, Nat.le_refl _, Nat.le_refl _, h1, h2, hab.1, hab.2.symm⟩
        · have : lc a b i j = lc a b i (j + 1) ∨ lc a b i j = lc a b (i + 1) j := by
            have h5 : ∀ z, z = (if lc a b i (j + 1) > lc a b (i + 1) j then lc a b i (j + 1) else lc a b (i + 1) j) → z = lc a b i (j + 1) ∨ z = lc a b (i + 1) j := by
              intro z hz
              by_cases h4 : lc a b i (j + 1) > lc a b (i + 1) j
              · rw [if_pos h4] at hz
                exact .inl hz
              · rw [if_neg h4] at hz
                exact .inr hz
            by_cases hq : a[i] = b[j]
            · have hn : lc a b i j ≠ lc a b (i + 1) (j + 1) + 1 := fun hh => hab ⟨hq, hh⟩
              rw [if_pos hq] at e
              by_cases h3 : lc a b (i + 1) (j + 1) + 1 > (if lc a b i (j + 1) > lc a b (i + 1) j then lc a b i (j + 1) else lc a b (i + 1) j)
              · rw [if_pos h3] at e
                exact absurd e hn
              · rw [if_neg h3] at e
                exact h5 _ e
            · rw [if_neg hq] at e
              exact h5 _ e
          rcases this with hh | hh
          · rw [hh] at hp ⊢
            obtain ⟨x, y, p, q, r⟩ := lc_goes a b d i (j + 1) (by omega) hp
            exact ⟨x, y, p, by omega, r⟩
          · rw [hh] at hp ⊢
            obtain ⟨x, y, p, q, r⟩ := lc_goes a b d (i + 1) j (by omega) hp
            exact ⟨x, y, by omega, q, r⟩
      · rw [lc_out2 (by omega)] at hp
        omega
    · rw [lc_out1 (by omega)] at hp
      omega
/-- The first place of b behind y with which x goes on to n. -/
def rowFirst (a b : List ByteArray) (n x : Nat) : Nat → Nat → Option Nat
  | 0, _ => none
  | d + 1, y => if rdOf ByteArray.empty a (x : Int) = rdOf ByteArray.empty b (y : Int) ∧ lc a b (x + 1) (y + 1) + 1 = n then some y else rowFirst a b n x d (y + 1)
/-- The first pair behind (x, j) that goes on to n. -/
def pairFirst (a b : List ByteArray) (n j : Nat) : Nat → Nat → Option (Nat × Nat)
  | 0, _ => none
  | d + 1, x => match rowFirst a b n x (b.length - j) j with
    | some y => some (x, y)
    | none => pairFirst a b n j d (x + 1)
theorem rd_of {l : List ByteArray} {i : Nat} (h : i < l.length) : rdOf ByteArray.empty l (i : Int) = l[i] := by
  unfold rdOf
  rw [Int.toNat_natCast, List.getD_eq_getElem?_getD, List.getElem?_eq_getElem h]
  rfl
theorem rowFirst_some {a b : List ByteArray} {n x : Nat} (hx : x < a.length) : ∀ (d y z : Nat), y + d ≤ b.length → rowFirst a b n x d y = some z → y ≤ z ∧ Goes a b n x z
  | 0, y, z, h, e => by cases e
  | d + 1, y, z, h, e => by
    unfold rowFirst at e
    rw [rd_of hx, rd_of (show y < b.length by omega)] at e
    split at e
    · rename_i hh
      obtain rfl := Option.some.inj e
      exact ⟨Nat.le_refl _, hx, by omega, hh⟩
    · obtain ⟨p, q⟩ := rowFirst_some hx d (y + 1) z (by omega) e
      exact ⟨by omega, q⟩
theorem rowFirst_none {a b : List ByteArray} {n x : Nat} (hx : x < a.length) : ∀ (d y : Nat), y + d ≤ b.length → rowFirst a b n x d y = none → ∀ z, y ≤ z → z < y + d → ¬ Goes a b n x z
  | 0, y, h, e, z, h1, h2 => by omega
  | d + 1, y, h, e, z, h1, h2 => by
    unfold rowFirst at e
    rw [rd_of hx, rd_of (show y < b.length by omega)] at e
    split at e
    · cases e
    · rename_i hh
      rcases Nat.eq_or_lt_of_le h1 with rfl | h3
      · rintro ⟨p, q, r, s⟩
        exact hh ⟨r, s⟩
      · exact rowFirst_none hx d (y + 1) (by omega) e z (by omega) (by omega)
theorem pairFirst_some {a b : List ByteArray} {n j : Nat} : ∀ (d x : Nat) (p : Nat × Nat), x + d ≤ a.length → pairFirst a b n j d x = some p → x ≤ p.1 ∧ j ≤ p.2 ∧ Goes a b n p.1 p.2
  | 0, x, p, h, e => by cases e
  | d + 1, x, p, h, e => by
    unfold pairFirst at e
    split at e
    · rename_i y hy
      obtain rfl := Option.some.inj e
      by_cases hj : j ≤ b.length
      · obtain ⟨q, r⟩ := rowFirst_some (show x < a.length by omega) _ _ _ (by omega) hy
        exact ⟨Nat.le_refl _, q, r⟩
      · rw [show b.length - j = 0 from by omega] at hy
        cases hy
    · obtain ⟨q, r⟩ := pairFirst_some d (x + 1) p (by omega) e
      exact ⟨by omega, r⟩
theorem pairFirst_there {a b : List ByteArray} {n j : Nat} (hj : j ≤ b.length) : ∀ (d x : Nat), x + d = a.length → (∃ u v, x ≤ u ∧ j ≤ v ∧ Goes a b n u v) → ∃ p, pairFirst a b n j d x = some p
  | 0, x, h, ⟨u, v, h1, _, h3, _⟩ => by omega
  | d + 1, x, h, ⟨u, v, h1, h2, h3⟩ => by
    unfold pairFirst
    split
    · exact ⟨_, rfl⟩
    · rename_i hn
      refine pairFirst_there hj d (x + 1) (by omega) ⟨u, v, ?_, h2, h3⟩
      rcases Nat.eq_or_lt_of_le h1 with rfl | h4
      · have h4 := h3
        obtain ⟨p, q, _⟩ := h4
        exact absurd h3 (rowFirst_none p _ _ (by omega) hn v h2 (by omega))
      · exact h4
/-- The list of pairs. -/
def pairs (a b : List ByteArray) : Nat → Nat → Nat → List (Nat × Nat)
  | 0, _, _ => []
  | n + 1, i, j => match pairFirst a b (n + 1) j (a.length - i) i with
    | some p => p :: pairs a b n (p.1 + 1) (p.2 + 1)
    | none => []

end Go.Proofs.Ytnndpbkcldkbgaa.Pure
