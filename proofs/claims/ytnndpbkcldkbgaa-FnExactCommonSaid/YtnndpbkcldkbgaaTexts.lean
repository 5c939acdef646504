/- The helpers of the exact laws over lists of texts: how much room is left, a copy, whether two lists are the same. Conditions: sizes alone. -/
import Derived.Test.YtnndpbkcldkbgaaPLawsString
import Derived.Test.YtnndpbkcldkbgaaBase
namespace Go.Proofs.Ytnndpbkcldkbgaa.Pure
open Go Go.RowKit Go.Proofs.Ytnndpbkcldkbgaa.P Go.Proofs.YtnndpbkcldkbgaaW.PrintWords Go.Proofs.YtnndpbkcldkbgaaW.PrintLast
set_option linter.unusedVariables false
set_option linter.unusedSimpArgs false

theorem rd_eq {α : Type} (d : α) {l : List α} {i : Nat} (h : i < l.length) : rdOf d l (i : Int) = l[i] := by
  unfold rdOf
  rw [Int.toNat_natCast, List.getD_eq_getElem?_getD, List.getElem?_eq_getElem h]
  rfl

/-- What szStringS tells: no room, or what is left, and that all is small. -/
def RoomTexts (l : List ByteArray) (left r : Int) : Prop := r = -1 ∨ (0 ≤ r ∧ r ≤ left ∧ (l.length : Int) ≤ left ∧ ∀ s ∈ l, (s.size : Int) ≤ left)
theorem sz_l0 (l : List ByteArray) (hl : l.length ≤ 8796093022208) (hz : ∀ s ∈ l, s.size ≤ 140737488351232) (left : Int) (h1 : left ≤ 1048576) : ∀ (d i : Nat) (c : Int), i + d = l.length → 0 ≤ c → c ≤ left → (∀ j, (h : j < l.length) → j < i → (l[j].size : Int) ≤ left) →
    ∃ r, Ev (fun k => laws_szStringS.l0 k l c (i : Int)) r ∧ (r = -1 ∨ (0 ≤ r ∧ r ≤ left ∧ ∀ s ∈ l, (s.size : Int) ≤ left))
  | 0, i, c, hd, h0, hc, ha => by
    refine ⟨c, Ev.step (f := fun _ => some c) (fun k => ?_) (Ev.now _), .inr ⟨h0, hc, fun s hs => ?_⟩⟩
    · simp only [laws_szStringS.l0]
      rw [if_neg (by omega)]
    · obtain ⟨j, hj, rfl⟩ := List.getElem_of_mem hs
      exact ha j hj (by omega)
  | d + 1, i, c, hd, h0, hc, ha => by
    have hi : i < l.length := by omega
    have hsz := hz l[i] (List.getElem_mem hi)
    by_cases hn : c - (l[i].size : Int) < 0
    · refine ⟨-1, Ev.step (f := fun _ => some (-1)) (fun k => ?_) (Ev.now _), .inl rfl⟩
      simp only [laws_szStringS.l0]
      rw [if_pos (by omega), if_pos (by omega), rd_eq _ hi, w64 (by omega) (by omega), if_pos hn]
    · obtain ⟨r, hr, h⟩ := sz_l0 l hl hz left h1 d (i + 1) (c - (l[i].size : Int)) (by omega) (by omega) (by omega) (fun j h hj => by
        rcases Nat.lt_or_ge j i with h' | h'
        · exact ha j h h'
        · obtain rfl : j = i := by omega
          omega)
      refine ⟨r, Ev.step (fun k => ?_) hr, h⟩
      simp only [laws_szStringS.l0]
      rw [if_pos (by omega), if_pos (by omega), rd_eq _ hi, w64 (by omega) (by omega), if_neg hn, w64 (by omega) (by omega)]
      rfl
theorem szTexts (l : List ByteArray) (hl : l.length * 16 ≤ 140737488351232) (hz : ∀ s ∈ l, s.size ≤ 140737488351232) (left : Int) (h0 : 0 ≤ left) (h1 : left ≤ 1048576) :
    ∃ r, Ev (fun k => laws_szStringS.f k l left) r ∧ RoomTexts l left r := by
  unfold laws_szStringS.f RoomTexts
  rw [w64 (by omega) (by omega)]
  by_cases hn : left - (l.length : Int) < 0
  · exact ⟨-1, Ev.pos hn (Ev.now _), .inl rfl⟩
  · obtain ⟨r, hr, h⟩ := sz_l0 l (by omega) hz left h1 l.length 0 (left - (l.length : Int)) (by omega) (by omega) (by omega) (fun j h hj => by omega)
    refine ⟨r, Ev.neg hn hr, ?_⟩
    rcases h with h | ⟨a, b, c⟩
    · exact .inl h
    · exact .inr ⟨a, b, by omega, c⟩
theorem to_l0 (l : List ByteArray) (hl : l.length ≤ 8796093022208) : ∀ (d i : Nat) (o : List ByteArray), i + d = l.length → o.length = l.length → (∀ j, (h : j < o.length) → (h' : j < l.length) → j < i → o[j] = l[j]) →
    Ev (fun k => laws_toStringS.l0 k l o (i : Int)) l
  | 0, i, o, hd, ho, ha => by
    refine Ev.step (f := fun _ => some l) (fun k => ?_) (Ev.now _)
    simp only [laws_toStringS.l0]
    rw [if_neg (by omega)]
    congr 1
    exact List.ext_getElem ho (fun j h h' => ha j h h' (by omega))
  | d + 1, i, o, hd, ho, ha => by
    have hi : i < l.length := by omega
    refine Ev.step (fun k => ?_) (to_l0 l hl d (i + 1) (o.set i l[i]) (by omega) (by rw [List.length_set, ho]) (fun j h h' hj => ?_))
    · simp only [laws_toStringS.l0]
      rw [if_pos (by omega), if_pos (by omega), if_pos (by omega), rd_eq _ hi, w64 (by omega) (by omega), Int.toNat_natCast]
      rfl
    · rw [List.getElem_set]
      split
      · rename_i e
        subst e
        rfl
      · exact ha j (by simpa using h) h' (by omega)
theorem toTexts (l : List ByteArray) (hl : l.length * 16 ≤ 140737488351232) : Ev (fun k => laws_toStringS.f k l) l := by
  unfold laws_toStringS.f
  refine Ev.pos (by omega) (Ev.pos (by omega) ?_)
  rw [Int.toNat_natCast]
  exact to_l0 l (by omega) l.length 0 (List.replicate l.length ⟨#[]⟩) (by omega) (by simp) (fun j h h' hj => by omega)
theorem eq_l0 (l : List ByteArray) (hl : l.length ≤ 8796093022208) : ∀ (d i : Nat), i + d = l.length → Ev (fun k => laws_eqStringS.l0 k l l (i : Int)) true
  | 0, i, hd => by
    refine Ev.step (f := fun _ => some true) (fun k => ?_) (Ev.now _)
    simp only [laws_eqStringS.l0]
    rw [if_neg (by omega)]
  | d + 1, i, hd => by
    refine Ev.step (fun k => ?_) (eq_l0 l hl d (i + 1) (by omega))
    simp only [laws_eqStringS.l0]
    rw [if_pos (by omega), if_pos (by omega), if_pos (by omega), if_pos (by trivial), w64 (by omega) (by omega)]
    rfl
theorem eqTexts (l : List ByteArray) (hl : l.length ≤ 8796093022208) : Ev (fun k => laws_eqStringS.f k l l) true := by
  unfold laws_eqStringS.f
  exact Ev.pos rfl (eq_l0 l hl l.length 0 (by omega))

end Go.Proofs.Ytnndpbkcldkbgaa.Pure
