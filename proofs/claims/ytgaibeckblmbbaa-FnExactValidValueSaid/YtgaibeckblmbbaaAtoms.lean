/- The helpers of the exact laws over values: how much room is left, a copy, whether two are the same. Conditions: sizes alone. -/
import Derived.Test.YtgaibeckblmbbaaPLawsValue
import Derived.Test.YtgaibeckblmbbaaBase
namespace Go.Proofs.Ytgaibeckblmbbaa.Pure
open Go Go.RowKit Go.Proofs.Ytgaibeckblmbbaa.P Go.Proofs.YtgaibeckblmbbaaW.PrintWords Go.Proofs.YtgaibeckblmbbaaW.PrintLast
set_option linter.unusedVariables false
set_option linter.unusedSimpArgs false

abbrev LAtom := S99
abbrev Atom := S89
def ofLaws (a : LAtom) : Atom := ⟨a.f0, a.f1, a.f2, a.f3⟩

theorem getD_toNat {α : Type} (d : α) {l : List α} {i : Nat} (h : i < l.length) : l.getD (i : Int).toNat d = l[i] := by
  rw [Int.toNat_natCast, List.getD_eq_getElem?_getD, List.getElem?_eq_getElem h]
  rfl
theorem rdA_eq {l : List Atom} {i : Nat} (h : i < l.length) : rd_T89 l (i : Int) = l[i] := getD_toNat _ h
theorem rdLA_eq {l : List LAtom} {i : Nat} (h : i < l.length) : rd_T99 l (i : Int) = l[i] := getD_toNat _ h

/-- What szAtomS tells: no room, or what is left, and that all is small. -/
def RoomAtoms (l : List LAtom) (left r : Int) : Prop := r = -1 ∨ (0 ≤ r ∧ r ≤ left ∧ (l.length : Int) ≤ left ∧ ∀ s ∈ l, (s.f2.size : Int) ≤ left)
theorem szA_l0 (l : List LAtom) (hl : l.length ≤ 8796093022208) (hz : ∀ s ∈ l, s.f2.size ≤ 140737488351232) (left : Int) (h1 : left ≤ 1048576) : ∀ (d i : Nat) (c : Int), i + d = l.length → 0 ≤ c → c ≤ left → (∀ j, (h : j < l.length) → j < i → (l[j].f2.size : Int) ≤ left) →
    ∃ r, Ev (fun k => laws_szAtomS.l0 k l c (i : Int)) r ∧ (r = -1 ∨ (0 ≤ r ∧ r ≤ left ∧ ∀ s ∈ l, (s.f2.size : Int) ≤ left))
  | 0, i, c, hd, h0, hc, ha => by
    refine ⟨c, Ev.step (fun k => laws_szAtomS.l0.eq_2 ..) (Ev.neg (by omega) (Ev.now _)), .inr ⟨h0, hc, fun s hs => ?_⟩⟩
    obtain ⟨j, hj, rfl⟩ := List.getElem_of_mem hs
    exact ha j hj (by omega)
  | d + 1, i, c, hd, h0, hc, ha => by
    have hi : i < l.length := by omega
    have hsz := hz l[i] (List.getElem_mem hi)
    by_cases hn : c - (l[i].f2.size : Int) < 0
    · refine ⟨-1, Ev.step (fun k => laws_szAtomS.l0.eq_2 ..) (Ev.pos (by omega) (Ev.pos (by omega) ?_)), .inl rfl⟩
      rw [rdLA_eq hi, laws_szAtom.f, w64 (by omega) (by omega), if_pos hn]
      exact Ev.sb (Ev.pos (by omega) (Ev.now _))
    · obtain ⟨r, hr, h⟩ := szA_l0 l hl hz left h1 d (i + 1) (c - (l[i].f2.size : Int)) (by omega) (by omega) (by omega) (fun j h hj => by
        rcases Nat.lt_or_ge j i with h' | h'
        · exact ha j h h'
        · obtain rfl : j = i := by omega
          omega)
      refine ⟨r, Ev.step (fun k => laws_szAtomS.l0.eq_2 ..) (Ev.pos (by omega) (Ev.pos (by omega) ?_)), h⟩
      rw [rdLA_eq hi, laws_szAtom.f, w64 (by omega) (by omega), if_neg hn, w64 (n := (i : Int) + 1) (by omega) (by omega)]
      exact Ev.sb (Ev.neg (by omega) hr)
theorem szValue_ev (l : List LAtom) (hl : l.length ≤ 8796093022208) (hz : ∀ s ∈ l, s.f2.size ≤ 140737488351232) (left : Int) (h0 : 0 ≤ left) (h1 : left ≤ 1048576) :
    ∃ r, Ev (fun k => laws_szValue.f k l left) r ∧ RoomAtoms l left r := by
  unfold laws_szValue.f laws_szAtomS.f RoomAtoms
  rw [w64 (by omega) (by omega)]
  by_cases hn : left - (l.length : Int) < 0
  · exact ⟨-1, Ev.bind (Ev.pos hn (Ev.now _)) (Ev.pos (by omega) (Ev.now _)), .inl rfl⟩
  · obtain ⟨r, hr, h⟩ := szA_l0 l hl hz left h1 l.length 0 (left - (l.length : Int)) (by omega) (by omega) (by omega) (fun j h hj => by omega)
    rcases h with h | ⟨a, b, c⟩
    · exact ⟨-1, Ev.bind (Ev.neg hn hr) (Ev.pos (by omega) (Ev.now _)), .inl rfl⟩
    · exact ⟨r, Ev.bind (Ev.neg hn hr) (Ev.neg (by omega) (Ev.now _)), .inr ⟨a, b, by omega, c⟩⟩
theorem toA_l0 (l : List LAtom) (hl : l.length ≤ 8796093022208) : ∀ (d i : Nat) (o : List Atom), i + d = l.length → o.length = l.length → o.take i = (l.map ofLaws).take i →
    Ev (fun k => laws_toAtomS.l0 k l o (i : Int)) (l.map ofLaws)
  | 0, i, o, hd, ho, ha => by
    rw [List.take_of_length_le (by omega), List.take_of_length_le (by rw [List.length_map]; omega)] at ha
    exact Ev.step (fun k => laws_toAtomS.l0.eq_2 ..) (Ev.neg (by omega) (by rw [ha]; exact Ev.now _))
  | d + 1, i, o, hd, ho, ha => by
    have hi : i < l.length := by omega
    refine Ev.step (fun k => laws_toAtomS.l0.eq_2 ..) (Ev.pos (by omega) (Ev.pos (by omega) ?_))
    rw [rdLA_eq hi, laws_toAtom.f, w64 (n := (i : Int) + 1) (by omega) (by omega), Int.toNat_natCast]
    refine Ev.sb (Ev.pos (by omega) (toA_l0 l hl d (i + 1) (o.set i (ofLaws l[i])) (by omega) (by rw [List.length_set, ho]) ?_))
    rw [List.take_succ_eq_append_getElem (by rw [List.length_set]; omega), List.take_succ_eq_append_getElem (by rw [List.length_map]; omega), List.getElem_set_self, List.getElem_map, List.take_set_of_le (by omega), ha]
theorem toValue_ev (l : List LAtom) (hl : l.length ≤ 4398046510976) : Ev (fun k => laws_toValue.f k l) (l.map ofLaws) := by
  unfold laws_toValue.f laws_toAtomS.f
  refine Ev.bind (Ev.pos (by omega) (Ev.pos (by omega) ?_)) (Ev.now _)
  rw [Int.toNat_natCast]
  exact toA_l0 l (by omega) l.length 0 _ (by omega) (by simp) (by simp)
theorem eqA_l0 (l : List Atom) (hl : l.length ≤ 8796093022208) : ∀ (d i : Nat), i + d = l.length → Ev (fun k => laws_eqAtomS.l0 k l l (i : Int)) true
  | 0, i, hd => Ev.step (fun k => laws_eqAtomS.l0.eq_2 ..) (Ev.neg (by omega) (Ev.now _))
  | d + 1, i, hd => by
    refine Ev.step (fun k => laws_eqAtomS.l0.eq_2 ..) (Ev.pos (by omega) (Ev.pos (by omega) (Ev.pos (by omega) ?_)))
    rw [laws_eqAtom.f, if_pos rfl, if_pos rfl, if_pos rfl, if_pos rfl, w64 (n := (i : Int) + 1) (by omega) (by omega)]
    exact Ev.sb (Ev.pos rfl (eqA_l0 l hl d (i + 1) (by omega)))
theorem eqValue_ev (l : List Atom) (hl : l.length ≤ 8796093022208) : Ev (fun k => laws_eqValue.f k l l) true := by
  unfold laws_eqValue.f laws_eqAtomS.f
  exact Ev.bind (Ev.pos rfl (eqA_l0 l hl l.length 0 (by omega))) (Ev.pos rfl (Ev.now _))

end Go.Proofs.Ytgaibeckblmbbaa.Pure
