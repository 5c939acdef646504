/- The helpers of the exact laws over trees: how much room is left, a copy, whether two are the same. Conditions: sizes alone. -/
import Derived.Test.YtkdghhkpmkfjhaaDoorPLawsTree
import Derived.Test.YtkdghhkpmkfjhaaDoorBase
namespace Go.Proofs.YtkdghhkpmkfjhaaDoor.Pure
open Go Go.RowKit Go.Proofs.YtkdghhkpmkfjhaaDoor.P Go.Proofs.YtkdghhkpmkfjhaaDoorW.PrintWords Go.Proofs.YtkdghhkpmkfjhaaDoorW.PrintLast
set_option linter.unusedVariables false
set_option linter.unusedSimpArgs false

abbrev LEntry := S62
abbrev Entry := S45
def ofE (a : LEntry) : Entry := ⟨a.f0, a.f1, a.f2⟩

theorem getD_nat {α : Type} (d : α) {l : List α} {i : Nat} (h : i < l.length) : l.getD (i : Int).toNat d = l[i] := by
  rw [Int.toNat_natCast, List.getD_eq_getElem?_getD, List.getElem?_eq_getElem h]
  rfl
theorem rdE_eq {l : List Entry} {i : Nat} (h : i < l.length) : rd_T45 l (i : Int) = l[i] := getD_nat _ h
theorem rdLE_eq {l : List LEntry} {i : Nat} (h : i < l.length) : rd_T62 l (i : Int) = l[i] := getD_nat _ h

theorem szEntry_eq (a b : ByteArray) (r : Bool) (c : Int) (ha : a.size ≤ 140737488351232) (hb : b.size ≤ 140737488351232) (h0 : 0 ≤ c) (h1 : c ≤ 1048576) :
    laws_szEntry.f a b r c = some (if c - (a.size : Int) < 0 then -1 else if c - (a.size : Int) - (b.size : Int) < 0 then -1 else c - (a.size : Int) - (b.size : Int)) := by
  unfold laws_szEntry.f
  rw [w64 (n := c - (a.size : Int)) (by omega) (by omega), w64 (n := c - (a.size : Int) - (b.size : Int)) (by omega) (by omega)]
  split
  · rfl
  · split <;> rfl
/-- What szEntryS tells: no room, or what is left, and that all is small. -/
def RoomE (l : List LEntry) (left r : Int) : Prop := r = -1 ∨ (0 ≤ r ∧ r ≤ left ∧ (l.length : Int) ≤ left ∧ ∀ s ∈ l, (s.f0.size : Int) ≤ left ∧ (s.f1.size : Int) ≤ left)
theorem szE_l0 (l : List LEntry) (hl : l.length ≤ 8796093022208) (hz : ∀ s ∈ l, s.f0.size ≤ 140737488351232 ∧ s.f1.size ≤ 140737488351232) (left : Int) (h1 : left ≤ 1048576) : ∀ (d i : Nat) (c : Int), i + d = l.length → 0 ≤ c → c ≤ left → (∀ j, (h : j < l.length) → j < i → (l[j].f0.size : Int) ≤ left ∧ (l[j].f1.size : Int) ≤ left) →
    ∃ r, Ev (fun k => laws_szEntryS.l0 k l c (i : Int)) r ∧ (r = -1 ∨ (0 ≤ r ∧ r ≤ left ∧ ∀ s ∈ l, (s.f0.size : Int) ≤ left ∧ (s.f1.size : Int) ≤ left))
  | 0, i, c, hd, h0, hc, ha => by
    refine ⟨c, Ev.step (fun k => laws_szEntryS.l0.eq_2 ..) (Ev.neg (by omega) (Ev.now _)), .inr ⟨h0, hc, fun s hs => ?_⟩⟩
    obtain ⟨j, hj, rfl⟩ := List.getElem_of_mem hs
    exact ha j hj (by omega)
  | d + 1, i, c, hd, h0, hc, ha => by
    have hi : i < l.length := by omega
    obtain ⟨hs0, hs1⟩ := hz l[i] (List.getElem_mem hi)
    have e := szEntry_eq l[i].f0 l[i].f1 l[i].f2 c hs0 hs1 h0 (by omega)
    by_cases hn : c - (l[i].f0.size : Int) < 0 ∨ c - (l[i].f0.size : Int) - (l[i].f1.size : Int) < 0
    · refine ⟨-1, Ev.step (fun k => laws_szEntryS.l0.eq_2 ..) (Ev.pos (by omega) (Ev.pos (by omega) ?_)), .inl rfl⟩
      have e2 : laws_szEntry.f l[i].f0 l[i].f1 l[i].f2 c = some (-1) := by
        rw [e]
        split
        · rfl
        · rw [if_pos (by omega)]
      rw [rdLE_eq hi, e2]
      exact Ev.sb (Ev.pos (by omega) (Ev.now _))
    · obtain ⟨r, hr, h⟩ := szE_l0 l hl hz left h1 d (i + 1) (c - (l[i].f0.size : Int) - (l[i].f1.size : Int)) (by omega) (by omega) (by omega) (fun j h hj => by
        rcases Nat.lt_or_ge j i with h' | h'
        · exact ha j h h'
        · obtain rfl : j = i := by omega
          omega)
      refine ⟨r, Ev.step (fun k => laws_szEntryS.l0.eq_2 ..) (Ev.pos (by omega) (Ev.pos (by omega) ?_)), h⟩
      rw [rdLE_eq hi, e, if_neg (by omega), if_neg (by omega), w64 (n := (i : Int) + 1) (by omega) (by omega)]
      exact Ev.sb (Ev.neg (by omega) hr)
theorem szTree_ev (l : List LEntry) (hl : l.length ≤ 8796093022208) (hz : ∀ s ∈ l, s.f0.size ≤ 140737488351232 ∧ s.f1.size ≤ 140737488351232) (left : Int) (h0 : 0 ≤ left) (h1 : left ≤ 1048576) :
    ∃ r, Ev (fun k => laws_szTree.f k l left) r ∧ RoomE l left r := by
  unfold laws_szTree.f laws_szEntryS.f RoomE
  rw [w64 (n := left - (l.length : Int)) (by omega) (by omega)]
  by_cases hn : left - (l.length : Int) < 0
  · exact ⟨-1, Ev.bind (Ev.pos hn (Ev.now _)) (Ev.pos (by omega) (Ev.now _)), .inl rfl⟩
  · obtain ⟨r, hr, h⟩ := szE_l0 l hl hz left h1 l.length 0 (left - (l.length : Int)) (by omega) (by omega) (by omega) (fun j h hj => by omega)
    rcases h with h | ⟨a, b, c⟩
    · exact ⟨-1, Ev.bind (Ev.neg hn hr) (Ev.pos (by omega) (Ev.now _)), .inl rfl⟩
    · exact ⟨r, Ev.bind (Ev.neg hn hr) (Ev.neg (by omega) (Ev.now _)), .inr ⟨a, b, by omega, c⟩⟩
theorem toE_l0 (l : List LEntry) (hl : l.length ≤ 8796093022208) : ∀ (d i : Nat) (o : List Entry), i + d = l.length → o.length = l.length → o.take i = (l.map ofE).take i →
    Ev (fun k => laws_toEntryS.l0 k l o (i : Int)) (l.map ofE)
  | 0, i, o, hd, ho, ha => by
    rw [List.take_of_length_le (by omega), List.take_of_length_le (by rw [List.length_map]; omega)] at ha
    exact Ev.step (fun k => laws_toEntryS.l0.eq_2 ..) (Ev.neg (by omega) (by rw [ha]; exact Ev.now _))
  | d + 1, i, o, hd, ho, ha => by
    have hi : i < l.length := by omega
    refine Ev.step (fun k => laws_toEntryS.l0.eq_2 ..) (Ev.pos (by omega) (Ev.pos (by omega) ?_))
    rw [rdLE_eq hi, laws_toEntry.f, w64 (n := (i : Int) + 1) (by omega) (by omega), Int.toNat_natCast]
    refine Ev.sb (Ev.pos (by omega) (toE_l0 l hl d (i + 1) (o.set i (ofE l[i])) (by omega) (by rw [List.length_set, ho]) ?_))
    rw [List.take_succ_eq_append_getElem (by rw [List.length_set]; omega), List.take_succ_eq_append_getElem (by rw [List.length_map]; omega), List.getElem_set_self, List.getElem_map, List.take_set_of_le (by omega), ha]
theorem toTree_ev (l : List LEntry) (hl : l.length ≤ 3518437208883) : Ev (fun k => laws_toTree.f k l) (l.map ofE) := by
  unfold laws_toTree.f laws_toEntryS.f
  refine Ev.bind (Ev.pos (by omega) (Ev.pos (by omega) ?_)) (Ev.now _)
  rw [Int.toNat_natCast]
  exact toE_l0 l (by omega) l.length 0 _ (by omega) (by simp) (by simp)
theorem eqE_l0 (l : List Entry) (hl : l.length ≤ 8796093022208) : ∀ (d i : Nat), i + d = l.length → Ev (fun k => laws_eqEntryS.l0 k l l (i : Int)) true
  | 0, i, hd => Ev.step (fun k => laws_eqEntryS.l0.eq_2 ..) (Ev.neg (by omega) (Ev.now _))
  | d + 1, i, hd => by
    refine Ev.step (fun k => laws_eqEntryS.l0.eq_2 ..) (Ev.pos (by omega) (Ev.pos (by omega) (Ev.pos (by omega) ?_)))
    rw [laws_eqEntry.f, if_pos rfl, if_pos rfl, if_neg (by simp), w64 (n := (i : Int) + 1) (by omega) (by omega)]
    exact Ev.sb (Ev.pos rfl (eqE_l0 l hl d (i + 1) (by omega)))
theorem eqTree_ev (l : List Entry) (hl : l.length ≤ 8796093022208) : Ev (fun k => laws_eqTree.f k l l) true := by
  unfold laws_eqTree.f laws_eqEntryS.f
  exact Ev.bind (Ev.pos rfl (eqE_l0 l hl l.length 0 (by omega))) (Ev.pos rfl (Ev.now _))

end Go.Proofs.YtkdghhkpmkfjhaaDoor.Pure
