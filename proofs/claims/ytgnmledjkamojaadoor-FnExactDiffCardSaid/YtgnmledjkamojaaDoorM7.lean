/- Several texts of this claim in one file: YtgnmledjkamojaaDoorFileS, YtgnmledjkamojaaDoorEntries, YtgnmledjkamojaaDoorSorted, YtgnmledjkamojaaDoorSortE, YtgnmledjkamojaaDoorCuts, YtgnmledjkamojaaDoorPaths, YtgnmledjkamojaaDoorTrees, YtgnmledjkamojaaDoorTreeRows, YtgnmledjkamojaaDoorSetE, YtgnmledjkamojaaDoorFileAt, YtgnmledjkamojaaDoorNames, YtgnmledjkamojaaDoorMarkText, YtgnmledjkamojaaDoorEntryMarks, YtgnmledjkamojaaDoorChanges, YtgnmledjkamojaaDoorChangeMarks. -/
import Derived.Test.YtgnmledjkamojaaDoorM4
import Derived.Test.YtgnmledjkamojaaDoorM5
import Derived.Test.YtgnmledjkamojaaDoorM3
import Derived.Lib.SplitLaws
import Derived.Test.YtgnmledjkamojaaDoorM6
namespace Go.Proofs.YtgnmledjkamojaaDoor.P
open Go
def toF (x : S122) : FileT := (x.f0, x.f1, x.f2)
def ofF (x : FileT) : S122 := ⟨x.1, x.2.1, x.2.2⟩
end Go.Proofs.YtgnmledjkamojaaDoor.P


namespace Go.Proofs.YtgnmledjkamojaaDoor.Pure
open Go Go.RowKit Go.Proofs.YtgnmledjkamojaaDoor.P Go.Proofs.YtgnmledjkamojaaDoorW.PrintWords Go.Proofs.YtgnmledjkamojaaDoorW.PrintLast
set_option linter.unusedVariables false
set_option linter.unusedSimpArgs false

abbrev LEntry := S172
abbrev Entry := S37
def ofE (a : LEntry) : Entry := ⟨a.f0, a.f1, a.f2⟩

theorem getD_nat {α : Type} (d : α) {l : List α} {i : Nat} (h : i < l.length) : l.getD (i : Int).toNat d = l[i] := by
  rw [Int.toNat_natCast, List.getD_eq_getElem?_getD, List.getElem?_eq_getElem h]
  rfl
theorem rdE_eq {l : List Entry} {i : Nat} (h : i < l.length) : rd_T37 l (i : Int) = l[i] := getD_nat _ h
theorem rdLE_eq {l : List LEntry} {i : Nat} (h : i < l.length) : rd_T172 l (i : Int) = l[i] := getD_nat _ h

theorem szEntry_eq (a b : ByteArray) (r : Bool) (c : Int) (ha : a.size ≤ 140737488351232) (hb : b.size ≤ 140737488351232) (h0 : 0 ≤ c) (h1 : c ≤ 1048576) :
    laws_szEntry.f a b r c = some (if c - (a.size : Int) < 0 then -1 else if c - (a.size : Int) - (b.size : Int) < 0 then -1 else c - (a.size : Int) - (b.size : Int)) := by
  unfold laws_szEntry.f
  rw [w64 (n := c - (a.size : Int)) (by omega) (by omega), w64 (n := c - (a.size : Int) - (b.size : Int)) (by omega) (by omega)]
  split
  · rfl
  · split <;> rfl
/-- What szEntryS tells: no room, or what is left, and that all is small. -/
def RoomE (l : List LEntry) (left r : Int) : Prop := r = -1 ∨ (0 ≤ r ∧ r ≤ left ∧ (l.length : Int) ≤ left ∧ ∀ s ∈ l, (s.f0.size : Int) ≤ left ∧ (s.f1.size : Int) ≤ left)
theorem szE_l0 (l : List LEntry) (hl : l.length ≤ 8796093022208) (hz : ∀ s ∈ l, s.f0.size ≤ 140737488351232 ∧ s.f1.size ≤ 140737488351232) (left : Int) (h1 : left ≤ 1048576) : ∀ (d i : Nat) (c : Int), i + d = l.length → 0 ≤ c → c ≤ left → (∀ j, (h : j < l.length) → j < i → (l[j].f0.size : Int) ≤ left ∧ (l[j].f1.size : Int) ≤ left) →
    ∃ r, Ev (fun k => laws_szEntryS.l0 k l c (i : Int)) r ∧ (r = -1 ∨ (0 ≤ r ∧ r ≤ left ∧ ∀ s ∈ l, (s.f0.size : Int) ≤ left ∧ (s.f1.size : Int) ≤ left))
  | 0, i, c, hd, h0, hc, ha => by
    refine ⟨c, Ev.step (fun k => laws_szEntryS.l0.eq_2 ..) (Ev.neg (by omega) (Ev.now _)), .inr ⟨h0, hc, fun s hs => ?_⟩⟩
    obtain ⟨j, hj, rfl⟩ := List.getElem_of_mem hs
    exact ha j hj (by omega)
  | d + 1, i, c, hd, h0, hc, ha => by
    have hi : i < l.length := by omega
    obtain ⟨hs0, hs1⟩ := hz l[i] (List.getElem_mem hi)
    have e := szEntry_eq l[i].f0 l[i].f1 l[i].f2 c hs0 hs1 h0 (by omega)
    by_cases hn : c - (l[i].f0.size : Int) < 0 ∨ c - (l[i].f0.size : Int) - (l[i].f1.size : Int) < 0
    · refine ⟨-1, Ev.step (fun k => laws_szEntryS.l0.eq_2 ..) (Ev.pos (by omega) (Ev.pos (by omega) ?_)), .inl rfl⟩
      have e2 : laws_szEntry.f l[i].f0 l[i].f1 l[i].f2 c = some (-1) := by
        rw [e]
        split
        · rfl
        · rw [if_pos (by omega)]
      rw [rdLE_eq hi, e2]
      exact Ev.sb (Ev.pos (by omega) (Ev.now _))
    · obtain ⟨r, hr, h⟩ := szE_l0 l hl hz left h1 d (i + 1) (c - (l[i].f0.size : Int) - (l[i].f1.size : Int)) (by omega) (by omega) (by omega) (fun j h hj => by
        rcases Nat.lt_or_ge j i with h' | h'
        · exact ha j h h'
        · obtain rfl : j = i := by omega
          omega)
      refine ⟨r, Ev.step (fun k => laws_szEntryS.l0.eq_2 ..) (Ev.pos (by omega) (Ev.pos (by omega) ?_)), h⟩
      rw [rdLE_eq hi, e, if_neg (by omega), if_neg (by omega), w64 (n := (i : Int) + 1) (by omega) (by omega)]
      exact Ev.sb (Ev.neg (by omega) hr)
theorem szTree_ev (l : List LEntry) (hl : l.length ≤ 8796093022208) (hz : ∀ s ∈ l, s.f0.size ≤ 140737488351232 ∧ s.f1.size ≤ 140737488351232) (left : Int) (h0 : 0 ≤ left) (h1 : left ≤ 1048576) :
    ∃ r, Ev (fun k => laws_szTree.f k l left) r ∧ RoomE l left r := by
  unfold laws_szTree.f laws_szEntryS.f RoomE
  rw [w64 (n := left - (l.length : Int)) (by omega) (by omega)]
  by_cases hn : left - (l.length : Int) < 0
  · exact ⟨-1, Ev.bind (Ev.pos hn (Ev.now _)) (Ev.pos (by omega) (Ev.now _)), .inl rfl⟩
  · obtain ⟨r, hr, h⟩ := szE_l0 l hl hz left h1 l.length 0 (left - (l.length : Int)) (by omega) (by omega) (by omega) (fun j h hj => by omega)
    rcases h with h | ⟨a, b, c⟩
    · exact ⟨-1, Ev.bind (Ev.neg hn hr) (Ev.pos (by omega) (Ev.now _)), .inl rfl⟩
    · exact ⟨r, Ev.bind (Ev.neg hn hr) (Ev.neg (by omega) (Ev.now _)), .inr ⟨a, b, by omega, c⟩⟩
theorem toE_l0 (l : List LEntry) (hl : l.length ≤ 8796093022208) : ∀ (d i : Nat) (o : List Entry), i + d = l.length → o.length = l.length → o.take i = (l.map ofE).take i →
    Ev (fun k => laws_toEntryS.l0 k l o (i : Int)) (l.map ofE)
  | 0, i, o, hd, ho, ha => by
    rw [List.take_of_length_le (by omega), List.take_of_length_le (by rw [List.length_map]; omega)] at ha
    exact Ev.step (fun k => laws_toEntryS.l0.eq_2 ..) (Ev.neg (by omega) (by rw [ha]; exact Ev.now _))
  | d + 1, i, o, hd, ho, ha => by
    have hi : i < l.length := by omega
    refine Ev.step (fun k => laws_toEntryS.l0.eq_2 ..) (Ev.pos (by omega) (Ev.pos (by omega) ?_))
    rw [rdLE_eq hi, laws_toEntry.f, w64 (n := (i : Int) + 1) (by omega) (by omega), Int.toNat_natCast]
    refine Ev.sb (Ev.pos (by omega) (toE_l0 l hl d (i + 1) (o.set i (ofE l[i])) (by omega) (by rw [List.length_set, ho]) ?_))
    rw [List.take_succ_eq_append_getElem (by rw [List.length_set]; omega), List.take_succ_eq_append_getElem (by rw [List.length_map]; omega), List.getElem_set_self, List.getElem_map, List.take_set_of_le (by omega), ha]
theorem toTree_ev (l : List LEntry) (hl : l.length ≤ 3518437208883) : Ev (fun k => laws_toTree.f k l) (l.map ofE) := by
  unfold laws_toTree.f laws_toEntryS.f
  refine Ev.bind (Ev.pos (by omega) (Ev.pos (by omega) ?_)) (Ev.now _)
  rw [Int.toNat_natCast]
  exact toE_l0 l (by omega) l.length 0 _ (by omega) (by simp) (by simp)
theorem eqE_l0 (l : List Entry) (hl : l.length ≤ 8796093022208) : ∀ (d i : Nat), i + d = l.length → Ev (fun k => laws_eqEntryS.l0 k l l (i : Int)) true
  | 0, i, hd => Ev.step (fun k => laws_eqEntryS.l0.eq_2 ..) (Ev.neg (by omega) (Ev.now _))
  | d + 1, i, hd => by
    refine Ev.step (fun k => laws_eqEntryS.l0.eq_2 ..) (Ev.pos (by omega) (Ev.pos (by omega) (Ev.pos (by omega) ?_)))
    rw [laws_eqEntry.f, if_pos rfl, if_pos rfl, if_neg (by simp), w64 (n := (i : Int) + 1) (by omega) (by omega)]
    exact Ev.sb (Ev.pos rfl (eqE_l0 l hl d (i + 1) (by omega)))
theorem eqTree_ev (l : List Entry) (hl : l.length ≤ 8796093022208) : Ev (fun k => laws_eqTree.f k l l) true := by
  unfold laws_eqTree.f laws_eqEntryS.f
  exact Ev.bind (Ev.pos rfl (eqE_l0 l hl l.length 0 (by omega))) (Ev.pos rfl (Ev.now _))

end Go.Proofs.YtgnmledjkamojaaDoor.Pure


namespace Go.Proofs.YtgnmledjkamojaaDoor.Pure
open Go Go.RowKit Go.Proofs.YtgnmledjkamojaaDoor.P Go.Proofs.YtgnmledjkamojaaDoorW.PrintWords Go.Proofs.YtgnmledjkamojaaDoorW.PrintLast
set_option linter.unusedVariables false
set_option linter.unusedSimpArgs false

def ltE (a b : Entry) : Prop := less a.f0.toList b.f0.toList = true
theorem ltE_irrefl (a : Entry) : ¬ ltE a a := fun h => by
  unfold ltE at h
  rw [less_irrefl] at h
  cases h
theorem ltE_trans {a b c : Entry} (h1 : ltE a b) (h2 : ltE b c) : ltE a c := less_trans _ _ _ h1 h2
/-- Two ascending rows with the same members are one. -/
theorem asc_unique : ∀ a b : List Entry, a.Pairwise ltE → b.Pairwise ltE → (∀ x, x ∈ a ↔ x ∈ b) → a = b
  | [], [], _, _, _ => rfl
  | [], y :: b, _, _, h => by
    have := (h y).2 List.mem_cons_self
    simp at this
  | x :: a, [], _, _, h => by
    have := (h x).1 List.mem_cons_self
    simp at this
  | x :: a, y :: b, h1, h2, h => by
    obtain ⟨h1a, h1b⟩ := List.pairwise_cons.1 h1
    obtain ⟨h2a, h2b⟩ := List.pairwise_cons.1 h2
    have hxy : x = y := by
      rcases List.mem_cons.1 ((h x).1 List.mem_cons_self) with e | e
      · exact e
      · rcases List.mem_cons.1 ((h y).2 List.mem_cons_self) with e2 | e2
        · exact e2.symm
        · exact absurd (ltE_trans (h1a y e2) (h2a x e)) (ltE_irrefl x)
    subst hxy
    congr 1
    refine asc_unique a b h1b h2b (fun z => ⟨fun hz => ?_, fun hz => ?_⟩)
    · rcases List.mem_cons.1 ((h z).1 (List.mem_cons_of_mem _ hz)) with e | e
      · subst e
        exact absurd (h1a z hz) (ltE_irrefl z)
      · exact e
    · rcases List.mem_cons.1 ((h z).2 (List.mem_cons_of_mem _ hz)) with e | e
      · subst e
        exact absurd (h2a z hz) (ltE_irrefl z)
      · exact e

end Go.Proofs.YtgnmledjkamojaaDoor.Pure


namespace Go.Proofs.YtgnmledjkamojaaDoor.Pure
open Go Go.RowKit Go.Proofs.YtgnmledjkamojaaDoor.P Go.Proofs.YtgnmledjkamojaaDoorW.PrintWords Go.Proofs.YtgnmledjkamojaaDoorW.PrintLast
set_option linter.unusedVariables false
set_option linter.unusedSimpArgs false

def insE (x : S37) : List S37 → List S37
  | [] => [x]
  | y :: r => if less x.f0.toList y.f0.toList = true then x :: y :: r else y :: insE x r
def sortE : List S37 → List S37
  | [] => []
  | x :: r => insE x (sortE r)
theorem insE_perm (x : S37) : ∀ l, (insE x l).Perm (x :: l)
  | [] => List.Perm.refl _
  | y :: r => by
    unfold insE
    split
    · exact List.Perm.refl _
    · exact ((insE_perm x r).cons y).trans (List.Perm.swap x y r)
theorem sortE_perm : ∀ l, (sortE l).Perm l
  | [] => List.Perm.refl _
  | x :: r => (insE_perm x (sortE r)).trans ((sortE_perm r).cons x)
theorem insE_asc (x : S37) : ∀ l : List S37, l.Pairwise ltE → (∀ y ∈ l, x.f0.toList ≠ y.f0.toList) → (insE x l).Pairwise ltE
  | [], _, _ => List.pairwise_singleton _ _
  | y :: r, h, hx => by
    obtain ⟨h1, h2⟩ := List.pairwise_cons.1 h
    unfold insE
    split
    · rename_i hl
      refine List.pairwise_cons.2 ⟨fun z hz => ?_, h⟩
      rcases List.mem_cons.1 hz with rfl | hz
      · exact hl
      · exact ltE_trans hl (h1 z hz)
    · rename_i hl
      refine List.pairwise_cons.2 ⟨fun z hz => ?_, insE_asc x r h2 (fun z hz => hx z (List.mem_cons_of_mem _ hz))⟩
      rcases List.mem_cons.1 ((insE_perm x r).mem_iff.1 hz) with rfl | hz
      · exact less_or (Bool.eq_false_iff.2 hl) (hx y List.mem_cons_self)
      · exact h1 z hz
/-- No two paths alike. -/
def Apart (l : List S37) : Prop := l.Pairwise fun x y => x.f0.toList ≠ y.f0.toList
instance (l : List S37) : Decidable (Apart l) := inferInstanceAs (Decidable (l.Pairwise fun x y => x.f0.toList ≠ y.f0.toList))
theorem sortE_asc : ∀ l : List S37, Apart l → (sortE l).Pairwise ltE
  | [], _ => List.Pairwise.nil
  | x :: r, h => by
    obtain ⟨h1, h2⟩ := List.pairwise_cons.1 h
    exact insE_asc x _ (sortE_asc r h2) (fun y hy => h1 y ((sortE_perm r).mem_iff.1 hy))
/-- What is a row's own order, once its paths ascend. -/
theorem sortE_of {l d : List S37} (ha : Apart l) (hp : d.Perm l) (hs : d.Pairwise fun x y => less y.f0.toList x.f0.toList = false) : d = sortE l := by
  have hd : Apart d := by
    unfold Apart at ha ⊢
    exact (hp.pairwise_iff (fun h => Ne.symm h)).2 ha
  refine asc_unique _ _ ?_ (sortE_asc l ha) (fun x => (hp.mem_iff).trans ((sortE_perm l).mem_iff).symm)
  exact List.Pairwise.imp₂ (fun x y h1 h2 => less_or h1 (Ne.symm h2)) hs hd

end Go.Proofs.YtgnmledjkamojaaDoor.Pure


namespace Go.Proofs.YtgnmledjkamojaaDoor.Pure
open Go Go.RowKit Go.Proofs.YtgnmledjkamojaaDoor.P Go.Proofs.YtgnmledjkamojaaDoorW.PrintWords Go.Proofs.YtgnmledjkamojaaDoorW.PrintLast
set_option linter.unusedVariables false
set_option linter.unusedSimpArgs false

/-- The bytes, cut at each c; cur: what has been read of the piece. -/
def cuts (c : UInt8) : List UInt8 → List UInt8 → List (List UInt8)
  | [], cur => [cur]
  | b :: r, cur => if b = c then cur :: cuts c r [] else cuts c r (cur ++ [b])
def ofBytes (l : List UInt8) : ByteArray := ⟨l.toArray⟩
theorem ofBytes_data (l : List UInt8) : (ofBytes l).data.toList = l := by simp [ofBytes]
theorem ofBytes_of (s : ByteArray) : ofBytes s.data.toList = s := ba_ext (ofBytes_data _)
theorem ofBytes_size (l : List UInt8) : (ofBytes l).size = l.length := by rw [← size_toList, ofBytes_data]
def piecesB (c : UInt8) (s : ByteArray) : List ByteArray := (cuts c s.data.toList []).map ofBytes

theorem cuts_free (c : UInt8) : ∀ (a cur : List UInt8), c ∉ a → cuts c a cur = [cur ++ a]
  | [], cur, _ => by rw [cuts, List.append_nil]
  | b :: r, cur, h => by
    rw [cuts, if_neg (fun e : b = c => h (by rw [e]; exact List.mem_cons_self ..)), cuts_free c r _ (fun hm => h (List.mem_cons_of_mem _ hm)), List.append_assoc]
    rfl
theorem cuts_hit (c : UInt8) (r : List UInt8) : ∀ (a cur : List UInt8), c ∉ a → cuts c (a ++ c :: r) cur = (cur ++ a) :: cuts c r []
  | [], cur, _ => by rw [List.nil_append, cuts, if_pos rfl, List.append_nil]
  | b :: a, cur, h => by
    rw [List.cons_append, cuts, if_neg (fun e : b = c => h (by rw [e]; exact List.mem_cons_self ..)), cuts_hit c r a _ (fun hm => h (List.mem_cons_of_mem _ hm)), List.append_assoc]
    rfl
theorem cuts_length (c : UInt8) : ∀ (l cur : List UInt8), (cuts c l cur).length ≤ l.length + 1
  | [], cur => by simp [cuts]
  | b :: r, cur => by
    rw [cuts]
    split
    · have := cuts_length c r []
      simp only [List.length_cons]
      omega
    · have := cuts_length c r (cur ++ [b])
      simp only [List.length_cons]
      omega
/-- All bytes are in the pieces, but for the cuts. -/
theorem cuts_total (c : UInt8) : ∀ (l cur : List UInt8), ((cuts c l cur).map List.length).sum + (cuts c l cur).length = cur.length + l.length + 1
  | [], cur => by simp [cuts]
  | b :: r, cur => by
    rw [cuts]
    split
    · have := cuts_total c r []
      simp only [List.map_cons, List.sum_cons, List.length_cons, List.length_nil] at this ⊢
      omega
    · have := cuts_total c r (cur ++ [b])
      simp only [List.length_append, List.length_cons, List.length_nil] at this ⊢
      omega
theorem piecesB_length (c : UInt8) (s : ByteArray) : (piecesB c s).length ≤ s.size + 1 := by
  unfold piecesB
  rw [List.length_map, ← size_toList]
  exact cuts_length c _ _
theorem piecesB_size (c : UInt8) (s : ByteArray) : ∀ p ∈ piecesB c s, p.size ≤ s.size := by
  intro p hp
  unfold piecesB at hp
  obtain ⟨l, hl, rfl⟩ := List.mem_map.1 hp
  have ht := cuts_total c s.data.toList []
  have h1 : l.length ≤ ((cuts c s.data.toList []).map List.length).sum := by
    have : ∀ (L : List (List UInt8)), l ∈ L → l.length ≤ (L.map List.length).sum := by
      intro L
      induction L with
      | nil => intro h; cases h
      | cons a L ih =>
        intro h
        rw [List.map_cons, List.sum_cons]
        rcases List.mem_cons.1 h with rfl | h
        · omega
        · have := ih h
          omega
    exact this _ hl
  have h2 : 1 ≤ (cuts c s.data.toList []).length := by
    cases hc : cuts c s.data.toList [] with
    | nil => rw [hc] at hl; cases hl
    | cons a r => simp
  rw [ofBytes_size, ← size_toList]
  simp only [List.length_nil] at ht
  omega

/-! ### the library -/
theorem index_one (c : UInt8) : ∀ l : List UInt8, (Go.Lib.index l [c] = -1 ∧ c ∉ l) ∨ ∃ a r, l = a ++ c :: r ∧ c ∉ a ∧ Go.Lib.index l [c] = (a.length : Int)
  | [] => .inl ⟨by simp [Go.Lib.index], by simp⟩
  | b :: l => by
    by_cases h : b = c
    · subst h
      exact .inr ⟨[], l, rfl, by simp, by rw [Go.Lib.index]; simp [List.isPrefixOf]⟩
    · have hp : ([c] : List UInt8).isPrefixOf (b :: l) = false := by simp [List.isPrefixOf, Ne.symm h]
      have hix : Go.Lib.index (b :: l) [c] = if Go.Lib.index l [c] == -1 then -1 else Go.Lib.index l [c] + 1 := by rw [Go.Lib.index, hp]; simp
      rcases index_one c l with ⟨h1, h2⟩ | ⟨a, r, h1, h2, h3⟩
      · refine .inl ⟨by rw [hix, h1]; rfl, fun hm => ?_⟩
        rcases List.mem_cons.1 hm with e | hm
        · exact h e.symm
        · exact h2 hm
      · refine .inr ⟨b :: a, r, by rw [h1]; rfl, fun hm => ?_, ?_⟩
        · rcases List.mem_cons.1 hm with e | hm
          · exact h e.symm
          · exact h2 hm
        · rw [hix, h3, if_neg (by simp)]
          simp
theorem splitB_one (c : UInt8) (save : Nat) (hs : save ≤ 1) : ∀ (n : Nat) (s : ByteArray), s.size ≤ n →
    (Go.Lib.splitB ⟨#[c]⟩ save (Go.Lib.countB s ⟨#[c]⟩) s).map (·.data.toList) = (if save = 0 then cuts c s.data.toList [] else Go.Lib.splitK [c] save (s.data.toList.count c) s.data.toList) := by
  intro n s hn
  rw [Go.Lib.splitB_data]
  have hc : Go.Lib.countB s ⟨#[c]⟩ = s.data.toList.count c := Go.Lib.count_one c _
  rw [hc]
  by_cases h0 : save = 0
  · subst h0
    rw [if_pos rfl]
    clear hn hc hs
    generalize s.data.toList = l
    suffices H : ∀ (m : Nat) (l : List UInt8), l.length ≤ m → Go.Lib.splitK [c] 0 (l.count c) l = cuts c l [] from H l.length l (Nat.le_refl _)
    intro m
    induction m with
    | zero =>
      intro l hl
      obtain rfl : l = [] := List.length_eq_zero_iff.1 (by omega)
      rfl
    | succ m ih =>
      intro l hl
      rcases index_one c l with ⟨h1, h2⟩ | ⟨a, r, h1, h2, h3⟩
      · rw [cuts_free c l [] h2, List.count_eq_zero_of_not_mem h2]
        rfl
      · have hcount : l.count c = r.count c + 1 := by
          rw [h1, List.count_append, List.count_cons_self, List.count_eq_zero_of_not_mem h2]
          omega
        rw [hcount, Go.Lib.splitK, if_neg (by rw [h3]; simp), h3, h1, cuts_hit c r a [] h2]
        have e1 : (a ++ c :: r).take ((a.length : Int).toNat + 0) = a := by simp
        have e2 : (a ++ c :: r).drop ((a.length : Int).toNat + [c].length) = r := by simp
        rw [e1, e2, ih r (by rw [h1, List.length_append, List.length_cons] at hl; omega)]
        rfl
  · rw [if_neg h0]
theorem split_eq (c : UInt8) (s : ByteArray) (hs : s.size < 4294967281) : strings_Split.f s ⟨#[c]⟩ = some (piecesB c s) := by
  unfold strings_Split.f
  rw [if_pos hs, if_pos (by simp [ByteArray.size])]
  congr 1
  have := splitB_one c 0 (by omega) s.size s (Nat.le_refl _)
  rw [if_pos rfl] at this
  unfold piecesB
  rw [← this, List.map_map]
  have : (ofBytes ∘ fun x : ByteArray => x.data.toList) = id := by
    funext x
    exact ofBytes_of x
  rw [this, List.map_id]

/-! ### the reference -/
theorem extract_data (s : ByteArray) (a b : Nat) : (s.extract a b).data.toList = (s.data.toList.take b).drop a := by
  rw [ByteArray.data_extract, Array.toList_extract]
  simp [List.extract, List.drop_take]
theorem spec_Pa0 (s : ByteArray) (hs : s.size ≤ 1048576) : ∀ (d i f : Nat) (acc : List ByteArray), i + d = s.size → f ≤ i → acc.length ≤ i →
    Ev (fun k => spec_l4Parts.l0 k s acc (f : Int) (i : Int)) (acc ++ (cuts 47 (s.data.toList.drop i) ((s.data.toList.take i).drop f)).map ofBytes)
  | 0, i, f, acc, hd, hf, ha => by
    refine Ev.step (fun k => spec_l4Parts.l0.eq_2 ..) (Ev.neg (by omega) (Ev.pos (by omega) (Ev.pos (by omega) (Ev.pos (by omega) ?_))))
    rw [List.drop_of_length_le (by rw [size_toList]; omega), cuts]
    have : s.extract (f : Int).toNat s.size = ofBytes ((s.data.toList.take i).drop f) := by
      apply ba_ext
      rw [ofBytes_data, extract_data, Int.toNat_natCast, show s.size = i from by omega]
    rw [this]
    exact Ev.now _
  | d + 1, i, f, acc, hd, hf, ha => by
    have hi : i < s.data.toList.length := by rw [size_toList]; omega
    have hb : bt s (i : Int) = (s.data.toList[i].toNat : Int) := by
      rw [bt_getD, List.getD_eq_getElem?_getD, List.getElem?_eq_getElem hi]
      rfl
    have hw : wrap64 ((i : Int) + 1) = ((i + 1 : Nat) : Int) := by rw [w64 (by omega) (by omega)]; omega
    have ht : (s.data.toList.take (i + 1)).drop f = (s.data.toList.take i).drop f ++ [s.data.toList[i]] := by
      rw [List.take_succ_eq_append_getElem hi, List.drop_append_of_le_length (by rw [List.length_take]; omega)]
    refine Ev.step (fun k => spec_l4Parts.l0.eq_2 ..) (Ev.pos (by omega) (Ev.pos (by omega) ?_))
    rw [List.drop_eq_getElem_cons hi, cuts, hb, hw]
    by_cases h : s.data.toList[i] = 47
    · rw [if_pos h]
      refine Ev.pos (by rw [h]; rfl) (Ev.pos (by omega) (Ev.pos (by omega) (Ev.pos (by omega) (Ev.pos (by omega) ?_))))
      have := spec_Pa0 s hs d (i + 1) (i + 1) (acc ++ [s.extract (f : Int).toNat (i : Int).toNat]) (by omega) (by omega) (by simp; omega)
      have e : s.extract (f : Int).toNat (i : Int).toNat = ofBytes ((s.data.toList.take i).drop f) := by
        apply ba_ext
        rw [ofBytes_data, extract_data, Int.toNat_natCast, Int.toNat_natCast]
      rw [e] at this ⊢
      rw [List.drop_of_length_le (l := s.data.toList.take (i + 1)) (by rw [List.length_take]; omega)] at this
      simpa using this
    · rw [if_neg h]
      refine Ev.neg (fun e => h (UInt8.toNat_inj.1 (by have : (47 : UInt8).toNat = 47 := rfl; omega))) ?_
      have := spec_Pa0 s hs d (i + 1) f acc (by omega) (by omega) (by omega)
      rwa [ht] at this
theorem spec_parts_ev (s : ByteArray) (hs : s.size ≤ 1048576) : Ev (fun k => spec_l4Parts.f k s) (piecesB 47 s) := by
  unfold spec_l4Parts.f piecesB
  have := spec_Pa0 s hs s.size 0 0 [] (by omega) (by omega) (by simp)
  simpa using this

end Go.Proofs.YtgnmledjkamojaaDoor.Pure


namespace Go.Proofs.YtgnmledjkamojaaDoor.Pure
open Go Go.RowKit Go.Proofs.YtgnmledjkamojaaDoor.P Go.Proofs.YtgnmledjkamojaaDoorW.PrintWords Go.Proofs.YtgnmledjkamojaaDoorW.PrintLast
set_option linter.unusedVariables false
set_option linter.unusedSimpArgs false

theorem in_eq4 (a b c : Int) : spec_l1In.f a b c = some (decide (b ≤ a ∧ a ≤ c)) := by
  unfold spec_l1In.f
  by_cases h : a ≥ b
  · rw [if_pos h]
    congr 1
    simp [h]
  · rw [if_neg h]
    congr 1
    simp [h]
theorem impl_in_eq4 (a b c : Int) : impl_in.f a b c = some (decide (b ≤ a ∧ a ≤ c)) := by
  unfold impl_in.f
  by_cases h : a ≥ b
  · rw [if_pos h]
    congr 1
    simp [h]
  · rw [if_neg h]
    congr 1
    simp [h]
def charOk (g : Bool) (b : Int) : Bool := if b < 33 then false else if b > 126 then false else if b = 47 then false else if b = 34 then false else if g = true then true else if b = 42 then false else if b = 63 then false else true
def allOk (g : Bool) (s : ByteArray) (i : Nat) : Bool := (s.data.toList.drop i).all fun b => charOk g (b.toNat : Int)
def partOk (s : ByteArray) (g : Bool) : Bool :=
  if 1 ≤ (s.size : Int) ∧ (s.size : Int) ≤ 20 then (if s.toList = ([46] : List UInt8) then false else if s.toList = ([46, 46] : List UInt8) then false else allOk g s 0) else false
theorem allOk_step (g : Bool) (s : ByteArray) (i : Nat) (h : i < s.size) : allOk g s i = (charOk g (bt s (i : Int)) && allOk g s (i + 1)) := by
  have hi : i < s.data.toList.length := by rw [size_toList]; exact h
  unfold allOk
  rw [List.drop_eq_getElem_cons hi, List.all_cons, bt_getD, List.getD_eq_getElem?_getD, List.getElem?_eq_getElem hi]
  rfl
theorem allOk_end (g : Bool) (s : ByteArray) (i : Nat) (h : s.size ≤ i) : allOk g s i = true := by
  unfold allOk
  rw [List.drop_of_length_le (by rw [size_toList]; exact h)]
  rfl
theorem spec_PO0 (s : ByteArray) (g : Bool) (hs : s.size ≤ 20) : ∀ (d i : Nat), i + d = s.size → Ev (fun k => spec_l4PartOk.l0 k s g (i : Int)) (allOk g s i)
  | 0, i, hd => by
    rw [allOk_end g s i (by omega)]
    exact Ev.step (fun k => spec_l4PartOk.l0.eq_2 ..) (Ev.neg (by omega) (Ev.now _))
  | d + 1, i, hd => by
    have hw : wrap64 ((i : Int) + 1) = ((i + 1 : Nat) : Int) := by rw [w64 (by omega) (by omega)]; omega
    have ih := spec_PO0 s g hs d (i + 1) (by omega)
    refine Ev.step (fun k => spec_l4PartOk.l0.eq_2 ..) (Ev.pos (by omega) (Ev.pos (by omega) ?_))
    rw [allOk_step g s i (by omega), hw]
    unfold charOk
    generalize bt s (i : Int) = b
    by_cases h1 : b < 33
    · rw [if_pos h1]; exact Ev.pos h1 (Ev.now _)
    by_cases h2 : b > 126
    · rw [if_neg h1, if_pos h2]; exact Ev.neg h1 (Ev.pos h2 (Ev.now _))
    by_cases h3 : b = 47
    · rw [if_neg h1, if_neg h2, if_pos h3]; exact Ev.neg h1 (Ev.neg h2 (Ev.pos h3 (Ev.now _)))
    by_cases h4 : b = 34
    · rw [if_neg h1, if_neg h2, if_neg h3, if_pos h4]; exact Ev.neg h1 (Ev.neg h2 (Ev.neg h3 (Ev.pos h4 (Ev.now _))))
    rw [if_neg h1, if_neg h2, if_neg h3, if_neg h4]
    refine Ev.neg h1 (Ev.neg h2 (Ev.neg h3 (Ev.neg h4 ?_)))
    by_cases hg : g = true
    · rw [if_pos hg, Bool.true_and]; exact Ev.pos hg ih
    rw [if_neg hg]
    refine Ev.neg hg ?_
    by_cases h5 : b = 42
    · rw [if_pos h5]; exact Ev.pos h5 (Ev.now _)
    by_cases h6 : b = 63
    · rw [if_neg h5, if_pos h6]; exact Ev.neg h5 (Ev.pos h6 (Ev.now _))
    rw [if_neg h5, if_neg h6, Bool.true_and]
    exact Ev.neg h5 (Ev.neg h6 ih)
theorem impl_PO0 (s : ByteArray) (g : Bool) (hs : s.size ≤ 20) : ∀ (d i : Nat), i + d = s.size → Ev (fun k => impl_goodPart.l0 k s g (i : Int)) (allOk g s i)
  | 0, i, hd => by
    rw [allOk_end g s i (by omega)]
    exact Ev.step (fun k => impl_goodPart.l0.eq_2 ..) (Ev.neg (by omega) (Ev.now _))
  | d + 1, i, hd => by
    have hw : wrap64 ((i : Int) + 1) = ((i + 1 : Nat) : Int) := by rw [w64 (by omega) (by omega)]; omega
    have ih := impl_PO0 s g hs d (i + 1) (by omega)
    refine Ev.step (fun k => impl_goodPart.l0.eq_2 ..) (Ev.pos (by omega) (Ev.pos (by omega) ?_))
    rw [allOk_step g s i (by omega), hw]
    unfold charOk
    generalize bt s (i : Int) = b
    by_cases h1 : b < 33
    · rw [if_pos h1]; exact Ev.pos h1 (Ev.now _)
    by_cases h2 : b > 126
    · rw [if_neg h1, if_pos h2]; exact Ev.neg h1 (Ev.pos h2 (Ev.now _))
    refine Ev.neg h1 (Ev.neg h2 ?_)
    rw [if_neg h1, if_neg h2]
    by_cases h4 : b = 34
    · rw [if_neg (by omega), if_pos h4]; exact Ev.pos h4 (Ev.now _)
    refine Ev.neg h4 ?_
    by_cases h3 : b = 47
    · rw [if_pos h3]; exact Ev.pos h3 (Ev.now _)
    rw [if_neg h3, if_neg h4]
    refine Ev.neg h3 ?_
    by_cases hg : g = true
    · rw [if_pos hg, Bool.true_and]; exact Ev.pos hg ih
    rw [if_neg hg]
    refine Ev.neg hg ?_
    by_cases h5 : b = 42
    · rw [if_pos h5]; exact Ev.pos h5 (Ev.now _)
    by_cases h6 : b = 63
    · rw [if_neg h5, if_pos h6]; exact Ev.neg h5 (Ev.pos h6 (Ev.now _))
    rw [if_neg h5, if_neg h6, Bool.true_and]
    exact Ev.neg h5 (Ev.neg h6 ih)
theorem spec_part_ev (s : ByteArray) (g : Bool) : Ev (fun k => spec_l4PartOk.f k s g) (partOk s g) := by
  unfold spec_l4PartOk.f partOk
  rw [in_eq4]
  refine Ev.sb ?_
  have bad : Ev (fun k => spec_l4PartOk.j0 k s g true) false := Ev.step (fun k => spec_l4PartOk.j0.eq_2 ..) (Ev.pos rfl (Ev.now _))
  by_cases h : 1 ≤ (s.size : Int) ∧ (s.size : Int) ≤ 20
  · rw [if_pos h]
    refine Ev.pos (decide_eq_true h) ?_
    by_cases h1 : s.toList = ([46] : List UInt8)
    · rw [if_pos h1]
      exact Ev.pos h1 bad
    · rw [if_neg h1]
      refine Ev.neg h1 ?_
      by_cases h2 : s.toList = ([46, 46] : List UInt8)
      · rw [if_pos h2, show (s.toList == ([46, 46] : List UInt8)) = true from beq_iff_eq.2 h2]
        exact bad
      · rw [if_neg h2, show (s.toList == ([46, 46] : List UInt8)) = false from beq_eq_false_iff_ne.2 h2]
        exact Ev.step (fun k => spec_l4PartOk.j0.eq_2 ..) (Ev.neg (by simp) (spec_PO0 s g (by omega) s.size 0 (by omega)))
  · rw [if_neg h]
    exact Ev.neg (by simpa using h) bad
theorem impl_part_ev (s : ByteArray) (g : Bool) : Ev (fun k => impl_goodPart.f k s g) (partOk s g) := by
  unfold impl_goodPart.f partOk
  rw [impl_in_eq4]
  refine Ev.sb ?_
  have bad : Ev (fun k => impl_goodPart.j0 k s g true) false := Ev.step (fun k => impl_goodPart.j0.eq_2 ..) (Ev.pos rfl (Ev.now _))
  by_cases h : 1 ≤ (s.size : Int) ∧ (s.size : Int) ≤ 20
  · rw [if_pos h]
    refine Ev.pos (decide_eq_true h) ?_
    by_cases h1 : s.toList = ([46] : List UInt8)
    · rw [if_pos h1]
      exact Ev.pos h1 bad
    · rw [if_neg h1]
      refine Ev.neg h1 ?_
      by_cases h2 : s.toList = ([46, 46] : List UInt8)
      · rw [if_pos h2, show (s.toList == ([46, 46] : List UInt8)) = true from beq_iff_eq.2 h2]
        exact bad
      · rw [if_neg h2, show (s.toList == ([46, 46] : List UInt8)) = false from beq_eq_false_iff_ne.2 h2]
        exact Ev.step (fun k => impl_goodPart.j0.eq_2 ..) (Ev.neg (by simp) (impl_PO0 s g (by omega) s.size 0 (by omega)))
  · rw [if_neg h]
    exact Ev.neg (by simpa using h) bad

/-- A path or a glob holds. -/
def pathOk (s : ByteArray) (g : Bool) : Bool := if (piecesB 47 s).length > 6 then false else (piecesB 47 s).all fun p => partOk p g
theorem rdB_eq {l : List ByteArray} {i : Nat} (h : i < l.length) : rdOf ByteArray.empty l (i : Int) = l[i] := by
  unfold rdOf
  rw [Int.toNat_natCast, List.getD_eq_getElem?_getD, List.getElem?_eq_getElem h]
  rfl
theorem spec_Ok0 (g : Bool) (l : List ByteArray) (hl : l.length ≤ 6) : ∀ (d i : Nat), i + d = l.length → Ev (fun k => spec_l4Ok.l0 k g l (i : Int)) ((l.drop i).all fun p => partOk p g)
  | 0, i, hd => by
    rw [List.drop_of_length_le (by omega)]
    exact Ev.step (fun k => spec_l4Ok.l0.eq_2 ..) (Ev.neg (by omega) (Ev.now _))
  | d + 1, i, hd => by
    have hi : i < l.length := by omega
    refine Ev.step (fun k => spec_l4Ok.l0.eq_2 ..) (Ev.pos (by omega) (Ev.pos (by omega) ?_))
    rw [rdB_eq hi, List.drop_eq_getElem_cons hi, List.all_cons, w64 (by omega) (by omega), show (i : Int) + 1 = ((i + 1 : Nat) : Int) from by omega]
    refine Ev.bind (spec_part_ev l[i] g) ?_
    by_cases h : partOk l[i] g = true
    · rw [h, Bool.true_and]
      exact Ev.pos rfl (spec_Ok0 g l hl d (i + 1) (by omega))
    · rw [Bool.eq_false_iff.2 h, Bool.false_and]
      exact Ev.neg (by simp) (Ev.now _)
theorem impl_Ok0 (g : Bool) (l : List ByteArray) (hl : l.length ≤ 6) : ∀ (d i : Nat), i + d = l.length → Ev (fun k => impl_parts.l0 k g l (l.length : Int) (i : Int)) ((l.drop i).all fun p => partOk p g)
  | 0, i, hd => by
    rw [List.drop_of_length_le (by omega)]
    exact Ev.step (fun k => impl_parts.l0.eq_2 ..) (Ev.neg (by omega) (Ev.now _))
  | d + 1, i, hd => by
    have hi : i < l.length := by omega
    refine Ev.step (fun k => impl_parts.l0.eq_2 ..) (Ev.pos (by omega) (Ev.pos (by omega) (Ev.pos (by omega) ?_)))
    rw [rdB_eq hi, List.drop_eq_getElem_cons hi, List.all_cons, w64 (by omega) (by omega), show (i : Int) + 1 = ((i + 1 : Nat) : Int) from by omega]
    refine Ev.bind (impl_part_ev l[i] g) ?_
    by_cases h : partOk l[i] g = true
    · rw [h, Bool.true_and]
      exact Ev.pos rfl (impl_Ok0 g l hl d (i + 1) (by omega))
    · rw [Bool.eq_false_iff.2 h, Bool.false_and]
      exact Ev.neg (by simp) (Ev.now _)
theorem pathOk_long (s : ByteArray) (g : Bool) (h : 126 < s.size) : pathOk s g = false := by
  unfold pathOk
  split
  · rfl
  · rename_i h6
    apply Bool.eq_false_iff.2
    intro hall
    have ht := cuts_total 47 s.data.toList []
    have hall' : ∀ l ∈ cuts 47 s.data.toList [], l.length ≤ 20 := by
      intro l hl
      have := List.all_eq_true.1 hall (ofBytes l) (List.mem_map.2 ⟨l, hl, rfl⟩)
      unfold partOk at this
      by_cases hz : 1 ≤ ((ofBytes l).size : Int) ∧ ((ofBytes l).size : Int) ≤ 20
      · rw [ofBytes_size] at hz
        omega
      · rw [if_neg hz] at this
        cases this
    have hsum : ∀ (L : List (List UInt8)), (∀ l ∈ L, l.length ≤ 20) → (L.map List.length).sum ≤ 20 * L.length := by
      intro L
      induction L with
      | nil => intro _; simp
      | cons a L ih =>
        intro hL
        have := ih (fun l hl => hL l (List.mem_cons_of_mem _ hl))
        have := hL a (List.mem_cons_self ..)
        simp only [List.map_cons, List.sum_cons, List.length_cons]
        omega
    have := hsum _ hall'
    unfold piecesB at h6
    rw [List.length_map] at h6
    rw [size_toList] at ht
    simp only [List.length_nil] at ht
    omega
theorem spec_ok_ev (s : ByteArray) (g : Bool) : Ev (fun k => spec_l4Ok.f k s g) (pathOk s g) := by
  unfold spec_l4Ok.f
  by_cases h : (s.size : Int) > 126
  · rw [pathOk_long s g (by omega)]
    exact Ev.pos h (Ev.now _)
  · refine Ev.neg h (Ev.bind (spec_parts_ev s (by omega)) ?_)
    unfold pathOk
    by_cases h6 : (piecesB 47 s).length > 6
    · rw [if_pos h6]
      exact Ev.pos (by omega) (Ev.now _)
    · rw [if_neg h6]
      exact Ev.neg (by omega) (spec_Ok0 g (piecesB 47 s) (by omega) (piecesB 47 s).length 0 (by omega))
theorem impl_parts_ev (s : ByteArray) (hs : s.size ≤ 1048576) (g : Bool) : Ev (fun k => impl_parts.f k s g) (pathOk s g) := by
  unfold impl_parts.f pathOk
  rw [split_eq 47 s (by omega)]
  refine Ev.sb ?_
  by_cases h6 : (piecesB 47 s).length > 6
  · rw [if_pos h6]
    exact Ev.pos (by omega) (Ev.now _)
  · rw [if_neg h6]
    exact Ev.neg (by omega) (impl_Ok0 g (piecesB 47 s) (by omega) (piecesB 47 s).length 0 (by omega))

end Go.Proofs.YtgnmledjkamojaaDoor.Pure


namespace Go.Proofs.YtgnmledjkamojaaDoor.Pure
open Go Go.RowKit Go.Proofs.YtgnmledjkamojaaDoor.P Go.Proofs.YtgnmledjkamojaaDoorW.PrintWords Go.Proofs.YtgnmledjkamojaaDoorW.PrintLast
set_option linter.unusedVariables false
set_option linter.unusedSimpArgs false

theorem spec_path_ev (s : ByteArray) : Ev (fun k => spec_ValidPath.f k s) (pathOk s false) := by
  unfold spec_ValidPath.f
  exact Ev.bind (spec_ok_ev s false) (Ev.now _)
theorem impl_path_ev (s : ByteArray) (h : s.size ≤ 1048576) : Ev (fun k => impl_ValidPath.f k s) (pathOk s false) := by
  unfold impl_ValidPath.f
  exact Ev.bind (impl_parts_ev s h false) (Ev.now _)
theorem spec_begins_eq (a b : ByteArray) : spec_l5Begins.f a b = some (begins a b) := by
  unfold spec_l5Begins.f
  have h := begins_iff a b
  by_cases h1 : (b.size : Int) > (a.size : Int)
  · rw [if_pos h1, if_pos (by omega), if_pos (by omega), Int.toNat_natCast]
    by_cases h2 : (b.extract 0 a.size).toList = a.toList
    · rw [if_pos h2, if_pos (by omega)]
      have h3 : b.extract 0 a.size = a := ba_ext (by rw [← Lib.toList_data, h2, Lib.toList_data])
      congr 1
      by_cases h4 : bt b (a.size : Int) = 47
      · rw [h.2 ⟨by omega, h3, h4⟩, h4]
        rfl
      · rw [Bool.eq_false_iff.2 (fun hh => h4 (h.1 hh).2.2)]
        exact beq_eq_false_iff_ne.2 h4
    · rw [if_neg h2, show begins a b = false from Bool.eq_false_iff.2 (fun hh => h2 (by rw [(h.1 hh).2.1]))]
  · rw [if_neg h1, show begins a b = false from Bool.eq_false_iff.2 (fun hh => h1 (by have := (h.1 hh).1; omega))]
theorem impl_over_eq (a b : ByteArray) (ha : a.size ≤ 1048576) : impl_over.f a b = some (begins a b) := by
  unfold impl_over.f strings_HasPrefix.f stringslite_HasPrefix.f
  rw [if_pos (by omega)]
  have e : (a ++ (⟨#[47]⟩ : ByteArray)).size = a.size + 1 := ByteArray.size_append
  have ed : (a ++ (⟨#[47]⟩ : ByteArray)).data.toList = a.data.toList ++ [47] := data_append _ _
  have hb : begins a b = true ↔ (a ++ (⟨#[47]⟩ : ByteArray)).data.toList <+: b.data.toList := by
    unfold begins Lib.hasPrefix
    rw [List.isPrefixOf_iff_prefix, ed]
  rw [List.prefix_iff_eq_take] at hb
  have hx : (b.extract 0 (a ++ (⟨#[47]⟩ : ByteArray)).size).data.toList = b.data.toList.take (a ++ (⟨#[47]⟩ : ByteArray)).data.toList.length := by
    rw [ByteArray.data_extract, Array.toList_extract, List.extract_eq_take_drop, List.drop_zero, Nat.sub_zero, size_toList]
  by_cases h1 : (b.size : Int) ≥ ((a ++ (⟨#[47]⟩ : ByteArray)).size : Int)
  · rw [if_pos h1, if_pos (by omega), if_pos (by omega), Int.toNat_natCast]
    show some ((b.extract 0 (a ++ (⟨#[47]⟩ : ByteArray)).size).toList == (a ++ (⟨#[47]⟩ : ByteArray)).toList) = some (begins a b)
    congr 1
    rw [Lib.toList_data, Lib.toList_data, hx]
    by_cases h2 : begins a b = true
    · rw [h2, ← hb.1 h2]
      exact beq_self_eq_true _
    · rw [Bool.eq_false_iff.2 h2]
      exact beq_eq_false_iff_ne.2 (fun hh => h2 (hb.2 hh.symm))
  · rw [if_neg h1]
    show some false = _
    rw [show begins a b = false from Bool.eq_false_iff.2 (fun hh => h1 (by
      have := ((begins_iff a b).1 hh).1
      omega))]

/-- One of the rows behind i (d of them) lies over p. -/
def anyOver (l : List Entry) (p : ByteArray) : Nat → Nat → Bool
  | 0, _ => false
  | d + 1, i => if begins (rd_T37 l (i : Int)).f0 p = true then true else anyOver l p d (i + 1)
def entryOk (e : Entry) : Bool := if pathOk e.f0 false = true then decide ((e.f1.size : Int) ≤ 1500) else false
def rowOk (l : List Entry) (i : Nat) : Bool :=
  if entryOk (rd_T37 l (i : Int)) = true then (if (i : Int) > 0 then Op.bytesLess (rd_T37 l ((i : Int) - 1)).f0.toList (rd_T37 l (i : Int)).f0.toList else true) else false
def treeFrom (l : List Entry) : Nat → Nat → Bool
  | 0, _ => true
  | d + 1, i => if rowOk l i = true then (if anyOver l (rd_T37 l (i : Int)).f0 i 0 = true then false else treeFrom l d (i + 1)) else false
def treeOk (l : List Entry) : Bool := if (l.length : Int) > 100 then false else treeFrom l l.length 0

theorem spec_VT1 (l : List Entry) (hl : l.length ≤ 100) (n : Nat) (hn : n < l.length) (p t : ByteArray) (u R : Bool) (hR : Ev (fun k => spec_ValidTree.l0 k ((n : Int) + 1) l) R) : ∀ (d j : Nat), j + d = n →
    Ev (fun k => spec_ValidTree.l1 k (n : Int) (j : Int) l p t u) (if anyOver l p d j = true then false else R)
  | 0, j, hd => by
    rw [anyOver, if_neg (by simp)]
    refine Ev.step (fun k => spec_ValidTree.l1.eq_2 ..) (Ev.neg (by omega) ?_)
    rw [w64 (n := (n : Int) + 1) (by omega) (by omega)]
    exact hR
  | d + 1, j, hd => by
    refine Ev.step (fun k => spec_ValidTree.l1.eq_2 ..) (Ev.pos (by omega) (Ev.pos (by omega) (Ev.pos (by omega) ?_)))
    rw [spec_begins_eq, anyOver, w64 (n := (j : Int) + 1) (by omega) (by omega)]
    refine Ev.sb ?_
    by_cases h : begins (rd_T37 l (j : Int)).f0 p = true
    · rw [if_pos h, if_pos rfl]
      exact Ev.pos h (Ev.now _)
    · rw [if_neg h]
      exact Ev.neg h (spec_VT1 l hl n hn p t u R hR d (j + 1) (by omega))
theorem spec_VT0 (l : List Entry) (hl : l.length ≤ 100) : ∀ (d i : Nat), i + d = l.length → Ev (fun k => spec_ValidTree.l0 k (i : Int) l) (treeFrom l d i)
  | 0, i, hd => by
    rw [treeFrom]
    exact Ev.step (fun k => spec_ValidTree.l0.eq_2 ..) (Ev.neg (by omega) (Ev.now _))
  | d + 1, i, hd => by
    have ih := spec_VT0 l hl d (i + 1) (by omega)
    rw [show ((i + 1 : Nat) : Int) = (i : Int) + 1 from by omega] at ih
    refine Ev.step (fun k => spec_ValidTree.l0.eq_2 ..) (Ev.pos (by omega) (Ev.pos (by omega) (Ev.bind (spec_path_ev _) ?_)))
    rw [treeFrom]
    have L := fun p t u => spec_VT1 l hl i (by omega) p t u _ ih i 0 (by omega)
    have jt : ∀ p t u, Ev (fun k => spec_ValidTree.j1 k (i : Int) true l p t u) false := fun p t u => Ev.step (fun k => spec_ValidTree.j1.eq_2 ..) (Ev.pos rfl (Ev.now _))
    have jf : ∀ p t u R, Ev (fun k => spec_ValidTree.l1 k (i : Int) 0 l p t u) R → Ev (fun k => spec_ValidTree.j1 k (i : Int) false l p t u) R := fun p t u R h => Ev.step (fun k => spec_ValidTree.j1.eq_2 ..) (Ev.neg (by simp) h)
    by_cases h1 : pathOk (rd_T37 l (i : Int)).f0 false = true
    · refine Ev.pos h1 ?_
      by_cases h2 : ((rd_T37 l (i : Int)).f1.size : Int) > 1500
      · have e : rowOk l i = false := by
          unfold rowOk entryOk
          rw [if_pos h1, decide_eq_false (by omega)]
          rfl
        rw [e, if_neg (by simp)]
        exact Ev.pos h2 (jt _ _ _)
      · have e0 : entryOk (rd_T37 l (i : Int)) = true := by
          unfold entryOk
          rw [if_pos h1, decide_eq_true (by omega)]
        refine Ev.neg h2 ?_
        by_cases h3 : (i : Int) > 0
        · refine Ev.pos h3 ?_
          rw [w64 (n := (i : Int) - 1) (by omega) (by omega)]
          refine Ev.pos (by omega) (Ev.pos (by omega) ?_)
          have e : rowOk l i = Op.bytesLess (rd_T37 l ((i : Int) - 1)).f0.toList (rd_T37 l (i : Int)).f0.toList := by
            unfold rowOk
            rw [if_pos e0, if_pos h3]
          rw [e]
          by_cases h4 : Op.bytesLess (rd_T37 l ((i : Int) - 1)).f0.toList (rd_T37 l (i : Int)).f0.toList = true
          · rw [if_pos h4, h4]
            exact jf _ _ _ _ (L _ _ _)
          · rw [if_neg h4, Bool.eq_false_iff.2 h4]
            exact jt _ _ _
        · have e : rowOk l i = true := by
            unfold rowOk
            rw [if_pos e0, if_neg h3]
          rw [e, if_pos rfl]
          exact Ev.neg h3 (jf _ _ _ _ (L _ _ _))
    · have e : rowOk l i = false := by
        unfold rowOk entryOk
        rw [if_neg h1]
        rfl
      rw [e, if_neg (by simp)]
      exact Ev.neg h1 (jt _ _ _)
theorem spec_ValidTree_ev (l : List Entry) : Ev (fun k => spec_ValidTree.f k l) (treeOk l) := by
  unfold spec_ValidTree.f treeOk
  by_cases h : (l.length : Int) > 100
  · rw [if_pos h]
    exact Ev.pos h (Ev.now _)
  · rw [if_neg h]
    exact Ev.neg h (spec_VT0 l (by omega) l.length 0 (by omega))
theorem impl_VT1 (l : List Entry) (hl : l.length ≤ 100) (hz : ∀ i : Nat, (rd_T37 l (i : Int)).f0.size ≤ 1048576) (n : Nat) (hn : n < l.length) (p t : ByteArray) (u R : Bool) (hR : Ev (fun k => impl_ValidTree.l0 k l (l.length : Int) ((n : Int) + 1) l) R) : ∀ (d j : Nat), j + d = n →
    Ev (fun k => impl_ValidTree.l1 k (n : Int) (j : Int) l (l.length : Int) (n : Int) l p t u) (if anyOver l p d j = true then false else R)
  | 0, j, hd => by
    rw [anyOver, if_neg (by simp)]
    refine Ev.step (fun k => impl_ValidTree.l1.eq_2 ..) (Ev.neg (by omega) ?_)
    rw [w64 (n := (n : Int) + 1) (by omega) (by omega)]
    exact hR
  | d + 1, j, hd => by
    refine Ev.step (fun k => impl_ValidTree.l1.eq_2 ..) (Ev.pos (by omega) (Ev.pos (by omega) (Ev.pos (by omega) ?_)))
    rw [impl_over_eq _ _ (hz j), anyOver, w64 (n := (j : Int) + 1) (by omega) (by omega)]
    refine Ev.sb ?_
    by_cases h : begins (rd_T37 l (j : Int)).f0 p = true
    · rw [if_pos h, if_pos rfl]
      exact Ev.pos h (Ev.now _)
    · rw [if_neg h]
      exact Ev.neg h (impl_VT1 l hl hz n hn p t u R hR d (j + 1) (by omega))
theorem impl_goodEntry_ev (p t : ByteArray) (u : Bool) (h : p.size ≤ 1048576) : Ev (fun k => impl_goodEntry.f k p t u) (entryOk ⟨p, t, u⟩) := by
  unfold impl_goodEntry.f entryOk
  exact Ev.bind (impl_path_ev p h) (Ev.both (fun _ => Ev.now _) (fun _ => Ev.now _))
theorem impl_VT0 (l : List Entry) (hl : l.length ≤ 100) (hz : ∀ i : Nat, (rd_T37 l (i : Int)).f0.size ≤ 1048576) : ∀ (d i : Nat), i + d = l.length → Ev (fun k => impl_ValidTree.l0 k l (l.length : Int) (i : Int) l) (treeFrom l d i)
  | 0, i, hd => by
    rw [treeFrom]
    exact Ev.step (fun k => impl_ValidTree.l0.eq_2 ..) (Ev.neg (by omega) (Ev.now _))
  | d + 1, i, hd => by
    have ih := impl_VT0 l hl hz d (i + 1) (by omega)
    rw [show ((i + 1 : Nat) : Int) = (i : Int) + 1 from by omega] at ih
    refine Ev.step (fun k => impl_ValidTree.l0.eq_2 ..) (Ev.pos (by omega) (Ev.pos (by omega) (Ev.pos (by omega) (Ev.bind (impl_goodEntry_ev _ _ _ (hz i)) ?_))))
    rw [treeFrom]
    have L := fun p t u => impl_VT1 l hl hz i (by omega) p t u _ ih i 0 (by omega)
    have jt : ∀ p t u, Ev (fun k => impl_ValidTree.j1 k (i : Int) l (l.length : Int) (i : Int) true l p t u) false := fun p t u => Ev.step (fun k => impl_ValidTree.j1.eq_2 ..) (Ev.pos rfl (Ev.now _))
    have jf : ∀ p t u R, Ev (fun k => impl_ValidTree.l1 k (i : Int) 0 l (l.length : Int) (i : Int) l p t u) R → Ev (fun k => impl_ValidTree.j1 k (i : Int) l (l.length : Int) (i : Int) false l p t u) R := fun p t u R h => Ev.step (fun k => impl_ValidTree.j1.eq_2 ..) (Ev.neg (by simp) h)
    have he : (⟨(rd_T37 l (i : Int)).f0, (rd_T37 l (i : Int)).f1, (rd_T37 l (i : Int)).f2⟩ : Entry) = rd_T37 l (i : Int) := rfl
    rw [he]
    by_cases h1 : entryOk (rd_T37 l (i : Int)) = true
    · refine Ev.pos h1 ?_
      by_cases h3 : (i : Int) > 0
      · refine Ev.pos h3 ?_
        rw [w64 (n := (i : Int) - 1) (by omega) (by omega)]
        refine Ev.pos (by omega) (Ev.pos (by omega) ?_)
        have e : rowOk l i = Op.bytesLess (rd_T37 l ((i : Int) - 1)).f0.toList (rd_T37 l (i : Int)).f0.toList := by
          unfold rowOk
          rw [if_pos h1, if_pos h3]
        rw [e]
        by_cases h4 : Op.bytesLess (rd_T37 l ((i : Int) - 1)).f0.toList (rd_T37 l (i : Int)).f0.toList = true
        · rw [if_pos h4, h4]
          exact jf _ _ _ _ (L _ _ _)
        · rw [if_neg h4, Bool.eq_false_iff.2 h4]
          exact jt _ _ _
      · have e : rowOk l i = true := by
          unfold rowOk
          rw [if_pos h1, if_neg h3]
        rw [e, if_pos rfl]
        exact Ev.neg h3 (jf _ _ _ _ (L _ _ _))
    · have e : rowOk l i = false := by
        unfold rowOk
        rw [if_neg h1]
      rw [e, if_neg (by simp)]
      exact Ev.neg h1 (jt _ _ _)
theorem rdE_small {l : List Entry} (h : ∀ e ∈ l, e.f0.size ≤ 1048576) (i : Nat) : (rd_T37 l (i : Int)).f0.size ≤ 1048576 := by
  by_cases hi : i < l.length
  · rw [rdE_eq hi]
    exact h _ (List.getElem_mem hi)
  · have : rd_T37 l (i : Int) = z37 := by
      show l.getD (i : Int).toNat _ = _
      rw [Int.toNat_natCast, List.getD_eq_getElem?_getD, List.getElem?_eq_none (by omega)]
      rfl
    rw [this]
    decide
theorem impl_ValidTree_ev (l : List Entry) (hz : ∀ e ∈ l, e.f0.size ≤ 1048576) : Ev (fun k => impl_ValidTree.f k l) (treeOk l) := by
  unfold impl_ValidTree.f treeOk
  by_cases h : (l.length : Int) > 100
  · rw [if_pos h]
    exact Ev.pos h (Ev.now _)
  · rw [if_neg h]
    exact Ev.neg h (impl_VT0 l (by omega) (rdE_small hz) l.length 0 (by omega))

end Go.Proofs.YtgnmledjkamojaaDoor.Pure


namespace Go.Proofs.YtgnmledjkamojaaDoor.Pure
open Go Go.RowKit Go.Proofs.YtgnmledjkamojaaDoor.P Go.Proofs.YtgnmledjkamojaaDoorW.PrintWords Go.Proofs.YtgnmledjkamojaaDoorW.PrintLast
set_option linter.unusedVariables false
set_option linter.unusedSimpArgs false

theorem treeFrom_rows (l : List Entry) : ∀ (d i : Nat), treeFrom l d i = true → ∀ j, i ≤ j → j < i + d → rowOk l j = true
  | 0, i, h, j, h1, h2 => by omega
  | d + 1, i, h, j, h1, h2 => by
    unfold treeFrom at h
    split at h
    · rename_i hr
      split at h
      · cases h
      · rcases Nat.eq_or_lt_of_le h1 with rfl | h3
        · exact hr
        · exact treeFrom_rows l d (i + 1) h j (by omega) (by omega)
    · cases h
theorem treeOk_rows {l : List Entry} (h : treeOk l = true) (j : Nat) (hj : j < l.length) : rowOk l j = true := by
  unfold treeOk at h
  split at h
  · cases h
  · exact treeFrom_rows l _ _ h j (by omega) (by omega)
/-- The rows' paths ascend. -/
theorem treeOk_next {l : List Entry} (h : treeOk l = true) (j : Nat) (hj : j + 1 < l.length) : less (l[j].f0.toList) (l[j + 1].f0.toList) = true := by
  have := treeOk_rows h (j + 1) hj
  unfold rowOk at this
  split at this
  · rw [if_pos (by omega), show ((j + 1 : Nat) : Int) - 1 = (j : Int) from by omega, rdE_eq (show j < l.length by omega), rdE_eq hj] at this
    exact this
  · cases this
theorem treeOk_asc {l : List Entry} (h : treeOk l = true) : ∀ (d i : Nat) (hj : i + d + 1 < l.length), less (l[i].f0.toList) (l[i + d + 1].f0.toList) = true
  | 0, i, hj => treeOk_next h i hj
  | d + 1, i, hj => less_trans _ _ _ (treeOk_asc h d i (by omega)) (treeOk_next h (i + d + 1) (by omega))
theorem treeOk_lt {l : List Entry} (h : treeOk l = true) {i j : Nat} (hij : i < j) (hj : j < l.length) : less (l[i].f0.toList) (l[j].f0.toList) = true := by
  have := treeOk_asc h (j - i - 1) i (by omega)
  simp only [show i + (j - i - 1) + 1 = j from by omega] at this
  exact this

end Go.Proofs.YtgnmledjkamojaaDoor.Pure


namespace Go.Proofs.YtgnmledjkamojaaDoor.Pure
open Go Go.RowKit Go.Proofs.YtgnmledjkamojaaDoor.P Go.Proofs.YtgnmledjkamojaaDoorW.PrintWords Go.Proofs.YtgnmledjkamojaaDoorW.PrintLast
set_option linter.unusedVariables false
set_option linter.unusedSimpArgs false

/-- The entry lies elsewhere. -/
def notAt (p : ByteArray) (z : Entry) : Bool := !decide (z.f0.toList = p.toList)
def setR (e : Entry) : List Entry → List Entry
  | [] => [e]
  | y :: r => if less y.f0.toList e.f0.toList = true then y :: setR e r else e :: (y :: r).filter (notAt e.f0)
theorem spec_S_done (l : List Entry) (hl : l.length ≤ 1000) (p t : ByteArray) (u : Bool) : ∀ (d i : Nat) (acc : List Entry), i + d = l.length → acc.length ≤ i + 1 → Ev (fun k => spec_l5Set.l0 k true (i : Int) l p t u acc) (acc ++ (l.drop i).filter (notAt p))
  | 0, i, acc, hd, ha => by
    rw [List.drop_of_length_le (by omega)]
    refine Ev.step (fun k => spec_l5Set.l0.eq_2 ..) (Ev.neg (by omega) (Ev.pos rfl ?_))
    show Ev _ (acc ++ [])
    rw [List.append_nil]
    exact Ev.now _
  | d + 1, i, acc, hd, ha => by
    have hi : i < l.length := by omega
    refine Ev.step (fun k => spec_l5Set.l0.eq_2 ..) (Ev.pos (by omega) (Ev.pos rfl (Ev.step (fun k => spec_l5Set.j1.eq_2 ..) (Ev.neg (by simp) (Ev.pos (by omega) (Ev.pos (by omega) ?_))))))
    rw [rdE_eq hi, w64 (n := (i : Int) + 1) (by omega) (by omega), show (i : Int) + 1 = ((i + 1 : Nat) : Int) from by omega, List.drop_eq_getElem_cons hi]
    by_cases h : l[i].f0.toList = p.toList
    · rw [List.filter_cons_of_neg (by simp [notAt, h])]
      exact Ev.pos h (spec_S_done l hl p t u d (i + 1) acc (by omega) (by omega))
    · rw [List.filter_cons_of_pos (by simp [notAt, h]), List.append_cons acc l[i] (List.filter (notAt p) (l.drop (i + 1)))]
      exact Ev.neg h (Ev.pos (by omega) (spec_S_done l hl p t u d (i + 1) (acc ++ [l[i]]) (by omega) (by rw [List.length_append, List.length_singleton]; omega)))
theorem spec_S_open (l : List Entry) (hl : l.length ≤ 1000) (p t : ByteArray) (u : Bool) : ∀ (d i : Nat) (acc : List Entry), i + d = l.length → acc.length ≤ i → Ev (fun k => spec_l5Set.l0 k false (i : Int) l p t u acc) (acc ++ setR ⟨p, t, u⟩ (l.drop i))
  | 0, i, acc, hd, ha => by
    rw [List.drop_of_length_le (by omega)]
    exact Ev.step (fun k => spec_l5Set.l0.eq_2 ..) (Ev.neg (by omega) (Ev.neg (by simp) (Ev.pos (by omega) (Ev.now _))))
  | d + 1, i, acc, hd, ha => by
    have hi : i < l.length := by omega
    refine Ev.step (fun k => spec_l5Set.l0.eq_2 ..) (Ev.pos (by omega) (Ev.neg (by simp) (Ev.pos (by omega) (Ev.step (fun k => spec_l5Set.j1.eq_2 ..) ?_))))
    rw [rdE_eq hi, w64 (n := (i : Int) + 1) (by omega) (by omega), show (i : Int) + 1 = ((i + 1 : Nat) : Int) from by omega, List.drop_eq_getElem_cons hi]
    by_cases hlt : Op.bytesLess l[i].f0.toList p.toList = true
    · have h : ¬ l[i].f0.toList = p.toList := fun e => by
        rw [e] at hlt
        have := less_irrefl p.toList
        unfold less at this
        rw [this] at hlt
        cases hlt
      have e : setR ⟨p, t, u⟩ (l[i] :: l.drop (i + 1)) = l[i] :: setR ⟨p, t, u⟩ (l.drop (i + 1)) := by
        conv => lhs; unfold setR
        exact if_pos hlt
      rw [e, List.append_cons acc l[i] (setR ⟨p, t, u⟩ (l.drop (i + 1)))]
      exact Ev.neg (by rw [hlt]; simp) (Ev.pos (by omega) (Ev.pos (by omega) (Ev.neg h (Ev.pos (by omega) (spec_S_open l hl p t u d (i + 1) (acc ++ [l[i]]) (by omega) (by rw [List.length_append, List.length_singleton]; omega))))))
    · have e : setR ⟨p, t, u⟩ (l[i] :: l.drop (i + 1)) = ⟨p, t, u⟩ :: (l[i] :: l.drop (i + 1)).filter (notAt p) := by
        conv => lhs; unfold setR
        exact if_neg hlt
      rw [e]
      refine Ev.pos (by rw [Bool.eq_false_iff.2 hlt]; rfl) (Ev.pos (by omega) (Ev.sb (Ev.pos (by omega) (Ev.pos (by omega) ?_))))
      by_cases h : l[i].f0.toList = p.toList
      · rw [List.filter_cons_of_neg (by simp [notAt, h]), List.append_cons acc ⟨p, t, u⟩ (List.filter (notAt p) (l.drop (i + 1)))]
        exact Ev.pos h (spec_S_done l hl p t u d (i + 1) (acc ++ [⟨p, t, u⟩]) (by omega) (by rw [List.length_append, List.length_singleton]; omega))
      · rw [List.filter_cons_of_pos (by simp [notAt, h]), List.append_cons acc ⟨p, t, u⟩ (l[i] :: List.filter (notAt p) (l.drop (i + 1))), List.append_cons (acc ++ [(⟨p, t, u⟩ : Entry)]) l[i] (List.filter (notAt p) (l.drop (i + 1)))]
        exact Ev.neg h (Ev.pos (by rw [List.length_append, List.length_singleton]; omega) (spec_S_done l hl p t u d (i + 1) (acc ++ [⟨p, t, u⟩] ++ [l[i]]) (by omega) (by simp only [List.length_append, List.length_singleton]; omega)))
theorem spec_set_ev (l : List Entry) (hl : l.length ≤ 1000) (p t : ByteArray) (u : Bool) : Ev (fun k => spec_l5Set.f k l p t u) (setR ⟨p, t, u⟩ l) := by
  unfold spec_l5Set.f
  exact spec_S_open l hl p t u l.length 0 [] (by omega) (by simp)
theorem notAt_iff {p : ByteArray} {z : Entry} : notAt p z = true ↔ z.f0.toList ≠ p.toList := by
  unfold notAt
  simp
theorem setR_len (e : Entry) : ∀ l, (setR e l).length ≤ l.length + 1
  | [] => by simp [setR]
  | y :: r => by
    unfold setR
    split
    · have := setR_len e r
      simp only [List.length_cons]
      omega
    · have := List.length_filter_le (notAt e.f0) (y :: r)
      simp only [List.length_cons] at this ⊢
      omega
theorem setR_mem (e : Entry) : ∀ (l : List Entry) (x : Entry), x ∈ setR e l ↔ x = e ∨ (x ∈ l ∧ x.f0.toList ≠ e.f0.toList)
  | [], x => by simp [setR]
  | y :: r, x => by
    unfold setR
    split
    · rename_i hlt
      have hy : y.f0.toList ≠ e.f0.toList := fun h => by
        rw [h, less_irrefl] at hlt
        cases hlt
      rw [List.mem_cons, setR_mem e r x, List.mem_cons]
      constructor
      · rintro (rfl | rfl | ⟨h1, h2⟩)
        · exact .inr ⟨.inl rfl, hy⟩
        · exact .inl rfl
        · exact .inr ⟨.inr h1, h2⟩
      · rintro (rfl | ⟨rfl | h1, h2⟩)
        · exact .inr (.inl rfl)
        · exact .inl rfl
        · exact .inr (.inr ⟨h1, h2⟩)
    · rw [List.mem_cons, List.mem_filter, notAt_iff]
theorem setR_asc (e : Entry) : ∀ l : List Entry, l.Pairwise ltE → (setR e l).Pairwise ltE
  | [], _ => List.pairwise_singleton _ _
  | y :: r, h => by
    have h' := h
    obtain ⟨h1, h2⟩ := List.pairwise_cons.1 h'
    unfold setR
    split
    · rename_i hlt
      refine List.pairwise_cons.2 ⟨fun z hz => ?_, setR_asc e r h2⟩
      rcases (setR_mem e r z).1 hz with rfl | ⟨hz, _⟩
      · exact hlt
      · exact h1 z hz
    · rename_i hlt
      refine List.pairwise_cons.2 ⟨fun z hz => ?_, h.filter _⟩
      obtain ⟨hz, hn⟩ := List.mem_filter.1 hz
      rw [notAt_iff] at hn
      by_cases hy : y.f0.toList = e.f0.toList
      · rcases List.mem_cons.1 hz with rfl | hz
        · exact absurd hy hn
        · have := h1 z hz
          unfold ltE at this ⊢
          rw [← hy]
          exact this
      · have hey : ltE e y := less_or (Bool.eq_false_iff.2 hlt) hy
        rcases List.mem_cons.1 hz with rfl | hz
        · exact hey
        · exact ltE_trans hey (h1 z hz)
theorem asc_apart {l : List Entry} (h : l.Pairwise ltE) : Apart l := h.imp fun {a b} hab e => by
  unfold ltE at hab
  rw [e, less_irrefl] at hab
  cases hab
theorem set_apart (e : Entry) {l : List Entry} (h : l.Pairwise ltE) : Apart (e :: l.filter (notAt e.f0)) :=
  List.pairwise_cons.2 ⟨fun z hz => (notAt_iff.1 (List.mem_filter.1 hz).2).symm, asc_apart (h.filter _)⟩
/-- Set is: the row without the path, the entry beside it, sorted. -/
theorem setR_sort (e : Entry) {l : List Entry} (h : l.Pairwise ltE) : setR e l = sortE (e :: l.filter (notAt e.f0)) := by
  refine asc_unique _ _ (setR_asc e l h) (sortE_asc _ (set_apart e h)) (fun x => ?_)
  rw [setR_mem, (sortE_perm _).mem_iff, List.mem_cons, List.mem_filter, notAt_iff]
theorem treeOk_pair {l : List Entry} (h : treeOk l = true) : l.Pairwise ltE := by
  rw [List.pairwise_iff_getElem]
  intro i j hi hj hij
  exact treeOk_lt h hij hj
theorem pathOk_size {s : ByteArray} {g : Bool} (h : pathOk s g = true) : s.size ≤ 126 := by
  rcases Nat.lt_or_ge 126 s.size with h' | h'
  · rw [pathOk_long s g h'] at h
    cases h
  · exact h'
theorem treeOk_path {l : List Entry} (h : treeOk l = true) {i : Nat} (hi : i < l.length) : pathOk l[i].f0 false = true := by
  have := treeOk_rows h i hi
  unfold rowOk entryOk at this
  rw [rdE_eq hi] at this
  by_cases hp : pathOk l[i].f0 false = true
  · exact hp
  · rw [if_neg hp] at this
    cases this
theorem treeOk_size {l : List Entry} (h : treeOk l = true) {i : Nat} (hi : i < l.length) : l[i].f0.size ≤ 126 := pathOk_size (treeOk_path h hi)
theorem treeOk_size' {l : List Entry} (h : treeOk l = true) : ∀ e ∈ l, e.f0.size ≤ 126 := by
  intro e he
  obtain ⟨i, hi, rfl⟩ := List.getElem_of_mem he
  exact treeOk_size h hi
theorem treeOk_len100 {l : List Entry} (h : treeOk l = true) : l.length ≤ 100 := by
  unfold treeOk at h
  split at h
  · cases h
  · omega

end Go.Proofs.YtgnmledjkamojaaDoor.Pure


namespace Go.Proofs.YtgnmledjkamojaaDoor.Pure
open Go Go.RowKit Go.Proofs.YtgnmledjkamojaaDoor.P Go.Proofs.YtgnmledjkamojaaDoorW.PrintWords Go.Proofs.YtgnmledjkamojaaDoorW.PrintLast
set_option linter.unusedVariables false
set_option linter.unusedSimpArgs false

theorem mget_mput {α : Type} (z v : α) (k q : ByteArray) : ∀ M : List (ByteArray × α), mget z q (mput k v M) = if k.toList = q.toList then v else mget z q M
  | [] => by
    unfold mput mget
    split
    · rfl
    · rfl
  | p :: r => by
    by_cases hp : p.1.toList = k.toList
    · rw [mput, if_pos hp]
      by_cases hk : k.toList = q.toList
      · rw [if_pos hk, mget, if_pos hk]
      · rw [if_neg hk, mget, if_neg hk, mget, if_neg (by rw [hp]; exact hk)]
    · rw [mput, if_neg hp]
      by_cases hq : p.1.toList = q.toList
      · rw [mget, if_pos hq, if_neg (by rw [← hq]; exact fun e => hp e.symm), mget, if_pos hq]
      · rw [mget, if_neg hq, mget_mput z v k q r]
        by_cases hk : k.toList = q.toList
        · rw [if_pos hk, if_pos hk]
        · rw [if_neg hk, if_neg hk, mget, if_neg hq]
theorem mhas_key {α : Type} (k : ByteArray) : ∀ M : List (ByteArray × α), mhas k M = true → k ∈ M.map (·.1)
  | [], h => by cases h
  | p :: r, h => by
    unfold mhas at h
    split at h
    · rename_i e
      rw [List.map_cons, str_eq e]
      exact List.mem_cons_self
    · rw [List.map_cons]
      exact List.mem_cons_of_mem _ (mhas_key k r h)
/-- What lies under a path. -/
def fileAt (l : List Entry) (p : ByteArray) : FileT := match l.find? (fun e => decide (e.f0.toList = p.toList)) with
  | some e => fileE e
  | none => noF
theorem fileAt_cons (e : Entry) (r : List Entry) (p : ByteArray) : fileAt (e :: r) p = if e.f0.toList = p.toList then fileE e else fileAt r p := by
  unfold fileAt
  rw [List.find?_cons]
  by_cases h : e.f0.toList = p.toList
  · rw [decide_eq_true h, if_pos h]
  · rw [decide_eq_false h, if_neg h]
theorem fileAt_none {p : ByteArray} : ∀ {l : List Entry}, (∀ e ∈ l, e.f0.toList ≠ p.toList) → fileAt l p = noF
  | [], _ => rfl
  | e :: r, h => by
    rw [fileAt_cons, if_neg (h e List.mem_cons_self)]
    exact fileAt_none (fun x hx => h x (List.mem_cons_of_mem _ hx))
theorem fileAt_some {p : ByteArray} {e : Entry} : ∀ {l : List Entry}, Apart l → e ∈ l → e.f0.toList = p.toList → fileAt l p = fileE e
  | [], _, h, _ => by cases h
  | x :: r, ha, h, he => by
    obtain ⟨h1, h2⟩ := List.pairwise_cons.1 ha
    rw [fileAt_cons]
    rcases List.mem_cons.1 h with rfl | h
    · rw [if_pos he]
    · rw [if_neg (by rw [← he]; exact h1 e h)]
      exact fileAt_some h2 h he
theorem fileAt_there {p : ByteArray} : ∀ {l : List Entry}, (fileAt l p).1 = true → ∃ e ∈ l, e.f0.toList = p.toList ∧ fileAt l p = fileE e
  | [], h => by cases h
  | x :: r, h => by
    rw [fileAt_cons] at h ⊢
    by_cases hx : x.f0.toList = p.toList
    · rw [if_pos hx]
      exact ⟨x, List.mem_cons_self, hx, rfl⟩
    · rw [if_neg hx] at h ⊢
      obtain ⟨e, he, h1, h2⟩ := fileAt_there h
      exact ⟨e, List.mem_cons_of_mem _ he, h1, h2⟩
theorem files_at (p : ByteArray) : ∀ (l : List Entry) (M : List (ByteArray × FileT)), Apart l → mget noF p (filesFrom M l) = if (∃ e ∈ l, e.f0.toList = p.toList) then fileAt l p else mget noF p M
  | [], M, _ => by
    rw [if_neg (by simp)]
    rfl
  | e :: r, M, ha => by
    obtain ⟨h1, h2⟩ := List.pairwise_cons.1 ha
    show mget noF p (filesFrom (mput e.f0 (fileE e) M) r) = _
    rw [files_at p r _ h2, mget_mput, fileAt_cons]
    by_cases he : e.f0.toList = p.toList
    · rw [if_neg (fun ⟨x, hx, hp⟩ => h1 x hx (by rw [he, hp])), if_pos he, if_pos ⟨e, List.mem_cons_self, he⟩, if_pos he]
    · rw [if_neg he, if_neg he]
      by_cases hr : ∃ x ∈ r, x.f0.toList = p.toList
      · obtain ⟨x, hx, hp⟩ := hr
        rw [if_pos ⟨x, hx, hp⟩, if_pos ⟨x, List.mem_cons_of_mem _ hx, hp⟩]
      · rw [if_neg hr, if_neg (fun ⟨x, hx, hp⟩ => by
          rcases List.mem_cons.1 hx with rfl | hx
          · exact he hp
          · exact hr ⟨x, hx, hp⟩)]
theorem filesM_at {l : List Entry} (ha : Apart l) (p : ByteArray) : mget noF p (filesM l) = fileAt l p := by
  unfold filesM
  rw [files_at p l [] ha]
  split
  · rfl
  · rename_i h
    exact (fileAt_none (fun e he hp => h ⟨e, he, hp⟩)).symm
theorem at_ev (p : ByteArray) (l : List Entry) (hl : l.length ≤ 1000) : ∀ (d i : Nat), i + d = l.length → Ev (fun k => spec_l6At.l0 k p (i : Int) l) (fileAt (l.drop i) p)
  | 0, i, hd => by
    rw [List.drop_of_length_le (by omega)]
    exact Ev.step (fun k => spec_l6At.l0.eq_2 ..) (Ev.neg (by omega) (Ev.now _))
  | d + 1, i, hd => by
    have hi : i < l.length := by omega
    refine Ev.step (fun k => spec_l6At.l0.eq_2 ..) (Ev.pos (by omega) (Ev.pos (by omega) ?_))
    rw [rdE_eq hi, w64 (n := (i : Int) + 1) (by omega) (by omega), show (i : Int) + 1 = ((i + 1 : Nat) : Int) from by omega, List.drop_eq_getElem_cons hi, fileAt_cons]
    exact Ev.both (fun _ => Ev.now _) (fun _ => at_ev p l hl d (i + 1) (by omega))

end Go.Proofs.YtgnmledjkamojaaDoor.Pure


namespace Go.Proofs.YtgnmledjkamojaaDoor.Pure
open Go Go.RowKit Go.Proofs.YtgnmledjkamojaaDoor.P Go.Proofs.YtgnmledjkamojaaDoorW.PrintWords Go.Proofs.YtgnmledjkamojaaDoorW.PrintLast
set_option linter.unusedVariables false
set_option linter.unusedSimpArgs false

theorem rdN_eq {l : List ByteArray} {i : Nat} (h : i < l.length) : rdOf ByteArray.empty l (i : Int) = l[i] := by
  unfold rdOf
  rw [Int.toNat_natCast, List.getD_eq_getElem?_getD, List.getElem?_eq_getElem h]
  rfl
def notS (s y : ByteArray) : Bool := !decide (y.toList = s.toList)
def nameR (s : ByteArray) : List ByteArray → List ByteArray
  | [] => [s]
  | y :: r => if less y.toList s.toList = true then y :: nameR s r else s :: (y :: r).filter (notS s)
theorem name_done (l : List ByteArray) (hl : l.length ≤ 1000) (s : ByteArray) : ∀ (d i : Nat) (acc : List ByteArray), i + d = l.length → acc.length ≤ i + 1 → Ev (fun k => spec_l6Name.l0 k l s acc true (i : Int)) (acc ++ (l.drop i).filter (notS s))
  | 0, i, acc, hd, ha => by
    rw [List.drop_of_length_le (by omega), List.filter_nil, List.append_nil]
    exact Ev.step (fun k => spec_l6Name.l0.eq_2 ..) (Ev.neg (by omega) (Ev.pos rfl (Ev.now _)))
  | d + 1, i, acc, hd, ha => by
    have hi : i < l.length := by omega
    refine Ev.step (fun k => spec_l6Name.l0.eq_2 ..) (Ev.pos (by omega) (Ev.pos rfl (Ev.step (fun k => spec_l6Name.j1.eq_2 ..) (Ev.neg (by simp) (Ev.pos (by omega) (Ev.pos (by omega) ?_))))))
    rw [rdN_eq hi, w64 (n := (i : Int) + 1) (by omega) (by omega), show (i : Int) + 1 = ((i + 1 : Nat) : Int) from by omega, List.drop_eq_getElem_cons hi, List.filter_cons]
    by_cases h : l[i].toList = s.toList
    · rw [show notS s l[i] = false from by unfold notS; rw [decide_eq_true h]; rfl, if_neg (by simp)]
      exact Ev.pos h (name_done l hl s d (i + 1) acc (by omega) (by omega))
    · rw [show notS s l[i] = true from by unfold notS; rw [decide_eq_false h]; rfl, if_pos rfl]
      refine Ev.neg h (Ev.pos (by omega) ?_)
      have := name_done l hl s d (i + 1) (acc ++ [l[i]]) (by omega) (by rw [List.length_append, List.length_singleton]; omega)
      rw [List.append_assoc] at this
      exact this
theorem name_open (l : List ByteArray) (hl : l.length ≤ 1000) (s : ByteArray) : ∀ (d i : Nat) (acc : List ByteArray), i + d = l.length → acc.length ≤ i → Ev (fun k => spec_l6Name.l0 k l s acc false (i : Int)) (acc ++ nameR s (l.drop i))
  | 0, i, acc, hd, ha => by
    rw [List.drop_of_length_le (by omega)]
    exact Ev.step (fun k => spec_l6Name.l0.eq_2 ..) (Ev.neg (by omega) (Ev.neg (by simp) (Ev.pos (by omega) (Ev.now _))))
  | d + 1, i, acc, hd, ha => by
    have hi : i < l.length := by omega
    refine Ev.step (fun k => spec_l6Name.l0.eq_2 ..) (Ev.pos (by omega) (Ev.neg (by simp) (Ev.pos (by omega) (Ev.step (fun k => spec_l6Name.j1.eq_2 ..) ?_))))
    rw [rdN_eq hi, List.drop_eq_getElem_cons hi, nameR]
    by_cases hlt : less l[i].toList s.toList = true
    · rw [if_pos hlt]
      have hne : ¬ l[i].toList = s.toList := fun e => by
        rw [e, less_irrefl] at hlt
        cases hlt
      rw [w64 (n := (i : Int) + 1) (by omega) (by omega), show (i : Int) + 1 = ((i + 1 : Nat) : Int) from by omega]
      refine Ev.neg (by rw [show Op.bytesLess l[i].toList s.toList = true from hlt]; simp) (Ev.pos (by omega) (Ev.pos (by omega) (Ev.neg hne (Ev.pos (by omega) ?_))))
      have := name_open l hl s d (i + 1) (acc ++ [l[i]]) (by omega) (by rw [List.length_append, List.length_singleton]; omega)
      rw [List.append_assoc] at this
      exact this
    · rw [if_neg hlt]
      refine Ev.pos (by rw [show Op.bytesLess l[i].toList s.toList = false from Bool.eq_false_iff.2 hlt]; rfl) (Ev.pos (by omega) (Ev.sb (Ev.pos (by omega) (Ev.pos (by omega) ?_))))
      rw [w64 (n := (i : Int) + 1) (by omega) (by omega), show (i : Int) + 1 = ((i + 1 : Nat) : Int) from by omega, List.filter_cons]
      by_cases h : l[i].toList = s.toList
      · rw [show notS s l[i] = false from by unfold notS; rw [decide_eq_true h]; rfl, if_neg (by simp)]
        have := name_done l hl s d (i + 1) (acc ++ [s]) (by omega) (by rw [List.length_append, List.length_singleton]; omega)
        rw [List.append_assoc] at this
        exact Ev.pos h this
      · rw [show notS s l[i] = true from by unfold notS; rw [decide_eq_false h]; rfl, if_pos rfl]
        have := name_done l hl s d (i + 1) (acc ++ [s] ++ [l[i]]) (by omega) (by rw [List.length_append, List.length_append, List.length_singleton, List.length_singleton]; omega)
        rw [show acc ++ [s] ++ [l[i]] ++ (l.drop (i + 1)).filter (notS s) = acc ++ s :: l[i] :: (l.drop (i + 1)).filter (notS s) from by simp] at this
        exact Ev.neg h (Ev.pos (by rw [List.length_append, List.length_singleton]; omega) this)
theorem name_ins (s : ByteArray) : ∀ l : List ByteArray, l.Pairwise ltS → nameR s l = insS s l
  | [], _ => rfl
  | y :: r, h => by
    obtain ⟨h1, h2⟩ := List.pairwise_cons.1 h
    unfold nameR insS
    by_cases hlt : less y.toList s.toList = true
    · rw [if_pos hlt, if_neg (fun e => by rw [e, less_irrefl] at hlt; cases hlt), if_neg (fun h' => by
        have := less_trans _ _ _ hlt h'
        rw [less_irrefl] at this
        cases this), name_ins s r h2]
    · rw [if_neg hlt]
      have far : ∀ x ∈ r, x.toList ≠ s.toList := fun x hx e => by
        have := h1 x hx
        unfold ltS at this
        rw [e] at this
        exact hlt this
      have hr : r.filter (notS s) = r := List.filter_eq_self.2 (fun x hx => by unfold notS; rw [decide_eq_false (far x hx)]; rfl)
      rw [List.filter_cons, hr]
      by_cases he : y.toList = s.toList
      · rw [if_pos he, show notS s y = false from by unfold notS; rw [decide_eq_true he]; rfl, if_neg (by simp), str_eq he]
      · rw [if_neg he, show notS s y = true from by unfold notS; rw [decide_eq_false he]; rfl, if_pos rfl, if_pos (less_or (Bool.eq_false_iff.2 hlt) he)]
theorem name_ev (l : List ByteArray) (hl : l.length ≤ 1000) (h : l.Pairwise ltS) (s : ByteArray) : Ev (fun k => spec_l6Name.f k l s) (insS s l) := by
  have := name_open l hl s l.length 0 [] (by omega) (by simp)
  rw [List.drop_zero, List.nil_append, name_ins s l h] at this
  exact this

end Go.Proofs.YtgnmledjkamojaaDoor.Pure


namespace Go.Proofs.YtgnmledjkamojaaDoor.Pure
open Go Go.RowKit Go.Proofs.YtgnmledjkamojaaDoor.P Go.Proofs.YtgnmledjkamojaaDoorW.PrintWords Go.Proofs.YtgnmledjkamojaaDoorW.PrintLast
set_option linter.unusedVariables false
set_option linter.unusedSimpArgs false

/-! ### marks -/
theorem mark_l0 : ∀ (m : Nat) (x : Int) (t : ByteArray), 0 ≤ x → x ≤ m → t.size + m ≤ 100000000 → ∃ r, Ev (fun k => laws_markText.l0 k x t) r
  | 0, x, t, h0, h1, h2 => ⟨_, Ev.step (fun k => laws_markText.l0.eq_2 ..) (Ev.neg (by omega) (Ev.pos (by omega) (Ev.now _)))⟩
  | m + 1, x, t, h0, h1, h2 => by
    by_cases h : x > 0
    · have hd : Int.tdiv x 10 = x / 10 := Int.tdiv_eq_ediv_of_nonneg h0
      obtain ⟨r, hr⟩ := mark_l0 m (Int.tdiv x 10) (strOfNums [(wrap64 (48 + (Int.tmod x 10))) % 256] ++ t) (by omega) (by omega) (by rw [ByteArray.size_append, son_size]; simp; omega)
      refine ⟨r, Ev.step (fun k => laws_markText.l0.eq_2 ..) (Ev.pos h (Ev.sb (Ev.pos (by rw [son_size]; simp; omega) ?_)))⟩
      rw [w64 (n := Int.tdiv x 10) (by omega) (by omega)]
      exact hr
    · exact ⟨_, Ev.step (fun k => laws_markText.l0.eq_2 ..) (Ev.neg h (Ev.pos (by omega) (Ev.now _)))⟩
theorem mark_ev (n : Nat) (h : n ≤ 20000000) : ∃ r, Ev (fun k => laws_markText.f k (n : Int)) r := by
  unfold laws_markText.f
  by_cases h0 : (n : Int) ≤ 0
  · exact ⟨_, Ev.pos h0 (Ev.now _)⟩
  · obtain ⟨r, hr⟩ := mark_l0 n n ⟨#[]⟩ (by omega) (by omega) (by have : (⟨#[]⟩ : ByteArray).size = 0 := rfl; omega)
    exact ⟨r, Ev.neg h0 hr⟩
noncomputable def mark (n : Nat) : ByteArray := if h : n ≤ 20000000 then (mark_ev n h).choose else ⟨#[]⟩
theorem mark_spec (n : Nat) (h : n ≤ 20000000) : Ev (fun k => laws_markText.f k (n : Int)) (mark n) := by
  unfold mark
  rw [dif_pos h]
  exact (mark_ev n h).choose_spec

end Go.Proofs.YtgnmledjkamojaaDoor.Pure


namespace Go.Proofs.YtgnmledjkamojaaDoor.Pure
open Go Go.RowKit Go.Proofs.YtgnmledjkamojaaDoor.P Go.Proofs.YtgnmledjkamojaaDoorW.PrintWords Go.Proofs.YtgnmledjkamojaaDoorW.PrintLast
set_option linter.unusedVariables false
set_option linter.unusedSimpArgs false

noncomputable def EM (i : Nat) : Entry := ⟨mark (1 + 3 * i), mark (2 + 3 * i), (Int.tmod ((3 + 3 * i : Nat) : Int) 3 == 0)⟩
def MarkedE (l : List Entry) (i : Nat) : Prop := ∀ j, (h : j < l.length) → j < i → l[j] = EM j
theorem rdE_set {l : List Entry} {i : Nat} (h : i < l.length) (a : Entry) : rd_T37 (l.set i a) (i : Int) = a := by
  rw [rdE_eq (by rw [List.length_set]; exact h), List.getElem_set_self]
theorem marksE_ev : ∀ (d i : Nat) (l : List Entry), i + d = l.length → l.length ≤ 1100000 → MarkedE l i → Evs (fun k => laws_markEntryS.l0 k l ((1 + 3 * i : Nat) : Int) (i : Int)) (fun r => r.1 = ((1 + 3 * l.length : Nat) : Int) ∧ r.2.length = l.length ∧ MarkedE r.2 l.length)
  | 0, i, l, hd, hl, hm => by
    refine Evs.step (fun k => laws_markEntryS.l0.eq_2 ..) (Evs.neg (by omega) (Evs.ret ⟨by show ((1 + 3 * i : Nat) : Int) = _; omega, rfl, fun j h _ => hm j h (by omega)⟩))
  | d + 1, i, l, hd, hl, hm => by
    have hi : i < l.length := by omega
    refine Evs.step (fun k => laws_markEntryS.l0.eq_2 ..) (Evs.pos (by omega) (Evs.bind (Evs.of (mark_spec (1 + 3 * i) (by omega)) (Q := fun t => t = mark (1 + 3 * i)) rfl) (fun t ht => Evs.pos (by omega) ?_)))
    subst ht
    rw [Int.toNat_natCast, w64 (n := ((1 + 3 * i : Nat) : Int) + 1) (by omega) (by omega), show ((1 + 3 * i : Nat) : Int) + 1 = ((2 + 3 * i : Nat) : Int) from by omega, w64 (n := ((2 + 3 * i : Nat) : Int) + 1) (by omega) (by omega), show ((2 + 3 * i : Nat) : Int) + 1 = ((3 + 3 * i : Nat) : Int) from by omega, w64 (n := ((3 + 3 * i : Nat) : Int) + 1) (by omega) (by omega), show ((3 + 3 * i : Nat) : Int) + 1 = ((1 + 3 * (i + 1) : Nat) : Int) from by omega, w64 (n := (i : Int) + 1) (by omega) (by omega), show (i : Int) + 1 = ((i + 1 : Nat) : Int) from by omega]
    refine Evs.sb (Evs.bind (Evs.of (mark_spec (2 + 3 * i) (by omega)) (Q := fun t => t = mark (2 + 3 * i)) rfl) (fun t ht => ?_))
    subst ht
    refine Evs.sb ?_
    simp only [rdE_set hi, List.set_set]
    have e2 : ∀ a : Entry, rd_T37 (l.set i a) (i : Int) = a := rdE_set hi
    have := marksE_ev d (i + 1) (l.set i (EM i)) (by rw [List.length_set]; omega) (by rw [List.length_set]; exact hl) (fun j h hj => by
      rw [List.getElem_set]
      split
      · rename_i e
        rw [e]
      · exact hm j (by simpa using h) (by omega))
    rw [List.length_set] at this
    exact this
theorem heldE_ev (l : List Entry) (hl : l.length ≤ 1100000) (hm : MarkedE l l.length) : ∀ (d i : Nat), i + d = l.length → Ev (fun k => laws_heldEntryS.l0 k l ((1 + 3 * i : Nat) : Int) (i : Int)) ((1 + 3 * l.length : Nat) : Int)
  | 0, i, hd => by
    have e : ((1 + 3 * l.length : Nat) : Int) = ((1 + 3 * i : Nat) : Int) := by omega
    rw [e]
    exact Ev.step (fun k => laws_heldEntryS.l0.eq_2 ..) (Ev.neg (by omega) (Ev.now _))
  | d + 1, i, hd => by
    refine Ev.step (fun k => laws_heldEntryS.l0.eq_2 ..) (Ev.pos (by omega) (Ev.pos (by omega) (Ev.bind (mark_spec (1 + 3 * i) (by omega)) ?_)))
    rw [rdE_eq (show i < l.length by omega), hm i (by omega) (by omega)]
    rw [w64 (n := ((1 + 3 * i : Nat) : Int) + 1) (by omega) (by omega), show ((1 + 3 * i : Nat) : Int) + 1 = ((2 + 3 * i : Nat) : Int) from by omega, w64 (n := ((2 + 3 * i : Nat) : Int) + 1) (by omega) (by omega), show ((2 + 3 * i : Nat) : Int) + 1 = ((3 + 3 * i : Nat) : Int) from by omega, w64 (n := ((3 + 3 * i : Nat) : Int) + 1) (by omega) (by omega), show ((3 + 3 * i : Nat) : Int) + 1 = ((1 + 3 * (i + 1) : Nat) : Int) from by omega, w64 (n := (i : Int) + 1) (by omega) (by omega), show (i : Int) + 1 = ((i + 1 : Nat) : Int) from by omega]
    exact Ev.pos rfl (Ev.bind (mark_spec (2 + 3 * i) (by omega)) (Ev.pos rfl (Ev.neg (by simp [EM]) (heldE_ev l hl hm d (i + 1) (by omega)))))
/-- Marked, and held. -/
theorem markedTree_ev (l : List Entry) (hl : l.length ≤ 1100000) : ∃ L : List Entry, L.length = l.length ∧ Ev (fun k => laws_markTree.f k l 1) (((1 + 3 * l.length : Nat) : Int), L) ∧ Ev (fun k => laws_heldTree.f k L 1) ((1 + 3 * l.length : Nat) : Int) := by
  obtain ⟨p, ⟨p1, p2, p3⟩, hp⟩ := marksE_ev l.length 0 l (by omega) hl (fun j _ hj => by omega)
  refine ⟨p.2, p2, ?_, ?_⟩
  · unfold laws_markTree.f laws_markEntryS.f
    refine Ev.bind hp ?_
    rw [← p1]
    exact Ev.now _
  · unfold laws_heldTree.f laws_heldEntryS.f
    have := heldE_ev p.2 (by omega) (by rw [p2]; exact p3) p.2.length 0 (by omega)
    rw [p2] at this
    exact Ev.bind this (Ev.neg (by omega) (Ev.now _))

end Go.Proofs.YtgnmledjkamojaaDoor.Pure


namespace Go.Proofs.YtgnmledjkamojaaDoor.Pure
open Go Go.RowKit Go.Proofs.YtgnmledjkamojaaDoor.P Go.Proofs.YtgnmledjkamojaaDoorW.PrintWords Go.Proofs.YtgnmledjkamojaaDoorW.PrintLast
set_option linter.unusedVariables false
set_option linter.unusedSimpArgs false

abbrev LChange := S190
abbrev Change := S125
def ofC (a : LChange) : Change := ⟨a.f0, ⟨a.f1.f0, a.f1.f1, a.f1.f2⟩, ⟨a.f2.f0, a.f2.f1, a.f2.f2⟩⟩
theorem getD_natC {α : Type} (d : α) {l : List α} {i : Nat} (h : i < l.length) : l.getD (i : Int).toNat d = l[i] := by
  rw [Int.toNat_natCast, List.getD_eq_getElem?_getD, List.getElem?_eq_getElem h]
  rfl
theorem rdC_eq {l : List Change} {i : Nat} (h : i < l.length) : rd_T125 l (i : Int) = l[i] := getD_natC _ h
theorem rdLC_eq {l : List LChange} {i : Nat} (h : i < l.length) : rd_T190 l (i : Int) = l[i] := getD_natC _ h
/-- What a change weighs. -/
def cw (a : LChange) : Nat := a.f0.size + a.f1.f1.size + a.f2.f1.size
theorem szChange_eq (a : LChange) (c : Int) (ha : a.f0.size ≤ 140737488351232) (hb : a.f1.f1.size ≤ 140737488351232) (hd : a.f2.f1.size ≤ 140737488351232) (h0 : 0 ≤ c) (h1 : c ≤ 1048576) :
    laws_szChange.f a.f0 a.f1.f0 a.f1.f1 a.f1.f2 a.f2.f0 a.f2.f1 a.f2.f2 c = some (if c - (cw a : Int) < 0 then -1 else c - (cw a : Int)) := by
  have f1 : ∀ (x : Bool) (b : ByteArray) (y : Bool) (n : Int), b.size ≤ 140737488351232 → 0 ≤ n → n ≤ 1048576 → laws_szFile.f x b y n = some (if n - (b.size : Int) < 0 then -1 else n - (b.size : Int)) := by
    intro x b y n hb0 hn0 hn1
    unfold laws_szFile.f
    rw [w64 (n := n - (b.size : Int)) (by omega) (by omega)]
    split <;> rfl
  unfold laws_szChange.f cw
  rw [w64 (n := c - (a.f0.size : Int)) (by omega) (by omega)]
  by_cases x1 : c - (a.f0.size : Int) < 0
  · rw [if_pos x1, if_pos (by omega)]
  rw [if_neg x1, f1 _ _ _ _ hb (by omega) (by omega)]
  by_cases x2 : c - (a.f0.size : Int) - (a.f1.f1.size : Int) < 0
  · rw [if_pos x2, if_pos (c := c - ((a.f0.size + a.f1.f1.size + a.f2.f1.size : Nat) : Int) < 0) (by omega)]
    rfl
  rw [if_neg x2, Option.bind_some, if_neg x2, f1 _ _ _ _ hd (by omega) (by omega), Option.bind_some]
  by_cases x3 : c - (a.f0.size : Int) - (a.f1.f1.size : Int) - (a.f2.f1.size : Int) < 0
  · rw [if_pos x3, if_pos (c := c - ((a.f0.size + a.f1.f1.size + a.f2.f1.size : Nat) : Int) < 0) (by omega)]
    rfl
  · rw [if_neg x3, if_neg x3, if_neg (c := c - ((a.f0.size + a.f1.f1.size + a.f2.f1.size : Nat) : Int) < 0) (by omega)]
    congr 1
    omega
def RoomC (l : List LChange) (left r : Int) : Prop := r = -1 ∨ (0 ≤ r ∧ r ≤ left ∧ (l.length : Int) ≤ left ∧ ∀ s ∈ l, (cw s : Int) ≤ left)
theorem szC_l0 (l : List LChange) (hl : l.length ≤ 8796093022208) (hz : ∀ s ∈ l, s.f0.size ≤ 140737488351232 ∧ s.f1.f1.size ≤ 140737488351232 ∧ s.f2.f1.size ≤ 140737488351232) (left : Int) (h1 : left ≤ 1048576) : ∀ (d i : Nat) (c : Int), i + d = l.length → 0 ≤ c → c ≤ left → (∀ j, (h : j < l.length) → j < i → (cw l[j] : Int) ≤ left) →
    ∃ r, Ev (fun k => laws_szChangeS.l0 k l c (i : Int)) r ∧ (r = -1 ∨ (0 ≤ r ∧ r ≤ left ∧ ∀ s ∈ l, (cw s : Int) ≤ left))
  | 0, i, c, hd, h0, hc, ha => by
    refine ⟨c, Ev.step (fun k => laws_szChangeS.l0.eq_2 ..) (Ev.neg (by omega) (Ev.now _)), .inr ⟨h0, hc, fun s hs => ?_⟩⟩
    obtain ⟨j, hj, rfl⟩ := List.getElem_of_mem hs
    exact ha j hj (by omega)
  | d + 1, i, c, hd, h0, hc, ha => by
    have hi : i < l.length := by omega
    obtain ⟨hs0, hs1, hs2⟩ := hz l[i] (List.getElem_mem hi)
    have e := szChange_eq l[i] c hs0 hs1 hs2 h0 (by omega)
    by_cases hn : c - (cw l[i] : Int) < 0
    · refine ⟨-1, Ev.step (fun k => laws_szChangeS.l0.eq_2 ..) (Ev.pos (by omega) (Ev.pos (by omega) ?_)), .inl rfl⟩
      rw [if_pos hn] at e
      rw [rdLC_eq hi, e]
      exact Ev.sb (Ev.pos (by omega) (Ev.now _))
    · obtain ⟨r, hr, h⟩ := szC_l0 l hl hz left h1 d (i + 1) (c - (cw l[i] : Int)) (by omega) (by omega) (by omega) (fun j h hj => by
        rcases Nat.lt_or_ge j i with h' | h'
        · exact ha j h h'
        · obtain rfl : j = i := by omega
          omega)
      refine ⟨r, Ev.step (fun k => laws_szChangeS.l0.eq_2 ..) (Ev.pos (by omega) (Ev.pos (by omega) ?_)), h⟩
      rw [if_neg hn] at e
      rw [rdLC_eq hi, e, w64 (n := (i : Int) + 1) (by omega) (by omega)]
      exact Ev.sb (Ev.neg (by omega) hr)
theorem szPatch_ev (l : List LChange) (hl : l.length ≤ 8796093022208) (hz : ∀ s ∈ l, s.f0.size ≤ 140737488351232 ∧ s.f1.f1.size ≤ 140737488351232 ∧ s.f2.f1.size ≤ 140737488351232) (left : Int) (h0 : 0 ≤ left) (h1 : left ≤ 1048576) :
    ∃ r, Ev (fun k => laws_szPatch.f k l left) r ∧ RoomC l left r := by
  unfold laws_szPatch.f laws_szChangeS.f RoomC
  rw [w64 (n := left - (l.length : Int)) (by omega) (by omega)]
  by_cases hn : left - (l.length : Int) < 0
  · exact ⟨-1, Ev.bind (Ev.pos hn (Ev.now _)) (Ev.pos (by omega) (Ev.now _)), .inl rfl⟩
  · obtain ⟨r, hr, h⟩ := szC_l0 l hl hz left h1 l.length 0 (left - (l.length : Int)) (by omega) (by omega) (by omega) (fun j h hj => by omega)
    rcases h with h | ⟨a, b, c⟩
    · exact ⟨-1, Ev.bind (Ev.neg hn hr) (Ev.pos (by omega) (Ev.now _)), .inl rfl⟩
    · exact ⟨r, Ev.bind (Ev.neg hn hr) (Ev.neg (by omega) (Ev.now _)), .inr ⟨a, b, by omega, c⟩⟩
theorem toC_l0 (l : List LChange) (hl : l.length ≤ 8796093022208) : ∀ (d i : Nat) (o : List Change), i + d = l.length → o.length = l.length → o.take i = (l.map ofC).take i →
    Ev (fun k => laws_toChangeS.l0 k l o (i : Int)) (l.map ofC)
  | 0, i, o, hd, ho, ha => by
    rw [List.take_of_length_le (by omega), List.take_of_length_le (by rw [List.length_map]; omega)] at ha
    exact Ev.step (fun k => laws_toChangeS.l0.eq_2 ..) (Ev.neg (by omega) (by rw [ha]; exact Ev.now _))
  | d + 1, i, o, hd, ho, ha => by
    have hi : i < l.length := by omega
    refine Ev.step (fun k => laws_toChangeS.l0.eq_2 ..) (Ev.pos (by omega) (Ev.pos (by omega) ?_))
    rw [rdLC_eq hi, laws_toChange.f, laws_toFile.f, laws_toFile.f, w64 (n := (i : Int) + 1) (by omega) (by omega), Int.toNat_natCast]
    refine Ev.sb (Ev.pos (by omega) (toC_l0 l hl d (i + 1) (o.set i (ofC l[i])) (by omega) (by rw [List.length_set, ho]) ?_))
    rw [List.take_succ_eq_append_getElem (by rw [List.length_set]; omega), List.take_succ_eq_append_getElem (by rw [List.length_map]; omega), List.getElem_set_self, List.getElem_map, List.take_set_of_le (by omega), ha]
theorem toPatch_ev (l : List LChange) (hl : l.length ≤ 3518437208883) : Ev (fun k => laws_toPatch.f k l) (l.map ofC) := by
  unfold laws_toPatch.f laws_toChangeS.f
  refine Ev.bind (Ev.pos (by omega) (Ev.pos (by omega) ?_)) (Ev.now _)
  rw [Int.toNat_natCast]
  exact toC_l0 l (by omega) l.length 0 _ (by omega) (by simp) (by simp)
theorem eqFile_eq (a : Bool) (b : ByteArray) (c : Bool) : laws_eqFile.f a b c a b c = some true := by
  unfold laws_eqFile.f
  rw [if_neg (by simp), if_pos rfl, if_neg (by simp)]
theorem eqChange_eq (a : ByteArray) (b : Bool) (c : ByteArray) (d e : Bool) (f : ByteArray) (g : Bool) : laws_eqChange.f a b c d e f g a b c d e f g = some true := by
  unfold laws_eqChange.f
  rw [if_pos rfl, eqFile_eq, eqFile_eq]
  rfl
theorem eqC_l0 (l : List Change) (hl : l.length ≤ 8796093022208) : ∀ (d i : Nat), i + d = l.length → Ev (fun k => laws_eqChangeS.l0 k l l (i : Int)) true
  | 0, i, hd => Ev.step (fun k => laws_eqChangeS.l0.eq_2 ..) (Ev.neg (by omega) (Ev.now _))
  | d + 1, i, hd => by
    refine Ev.step (fun k => laws_eqChangeS.l0.eq_2 ..) (Ev.pos (by omega) (Ev.pos (by omega) (Ev.pos (by omega) ?_)))
    rw [eqChange_eq, w64 (n := (i : Int) + 1) (by omega) (by omega)]
    exact Ev.sb (Ev.pos rfl (eqC_l0 l hl d (i + 1) (by omega)))
theorem eqPatch_ev (l : List Change) (hl : l.length ≤ 8796093022208) : Ev (fun k => laws_eqPatch.f k l l) true := by
  unfold laws_eqPatch.f laws_eqChangeS.f
  exact Ev.bind (Ev.pos rfl (eqC_l0 l hl l.length 0 (by omega))) (Ev.pos rfl (Ev.now _))

end Go.Proofs.YtgnmledjkamojaaDoor.Pure


namespace Go.Proofs.YtgnmledjkamojaaDoor.Pure
open Go Go.RowKit Go.Proofs.YtgnmledjkamojaaDoor.P Go.Proofs.YtgnmledjkamojaaDoorW.PrintWords Go.Proofs.YtgnmledjkamojaaDoorW.PrintLast
set_option linter.unusedVariables false
set_option linter.unusedSimpArgs false

noncomputable def CM (c : Nat) : Change := ⟨mark c, ⟨Int.tmod ((c + 1 : Nat) : Int) 3 == 0, mark (c + 1 + 1), Int.tmod ((c + 1 + 1 + 1 : Nat) : Int) 3 == 0⟩, ⟨Int.tmod ((c + 1 + 1 + 1 + 1 : Nat) : Int) 3 == 0, mark (c + 1 + 1 + 1 + 1 + 1), Int.tmod ((c + 1 + 1 + 1 + 1 + 1 + 1 : Nat) : Int) 3 == 0⟩⟩
def at7 (i : Nat) : Nat := 1 + 7 * i
theorem at7_next (i : Nat) : at7 (i + 1) = at7 i + 1 + 1 + 1 + 1 + 1 + 1 + 1 := by unfold at7; omega
def MarkedC (l : List Change) (i : Nat) : Prop := ∀ j, (h : j < l.length) → j < i → l[j] = CM (at7 j)
theorem rdC_set {l : List Change} {i : Nat} (h : i < l.length) (a : Change) : rd_T125 (l.set i a) (i : Int) = a := by
  rw [rdC_eq (by rw [List.length_set]; exact h), List.getElem_set_self]
theorem markC_eq (k : Nat) (l : List Change) (x : Int) (i : Nat) (hi : i < l.length) : laws_markChangeS.l0 (k + 1) l x (i : Int) =
    (laws_markText.f k x).bind fun t1 => (laws_markText.f k (wrap64 (wrap64 (x + 1) + 1))).bind fun t2 => (laws_markText.f k (wrap64 (wrap64 (wrap64 (wrap64 (wrap64 (x + 1) + 1) + 1) + 1) + 1))).bind fun t3 =>
      laws_markChangeS.l0 k (l.set i ⟨t1, ⟨Int.tmod (wrap64 (x + 1)) 3 == 0, t2, Int.tmod (wrap64 (wrap64 (wrap64 (x + 1) + 1) + 1)) 3 == 0⟩, ⟨Int.tmod (wrap64 (wrap64 (wrap64 (wrap64 (x + 1) + 1) + 1) + 1)) 3 == 0, t3, Int.tmod (wrap64 (wrap64 (wrap64 (wrap64 (wrap64 (wrap64 (x + 1) + 1) + 1) + 1) + 1) + 1)) 3 == 0⟩⟩)
        (wrap64 (wrap64 (wrap64 (wrap64 (wrap64 (wrap64 (wrap64 (x + 1) + 1) + 1) + 1) + 1) + 1) + 1)) (wrap64 ((i : Int) + 1)) := by
  rw [laws_markChangeS.l0.eq_2, if_pos (by omega)]
  refine congrArg _ (funext fun t1 => ?_)
  rw [if_pos (by omega), Option.bind_some, Int.toNat_natCast]
  simp only [rdC_set hi, List.set_set]
  rw [Option.bind_some]
  simp only [rdC_set hi, List.set_set]
  refine congrArg _ (funext fun t2 => ?_)
  rw [Option.bind_some]
  simp only [rdC_set hi, List.set_set]
  rw [Option.bind_some]
  simp only [rdC_set hi, List.set_set]
  rw [Option.bind_some]
  simp only [rdC_set hi, List.set_set]
  refine congrArg _ (funext fun t3 => ?_)
  rw [Option.bind_some]
  simp only [rdC_set hi, List.set_set]
theorem heldC_eq (k : Nat) (l : List Change) (x : Int) (i : Nat) (hi : i < l.length) (t1 t2 t3 : ByteArray) (h1 : laws_markText.f k x = some t1) (h2 : laws_markText.f k (wrap64 (wrap64 (x + 1) + 1)) = some t2) (h3 : laws_markText.f k (wrap64 (wrap64 (wrap64 (wrap64 (wrap64 (x + 1) + 1) + 1) + 1) + 1)) = some t3)
    (hl : l[i] = ⟨t1, ⟨Int.tmod (wrap64 (x + 1)) 3 == 0, t2, Int.tmod (wrap64 (wrap64 (wrap64 (x + 1) + 1) + 1)) 3 == 0⟩, ⟨Int.tmod (wrap64 (wrap64 (wrap64 (wrap64 (x + 1) + 1) + 1) + 1)) 3 == 0, t3, Int.tmod (wrap64 (wrap64 (wrap64 (wrap64 (wrap64 (wrap64 (x + 1) + 1) + 1) + 1) + 1) + 1)) 3 == 0⟩⟩) :
    laws_heldChangeS.l0 (k + 1) l x (i : Int) = laws_heldChangeS.l0 k l (wrap64 (wrap64 (wrap64 (wrap64 (wrap64 (wrap64 (wrap64 (x + 1) + 1) + 1) + 1) + 1) + 1) + 1)) (wrap64 ((i : Int) + 1)) := by
  rw [laws_heldChangeS.l0.eq_2, if_pos (by omega), if_pos (by omega), rdC_eq hi, hl, h1, Option.bind_some, if_pos rfl, if_neg (by simp), h2, Option.bind_some, if_pos rfl, if_neg (by simp), if_neg (by simp), h3, Option.bind_some, if_pos rfl, if_neg (by simp)]
theorem markC_end (k : Nat) (l : List Change) (x : Int) (i : Nat) (hi : l.length ≤ i) : laws_markChangeS.l0 (k + 1) l x (i : Int) = some (x, l) := by
  rw [laws_markChangeS.l0.eq_2, if_neg (by omega)]
theorem heldC_end (k : Nat) (l : List Change) (x : Int) (i : Nat) (hi : l.length ≤ i) : laws_heldChangeS.l0 (k + 1) l x (i : Int) = some x := by
  rw [laws_heldChangeS.l0.eq_2, if_neg (by omega)]
theorem wn (n : Nat) (h : n ≤ 1000000000) : wrap64 ((n : Int) + 1) = ((n + 1 : Nat) : Int) := by
  rw [w64 (n := (n : Int) + 1) (by omega) (by omega)]
  omega
theorem wns (c : Nat) (h : c ≤ 999999990) : wrap64 ((c : Int) + 1) = ((c + 1 : Nat) : Int) ∧ wrap64 (((c + 1 : Nat) : Int) + 1) = ((c + 1 + 1 : Nat) : Int) ∧ wrap64 (((c + 1 + 1 : Nat) : Int) + 1) = ((c + 1 + 1 + 1 : Nat) : Int) ∧ wrap64 (((c + 1 + 1 + 1 : Nat) : Int) + 1) = ((c + 1 + 1 + 1 + 1 : Nat) : Int) ∧ wrap64 (((c + 1 + 1 + 1 + 1 : Nat) : Int) + 1) = ((c + 1 + 1 + 1 + 1 + 1 : Nat) : Int) ∧ wrap64 (((c + 1 + 1 + 1 + 1 + 1 : Nat) : Int) + 1) = ((c + 1 + 1 + 1 + 1 + 1 + 1 : Nat) : Int) ∧ wrap64 (((c + 1 + 1 + 1 + 1 + 1 + 1 : Nat) : Int) + 1) = ((c + 1 + 1 + 1 + 1 + 1 + 1 + 1 : Nat) : Int) :=
  ⟨wn _ (by omega), wn _ (by omega), wn _ (by omega), wn _ (by omega), wn _ (by omega), wn _ (by omega), wn _ (by omega)⟩
theorem marksC_ev : ∀ (d i c : Nat) (l : List Change), i + d = l.length → c = at7 i → c + 7 * d ≤ 9000000 → MarkedC l i → ∃ r : Int × List Change, (r.1 = ((c + 7 * d : Nat) : Int) ∧ r.2.length = l.length ∧ MarkedC r.2 l.length) ∧ Ev (fun k => laws_markChangeS.l0 k l (c : Int) (i : Int)) r
  | 0, i, c, l, hd, hc, hl, hm => ⟨((c : Int), l), ⟨by simp, rfl, fun j h _ => hm j h (by omega)⟩, Ev.step (fun k => markC_end k l _ i (by omega)) (Ev.now _)⟩
  | d + 1, i, c, l, hd, hc, hl, hm => by
    have hi : i < l.length := by omega
    have wi : i ≤ 1000000000 := by unfold at7 at hc; omega
    have wc : c ≤ 999999990 := by omega
    obtain ⟨r, ⟨q1, q2, q3⟩, K4, m4⟩ := marksC_ev d (i + 1) (c + 1 + 1 + 1 + 1 + 1 + 1 + 1) (l.set i (CM c)) (by rw [List.length_set]; omega) (by rw [at7_next, hc]) (by omega) (fun j h hj => by
      rw [List.getElem_set]
      split
      · rename_i e
        rw [hc, e]
      · exact hm j (by simpa using h) (by omega))
    rw [List.length_set] at q2 q3
    obtain ⟨K1, m1⟩ := mark_spec c (by omega)
    obtain ⟨K2, m2⟩ := mark_spec (c + 1 + 1) (by omega)
    obtain ⟨K3, m3⟩ := mark_spec (c + 1 + 1 + 1 + 1 + 1) (by omega)
    refine ⟨r, ⟨by rw [q1]; omega, q2, q3⟩, K1 + K2 + K3 + K4 + 1, fun k hk => ?_⟩
    obtain ⟨k', rfl⟩ : ∃ k', k = k' + 1 := ⟨k - 1, by omega⟩
    have a1 := m1 k' (by omega)
    have a2 := m2 k' (by omega)
    have a3 := m3 k' (by omega)
    have a4 := m4 k' (by omega)
    dsimp only at a1 a2 a3 a4
    have b := markC_eq k' l (c : Int) i hi
    obtain ⟨w1, w2, w3, w4, w5, w6, w7⟩ := wns c wc
    have w8 := wn i wi
    rw [w1, w2, w3, w4, w5, w6, w7, w8, a1, Option.bind_some, a2, Option.bind_some, a3, Option.bind_some] at b
    exact b.trans a4
theorem heldC_ev (l : List Change) (hm : MarkedC l l.length) : ∀ (d i c : Nat), i + d = l.length → c = at7 i → c + 7 * d ≤ 9000000 → Ev (fun k => laws_heldChangeS.l0 k l (c : Int) (i : Int)) ((c + 7 * d : Nat) : Int)
  | 0, i, c, hd, hc, hl => Ev.step (fun k => heldC_end k l _ i (by omega)) (Ev.now _)
  | d + 1, i, c, hd, hc, hl => by
    have hi : i < l.length := by omega
    have wi : i ≤ 1000000000 := by unfold at7 at hc; omega
    have wc : c ≤ 999999990 := by omega
    obtain ⟨K4, m4⟩ := heldC_ev l hm d (i + 1) (c + 1 + 1 + 1 + 1 + 1 + 1 + 1) (by omega) (by rw [at7_next, hc]) (by omega)
    obtain ⟨K1, m1⟩ := mark_spec c (by omega)
    obtain ⟨K2, m2⟩ := mark_spec (c + 1 + 1) (by omega)
    obtain ⟨K3, m3⟩ := mark_spec (c + 1 + 1 + 1 + 1 + 1) (by omega)
    refine ⟨K1 + K2 + K3 + K4 + 1, fun k hk => ?_⟩
    obtain ⟨k', rfl⟩ : ∃ k', k = k' + 1 := ⟨k - 1, by omega⟩
    have hh := hm i hi hi
    rw [← hc] at hh
    have a1 := m1 k' (by omega)
    have a2 := m2 k' (by omega)
    have a3 := m3 k' (by omega)
    have a4 := m4 k' (by omega)
    dsimp only at a1 a2 a3 a4
    rw [show c + 7 * (d + 1) = c + 1 + 1 + 1 + 1 + 1 + 1 + 1 + 7 * d from by omega]
    obtain ⟨w1, w2, w3, w4, w5, w6, w7⟩ := wns c wc
    have w8 := wn i wi
    have b := heldC_eq k' l (c : Int) i hi (mark c) (mark (c + 1 + 1)) (mark (c + 1 + 1 + 1 + 1 + 1)) a1 (by rw [w1, w2]; exact a2) (by rw [w1, w2, w3, w4, w5]; exact a3) (by rw [w1, w2, w3, w4, w5, w6]; exact hh)
    rw [w1, w2, w3, w4, w5, w6, w7, w8] at b
    exact b.trans a4
/-- Marked, and held. -/
theorem markedPatch_ev (l : List Change) (hl : l.length ≤ 1100000) : ∃ L : List Change, L.length = l.length ∧ Ev (fun k => laws_markPatch.f k l 1) (((1 + 7 * l.length : Nat) : Int), L) ∧ Ev (fun k => laws_heldPatch.f k L 1) ((1 + 7 * l.length : Nat) : Int) := by
  obtain ⟨p, ⟨p1, p2, p3⟩, hp⟩ := marksC_ev l.length 0 1 l (by omega) rfl (by omega) (fun j _ hj => by omega)
  refine ⟨p.2, p2, ?_, ?_⟩
  · unfold laws_markPatch.f laws_markChangeS.f
    refine Ev.bind hp ?_
    rw [← p1]
    exact Ev.now _
  · unfold laws_heldPatch.f laws_heldChangeS.f
    have := heldC_ev p.2 (by rw [p2]; exact p3) p.2.length 0 1 (by omega) rfl (by rw [p2]; omega)
    rw [p2] at this
    exact Ev.bind this (Ev.neg (by omega) (Ev.now _))

end Go.Proofs.YtgnmledjkamojaaDoor.Pure

