/- Several texts of this claim in one file: YtkdghhkpmkfjhaaDoorSetE, YtkdghhkpmkfjhaaDoorRemove, YtkdghhkpmkfjhaaDoorPureFnExactRemove. -/
import Derived.Test.YtkdghhkpmkfjhaaDoorM8
import Derived.Test.YtkdghhkpmkfjhaaDoorM6
import Derived.Test.YtkdghhkpmkfjhaaDoorM7
import Derived.Test.YtkdghhkpmkfjhaaDoorM4
namespace Go.Proofs.YtkdghhkpmkfjhaaDoor.Pure
open Go Go.RowKit Go.Proofs.YtkdghhkpmkfjhaaDoor.P Go.Proofs.YtkdghhkpmkfjhaaDoorW.PrintWords Go.Proofs.YtkdghhkpmkfjhaaDoorW.PrintLast
set_option linter.unusedVariables false
set_option linter.unusedSimpArgs false

/-- The entry lies elsewhere. -/
def notAt (p : ByteArray) (z : Entry) : Bool := !decide (z.f0.toList = p.toList)
def setR (e : Entry) : List Entry → List Entry
  | [] => [e]
  | y :: r => if less y.f0.toList e.f0.toList = true then y :: setR e r else e :: (y :: r).filter (notAt e.f0)
theorem spec_S_done (l : List Entry) (hl : l.length ≤ 1000) (p t : ByteArray) (u : Bool) : ∀ (d i : Nat) (acc : List Entry), i + d = l.length → acc.length ≤ i + 1 → Ev (fun k => spec_l5Set.l0 k true (i : Int) l p t u acc) (acc ++ (l.drop i).filter (notAt p))
  | 0, i, acc, hd, ha => by
    rw [List.drop_of_length_le (by omega)]
    refine Ev.step (fun k => spec_l5Set.l0.eq_2 ..) (Ev.neg (by omega) (Ev.pos rfl ?_))
    show Ev _ (acc ++ [])
    rw [List.append_nil]
    exact Ev.now _
  | d + 1, i, acc, hd, ha => by
    have hi : i < l.length := by omega
    refine Ev.step (fun k => spec_l5Set.l0.eq_2 ..) (Ev.pos (by omega) (Ev.pos rfl (Ev.step (fun k => spec_l5Set.j1.eq_2 ..) (Ev.neg (by simp) (Ev.pos (by omega) (Ev.pos (by omega) ?_))))))
    rw [rdE_eq hi, w64 (n := (i : Int) + 1) (by omega) (by omega), show (i : Int) + 1 = ((i + 1 : Nat) : Int) from by omega, List.drop_eq_getElem_cons hi]
    by_cases h : l[i].f0.toList = p.toList
    · rw [List.filter_cons_of_neg (by simp [notAt, h])]
      exact Ev.pos h (spec_S_done l hl p t u d (i + 1) acc (by omega) (by omega))
    · rw [List.filter_cons_of_pos (by simp [notAt, h]), List.append_cons acc l[i] (List.filter (notAt p) (l.drop (i + 1)))]
      exact Ev.neg h (Ev.pos (by omega) (spec_S_done l hl p t u d (i + 1) (acc ++ [l[i]]) (by omega) (by rw [List.length_append, List.length_singleton]; omega)))
theorem spec_S_open (l : List Entry) (hl : l.length ≤ 1000) (p t : ByteArray) (u : Bool) : ∀ (d i : Nat) (acc : List Entry), i + d = l.length → acc.length ≤ i → Ev (fun k => spec_l5Set.l0 k false (i : Int) l p t u acc) (acc ++ setR ⟨p, t, u⟩ (l.drop i))
  | 0, i, acc, hd, ha => by
    rw [List.drop_of_length_le (by omega)]
    exact Ev.step (fun k => spec_l5Set.l0.eq_2 ..) (Ev.neg (by omega) (Ev.neg (by simp) (Ev.pos (by omega) (Ev.now _))))
  | d + 1, i, acc, hd, ha => by
    have hi : i < l.length := by omega
    refine Ev.step (fun k => spec_l5Set.l0.eq_2 ..) (Ev.pos (by omega) (Ev.neg (by simp) (Ev.pos (by omega) (Ev.step (fun k => spec_l5Set.j1.eq_2 ..) ?_))))
    rw [rdE_eq hi, w64 (n := (i : Int) + 1) (by omega) (by omega), show (i : Int) + 1 = ((i + 1 : Nat) : Int) from by omega, List.drop_eq_getElem_cons hi]
    by_cases hlt : Op.bytesLess l[i].f0.toList p.toList = true
    · have h : ¬ l[i].f0.toList = p.toList := fun e => by
        rw [e] at hlt
        have := less_irrefl p.toList
        unfold less at this
        rw [this] at hlt
        cases hlt
      have e : setR ⟨p, t, u⟩ (l[i] :: l.drop (i + 1)) = l[i] :: setR ⟨p, t, u⟩ (l.drop (i + 1)) := by
        conv => lhs; unfold setR
        exact if_pos hlt
      rw [e, List.append_cons acc l[i] (setR ⟨p, t, u⟩ (l.drop (i + 1)))]
      exact Ev.neg (by rw [hlt]; simp) (Ev.pos (by omega) (Ev.pos (by omega) (Ev.neg h (Ev.pos (by omega) (spec_S_open l hl p t u d (i + 1) (acc ++ [l[i]]) (by omega) (by rw [List.length_append, List.length_singleton]; omega))))))
    · have e : setR ⟨p, t, u⟩ (l[i] :: l.drop (i + 1)) = ⟨p, t, u⟩ :: (l[i] :: l.drop (i + 1)).filter (notAt p) := by
        conv => lhs; unfold setR
        exact if_neg hlt
      rw [e]
      refine Ev.pos (by rw [Bool.eq_false_iff.2 hlt]; rfl) (Ev.pos (by omega) (Ev.sb (Ev.pos (by omega) (Ev.pos (by omega) ?_))))
      by_cases h : l[i].f0.toList = p.toList
      · rw [List.filter_cons_of_neg (by simp [notAt, h]), List.append_cons acc ⟨p, t, u⟩ (List.filter (notAt p) (l.drop (i + 1)))]
        exact Ev.pos h (spec_S_done l hl p t u d (i + 1) (acc ++ [⟨p, t, u⟩]) (by omega) (by rw [List.length_append, List.length_singleton]; omega))
      · rw [List.filter_cons_of_pos (by simp [notAt, h]), List.append_cons acc ⟨p, t, u⟩ (l[i] :: List.filter (notAt p) (l.drop (i + 1))), List.append_cons (acc ++ [(⟨p, t, u⟩ : Entry)]) l[i] (List.filter (notAt p) (l.drop (i + 1)))]
        exact Ev.neg h (Ev.pos (by rw [List.length_append, List.length_singleton]; omega) (spec_S_done l hl p t u d (i + 1) (acc ++ [⟨p, t, u⟩] ++ [l[i]]) (by omega) (by simp only [List.length_append, List.length_singleton]; omega)))
theorem spec_set_ev (l : List Entry) (hl : l.length ≤ 1000) (p t : ByteArray) (u : Bool) : Ev (fun k => spec_l5Set.f k l p t u) (setR ⟨p, t, u⟩ l) := by
  unfold spec_l5Set.f
  exact spec_S_open l hl p t u l.length 0 [] (by omega) (by simp)
theorem notAt_iff {p : ByteArray} {z : Entry} : notAt p z = true ↔ z.f0.toList ≠ p.toList := by
  unfold notAt
  simp
theorem setR_len (e : Entry) : ∀ l, (setR e l).length ≤ l.length + 1
  | [] => by simp [setR]
  | y :: r => by
    unfold setR
    split
    · have := setR_len e r
      simp only [List.length_cons]
      omega
    · have := List.length_filter_le (notAt e.f0) (y :: r)
      simp only [List.length_cons] at this ⊢
      omega
theorem setR_mem (e : Entry) : ∀ (l : List Entry) (x : Entry), x ∈ setR e l ↔ x = e ∨ (x ∈ l ∧ x.f0.toList ≠ e.f0.toList)
  | [], x => by simp [setR]
  | y :: r, x => by
    unfold setR
    split
    · rename_i hlt
      have hy : y.f0.toList ≠ e.f0.toList := fun h => by
        rw [h, less_irrefl] at hlt
        cases hlt
      rw [List.mem_cons, setR_mem e r x, List.mem_cons]
      constructor
      · rintro (rfl | rfl | ⟨h1, h2⟩)
        · exact .inr ⟨.inl rfl, hy⟩
        · exact .inl rfl
        · exact .inr ⟨.inr h1, h2⟩
      · rintro (rfl | ⟨rfl | h1, h2⟩)
        · exact .inr (.inl rfl)
        · exact .inl rfl
        · exact .inr (.inr ⟨h1, h2⟩)
    · rw [List.mem_cons, List.mem_filter, notAt_iff]
theorem setR_asc (e : Entry) : ∀ l : List Entry, l.Pairwise ltE → (setR e l).Pairwise ltE
  | [], _ => List.pairwise_singleton _ _
  | y :: r, h => by
    have h' := h
    obtain ⟨h1, h2⟩ := List.pairwise_cons.1 h'
    unfold setR
    split
    · rename_i hlt
      refine List.pairwise_cons.2 ⟨fun z hz => ?_, setR_asc e r h2⟩
      rcases (setR_mem e r z).1 hz with rfl | ⟨hz, _⟩
      · exact hlt
      · exact h1 z hz
    · rename_i hlt
      refine List.pairwise_cons.2 ⟨fun z hz => ?_, h.filter _⟩
      obtain ⟨hz, hn⟩ := List.mem_filter.1 hz
      rw [notAt_iff] at hn
      by_cases hy : y.f0.toList = e.f0.toList
      · rcases List.mem_cons.1 hz with rfl | hz
        · exact absurd hy hn
        · have := h1 z hz
          unfold ltE at this ⊢
          rw [← hy]
          exact this
      · have hey : ltE e y := less_or (Bool.eq_false_iff.2 hlt) hy
        rcases List.mem_cons.1 hz with rfl | hz
        · exact hey
        · exact ltE_trans hey (h1 z hz)
theorem asc_apart {l : List Entry} (h : l.Pairwise ltE) : Apart l := h.imp fun {a b} hab e => by
  unfold ltE at hab
  rw [e, less_irrefl] at hab
  cases hab
theorem set_apart (e : Entry) {l : List Entry} (h : l.Pairwise ltE) : Apart (e :: l.filter (notAt e.f0)) :=
  List.pairwise_cons.2 ⟨fun z hz => (notAt_iff.1 (List.mem_filter.1 hz).2).symm, asc_apart (h.filter _)⟩
/-- Set is: the row without the path, the entry beside it, sorted. -/
theorem setR_sort (e : Entry) {l : List Entry} (h : l.Pairwise ltE) : setR e l = sortE (e :: l.filter (notAt e.f0)) := by
  refine asc_unique _ _ (setR_asc e l h) (sortE_asc _ (set_apart e h)) (fun x => ?_)
  rw [setR_mem, (sortE_perm _).mem_iff, List.mem_cons, List.mem_filter, notAt_iff]
theorem treeOk_pair {l : List Entry} (h : treeOk l = true) : l.Pairwise ltE := by
  rw [List.pairwise_iff_getElem]
  intro i j hi hj hij
  exact treeOk_lt h hij hj
theorem pathOk_size {s : ByteArray} {g : Bool} (h : pathOk s g = true) : s.size ≤ 126 := by
  rcases Nat.lt_or_ge 126 s.size with h' | h'
  · rw [pathOk_long s g h'] at h
    cases h
  · exact h'
theorem treeOk_path {l : List Entry} (h : treeOk l = true) {i : Nat} (hi : i < l.length) : pathOk l[i].f0 false = true := by
  have := treeOk_rows h i hi
  unfold rowOk entryOk at this
  rw [rdE_eq hi] at this
  by_cases hp : pathOk l[i].f0 false = true
  · exact hp
  · rw [if_neg hp] at this
    cases this
theorem treeOk_size {l : List Entry} (h : treeOk l = true) {i : Nat} (hi : i < l.length) : l[i].f0.size ≤ 126 := pathOk_size (treeOk_path h hi)
theorem treeOk_size' {l : List Entry} (h : treeOk l = true) : ∀ e ∈ l, e.f0.size ≤ 126 := by
  intro e he
  obtain ⟨i, hi, rfl⟩ := List.getElem_of_mem he
  exact treeOk_size h hi
theorem treeOk_len100 {l : List Entry} (h : treeOk l = true) : l.length ≤ 100 := by
  unfold treeOk at h
  split at h
  · cases h
  · omega
theorem impl_sorted_eq {l : List Entry} (hl : l.length ≤ 1000) (h : Apart l) : impl_sorted.f l = some (sortE l) := if_pos ⟨by omega, h⟩

end Go.Proofs.YtkdghhkpmkfjhaaDoor.Pure


namespace Go.Proofs.YtkdghhkpmkfjhaaDoor.Pure
open Go Go.RowKit Go.Proofs.YtkdghhkpmkfjhaaDoor.P Go.Proofs.YtkdghhkpmkfjhaaDoorW.PrintWords Go.Proofs.YtkdghhkpmkfjhaaDoorW.PrintLast
set_option linter.unusedVariables false
set_option linter.unusedSimpArgs false

def finR (l o : List Entry) : List Entry × Int := if (o.length : Int) = (l.length : Int) then ([], 4) else (o, 0)
def remove (l : List Entry) (p : ByteArray) : List Entry × Int := if treeOk l = true then finR l (l.filter (notAt p)) else ([], 1)
theorem spec_R0 (l : List Entry) (hl : l.length ≤ 100) (p : ByteArray) : ∀ (d i : Nat) (acc : List Entry), i + d = l.length → acc.length ≤ i → Ev (fun k => spec_Remove.l0 k p (i : Int) l acc) (finR l (acc ++ (l.drop i).filter (notAt p)))
  | 0, i, acc, hd, ha => by
    rw [List.drop_of_length_le (by omega), List.filter_nil, List.append_nil]
    refine Ev.step (fun k => spec_Remove.l0.eq_2 ..) (Ev.neg (by omega) ?_)
    exact Ev.both (fun _ => Ev.now _) (fun _ => Ev.now _)
  | d + 1, i, acc, hd, ha => by
    have hi : i < l.length := by omega
    refine Ev.step (fun k => spec_Remove.l0.eq_2 ..) (Ev.pos (by omega) (Ev.pos (by omega) ?_))
    rw [rdE_eq hi, w64 (n := (i : Int) + 1) (by omega) (by omega), show (i : Int) + 1 = ((i + 1 : Nat) : Int) from by omega, List.drop_eq_getElem_cons hi]
    by_cases h : l[i].f0.toList = p.toList
    · rw [List.filter_cons_of_neg (by simp [notAt, h])]
      exact Ev.pos h (spec_R0 l hl p d (i + 1) acc (by omega) (by omega))
    · rw [List.filter_cons_of_pos (by simp [notAt, h]), List.append_cons acc l[i] (List.filter (notAt p) (l.drop (i + 1)))]
      exact Ev.neg h (Ev.pos (by omega) (spec_R0 l hl p d (i + 1) (acc ++ [l[i]]) (by omega) (by rw [List.length_append, List.length_singleton]; omega)))
theorem spec_Remove_ev (l : List Entry) (p : ByteArray) : Ev (fun k => spec_Remove.f k l p) (remove l p) := by
  unfold spec_Remove.f remove
  refine Ev.bind (spec_ValidTree_ev l) ?_
  by_cases h : treeOk l = true
  · rw [if_pos h]
    exact Ev.pos h (spec_R0 l (treeOk_len100 h) p l.length 0 [] (by omega) (by simp))
  · rw [if_neg h]
    exact Ev.neg h (Ev.now _)
/-- A path that lies there once goes alone. -/
theorem filter_erase : ∀ (l : List Entry) (p : ByteArray) (m : Nat) (_ : Apart l) (hm : m < l.length), l[m].f0.toList = p.toList → l.filter (notAt p) = l.eraseIdx m
  | [], _, m, _, hm, _ => absurd hm (Nat.not_lt_zero _)
  | y :: r, p, 0, ha, hm, he => by
    have he' : y.f0.toList = p.toList := he
    obtain ⟨h1, _⟩ := List.pairwise_cons.1 ha
    rw [List.filter_cons_of_neg (by simp [notAt, he']), List.eraseIdx_cons_zero]
    exact List.filter_eq_self.2 (fun z hz => notAt_iff.2 (by rw [← he']; exact (h1 z hz).symm))
  | y :: r, p, m + 1, ha, hm, he => by
    obtain ⟨h1, h2⟩ := List.pairwise_cons.1 ha
    have hm' : m < r.length := by simpa using hm
    have he' : r[m].f0.toList = p.toList := he
    rw [List.filter_cons_of_pos (notAt_iff.2 (by rw [← he']; exact h1 _ (List.getElem_mem hm'))), List.eraseIdx_cons_succ, filter_erase r p m h2 hm' he']
theorem impl_Remove_ev (l : List Entry) (hz : ∀ e ∈ l, e.f0.size ≤ 1048576) (p : ByteArray) : Ev (fun k => impl_Remove.f k l p) (remove l p) := by
  unfold impl_Remove.f remove
  refine Ev.bind (impl_ValidTree_ev l hz) ?_
  by_cases h : treeOk l = true
  · rw [if_pos h]
    have hl := treeOk_len100 h
    obtain ⟨m, ok, e, h1, h2⟩ := find_ev l p h
    refine Ev.pos h (Ev.bind e ?_)
    cases ok with
    | true =>
      obtain ⟨hm, he⟩ := h1 rfl
      rw [filter_erase l p m (asc_apart (treeOk_pair h)) hm he]
      have hlen : (l.eraseIdx m).length = l.length - 1 := by rw [List.length_eraseIdx, if_pos hm]
      have e3 : finR l (l.eraseIdx m) = (l.eraseIdx m, 0) := if_neg (by rw [hlen]; omega)
      rw [e3]
      refine Ev.pos rfl ?_
      rw [show impl_Entry_66.f l = some l from if_pos (by omega)]
      refine Ev.sb ?_
      rw [w64 (n := (m : Int) + 1) (by omega) (by omega), show impl_Entry_65.f l (m : Int) ((m : Int) + 1) = some (l.eraseIdx m) from by
        unfold impl_Entry_65.f
        rw [if_pos ⟨by omega, rfl, by omega, by omega⟩, Int.toNat_natCast]]
      exact Ev.sb (Ev.now _)
    | false =>
      have hf : l.filter (notAt p) = l := List.filter_eq_self.2 (fun z hz => by
        obtain ⟨i, hi, rfl⟩ := List.getElem_of_mem hz
        exact notAt_iff.2 (h2 rfl i hi))
      have e3 : finR l l = ([], 4) := if_pos rfl
      rw [hf, e3]
      exact Ev.neg (by simp) (Ev.now _)
  · rw [if_neg h]
    exact Ev.neg h (Ev.now _)
theorem remove_len (l : List Entry) (p : ByteArray) : (remove l p).1.length ≤ 100 := by
  unfold remove finR
  split
  · rename_i h
    have := treeOk_len100 h
    have h2 := List.length_filter_le (notAt p) l
    split
    · simp
    · show (l.filter (notAt p)).length ≤ 100
      omega
  · simp

end Go.Proofs.YtkdghhkpmkfjhaaDoor.Pure


namespace Go.Proofs.YtkdghhkpmkfjhaaDoor.Pure
open Go Go.RowKit Go.Proofs.YtkdghhkpmkfjhaaDoor.P Go.Proofs.YtkdghhkpmkfjhaaDoorW.PrintWords Go.Proofs.YtkdghhkpmkfjhaaDoorW.PrintLast
set_option linter.unusedVariables false
set_option linter.unusedSimpArgs false

theorem ofE_smallR {l : List LEntry} {left : Int} (h1 : left ≤ 1048576) (h : ∀ s ∈ l, (s.f0.size : Int) ≤ left ∧ (s.f1.size : Int) ≤ left) : ∀ e ∈ l.map ofE, e.f0.size ≤ 1048576 := by
  intro e he
  obtain ⟨s, hs, rfl⟩ := List.mem_map.1 he
  have := (h s hs).1
  show s.f0.size ≤ 1048576
  omega
theorem FnExactRemove (l : List LEntry) (p : ByteArray) (h : l.length * 40 ≤ 140737488351232 ∧ ∀ x ∈ l, Small62 x) (_hb : p.size ≤ 140737488351232) : ∃ k, laws_FnExactRemove.f k l p = some true := by
  apply Ev.rounds
  unfold laws_FnExactRemove.f
  by_cases hb : (p.size : Int) > 1048576
  · exact Ev.pos hb (Ev.now _)
  refine Ev.neg hb ?_
  obtain ⟨r, hr, hR⟩ := szTree_ev l (by omega) (fun s hs => ⟨(h.2 s hs).1, (h.2 s hs).2.1⟩) 1048576 (by omega) (by omega)
  refine Ev.bind hr ?_
  rcases hR with rfl | ⟨a, b, c, d⟩
  · exact Ev.pos (by omega) (Ev.now _)
  have T := toTree_ev l (by omega)
  have hl : (l.map ofE).length ≤ 1048576 := by rw [List.length_map]; omega
  have hs := ofE_smallR (l := l) (left := 1048576) (by omega) d
  generalize l.map ofE = X at T hl hs
  have S := spec_Remove_ev X p
  have I := impl_Remove_ev X hs p
  have hu := remove_len X p
  generalize remove X p = R at S I hu
  have Q := eqTree_ev R.1 (by omega)
  obtain ⟨L, _, m1, _⟩ := markedTree_ev X (by omega)
  obtain ⟨L2, _, m2, h2⟩ := markedTree_ev R.1 (by omega)
  have J2 : Ev (fun k => laws_FnExactRemove.j2 k ((1 + 3 * R.1.length : Nat) : Int) (R.2 != R.2) L2) true := by
    refine Ev.step (fun k => laws_FnExactRemove.j2.eq_2 ..) (Ev.neg (by simp) (Ev.bind h2 (Ev.neg (by omega) (Ev.pos rfl (Ev.now _)))))
  have J1 : Ev (fun k => laws_FnExactRemove.j1 k p R.2 (R.2 != R.2) l R.1 R.1) true := by
    refine Ev.step (fun k => laws_FnExactRemove.j1.eq_2 ..) (Ev.neg (by simp) (Ev.bind m2 (Ev.bind h2 (Ev.neg (by omega) (Ev.pos rfl ?_)))))
    exact Ev.bind T (Ev.bind I (Ev.bind Q (Ev.pos rfl J2)))
  have J0 : Ev (fun k => laws_FnExactRemove.j0 k p R.2 R.2 (R.2 != R.2) l R.1 X R.1) true := by
    refine Ev.step (fun k => laws_FnExactRemove.j0.eq_2 ..) (Ev.neg (by simp) (Ev.bind T (Ev.bind (eqTree_ev X (by omega)) (Ev.pos rfl (Ev.bind m1 (Ev.neg (by omega) (Ev.bind Q (Ev.pos rfl J1))))))))
  exact Ev.neg (by omega) (Ev.bind T (Ev.bind S (Ev.bind T (Ev.bind I (Ev.bind Q (Ev.pos rfl J0))))))

end Go.Proofs.YtkdghhkpmkfjhaaDoor.Pure

