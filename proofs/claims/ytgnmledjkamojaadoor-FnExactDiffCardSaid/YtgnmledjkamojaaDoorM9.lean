/- Several texts of this claim in one file: YtgnmledjkamojaaDoorDiff, YtgnmledjkamojaaDoorPureFnExactDiff. -/
import Derived.Test.YtgnmledjkamojaaDoorM8
import Derived.Test.YtgnmledjkamojaaDoorM6
import Derived.Test.YtgnmledjkamojaaDoorM7
import Derived.Test.YtgnmledjkamojaaDoorM3
namespace Go.Proofs.YtgnmledjkamojaaDoor.Pure
open Go Go.RowKit Go.Proofs.YtgnmledjkamojaaDoor.P Go.Proofs.YtgnmledjkamojaaDoorW.PrintWords Go.Proofs.YtgnmledjkamojaaDoorW.PrintLast
set_option linter.unusedVariables false
set_option linter.unusedSimpArgs false

def diff (a b : List Entry) : List S125 := if treeOk a = true then (if treeOk b = true then diffL a b else []) else []
def pathsE (l : List Entry) : List ByteArray := l.map fun e => e.f0
def diffS (a b : List Entry) (k : ByteArray) : Option S125 := if sameF (fileAt a k) (fileAt b k) = true then none else some ⟨k, ofF (fileAt a k), ofF (fileAt b k)⟩
theorem filesFrom_keys : ∀ (l : List Entry) (M : List (ByteArray × FileT)) (x : ByteArray), x ∈ (filesFrom M l).map (·.1) ↔ x ∈ pathsE l ∨ x ∈ M.map (·.1)
  | [], M, x => ⟨fun h => .inr h, fun h => h.resolve_left (by simp [pathsE])⟩
  | e :: r, M, x => by
    show x ∈ (filesFrom (mput e.f0 (fileE e) M) r).map (·.1) ↔ x ∈ e.f0 :: pathsE r ∨ x ∈ M.map (·.1)
    rw [filesFrom_keys r _ x, mput_map, List.mem_cons]
    constructor
    · rintro (h | h | h)
      · exact .inl (.inr h)
      · exact .inl (.inl h)
      · exact .inr h
    · rintro ((h | h) | h)
      · exact .inr (.inl h)
      · exact .inl h
      · exact .inr (.inr h)
theorem filesM_keys (l : List Entry) (x : ByteArray) : x ∈ (filesM l).map (·.1) ↔ x ∈ pathsE l := by
  unfold filesM
  rw [filesFrom_keys]
  simp
theorem diffL_eq {a b : List Entry} (ha : Apart a) (hb : Apart b) : diffL a b = (keysS (pathsE a ++ pathsE b)).filterMap (diffS a b) := by
  unfold diffL diffM
  have e1 : keysS ((filesM a).map (·.1) ++ (filesM b).map (·.1)) = keysS (pathsE a ++ pathsE b) := by
    refine ascS_unique _ _ (keysS_asc _) (keysS_asc _) (fun x => ?_)
    rw [keysS_mem, keysS_mem, List.mem_append, List.mem_append, filesM_keys, filesM_keys]
  have e2 : diffG (filesM a) (filesM b) = diffS a b := by
    funext k
    unfold diffG diffS
    rw [filesM_at ha, filesM_at hb]
  rw [e1, e2]
theorem impl_Diff_ev (a b : List Entry) (ha : ∀ e ∈ a, e.f0.size ≤ 1048576) (hb : ∀ e ∈ b, e.f0.size ≤ 1048576) : Ev (fun k => impl_Diff.f k a b) (diff a b) := by
  unfold impl_Diff.f diff
  refine Ev.bind (impl_ValidTree_ev a ha) (Ev.both (fun h1 => Ev.bind (impl_ValidTree_ev b hb) (Ev.both (fun h2 => ?_) (fun _ => Ev.now _))) (fun _ => Ev.now _))
  have l1 := treeOk_len100 h1
  have l2 := treeOk_len100 h2
  exact Ev.pos (by omega) (Ev.now _)
/-! ### the reference -/
theorem rdT_eq {l : List S28} {i : Nat} (h : i < l.length) : rd_T28 l (i : Int) = l[i] := by
  unfold rd_T28
  rw [Int.toNat_natCast, List.getD_eq_getElem?_getD, List.getElem?_eq_getElem h]
  rfl
theorem paths_row (X : List S28) (hX : X.length ≤ 10) (i : Nat) (hi : i < X.length) (R : List Entry) (hR : X[i].f0 = R) (hl : R.length ≤ 100) (out : List ByteArray) : ∀ (d j : Nat) (acc : List ByteArray), j + d = R.length → acc.length ≤ 300 + j → acc.Pairwise ltS →
    Ev (fun k => spec_l6Paths.l0 k X ((R.drop j).foldl (fun a e => insS e.f0 a) acc) ((i + 1 : Nat) : Int)) out → Ev (fun k => spec_l6Paths.l1 k X acc (i : Int) (j : Int)) out
  | 0, j, acc, hd, ha, hs, h => by
    rw [List.drop_of_length_le (by omega)] at h
    refine Ev.step (fun k => spec_l6Paths.l1.eq_2 ..) (Ev.pos (by omega) (Ev.pos (by omega) ?_))
    rw [rdT_eq hi, hR, w64 (n := (i : Int) + 1) (by omega) (by omega), show (i : Int) + 1 = ((i + 1 : Nat) : Int) from by omega]
    exact Ev.neg (by omega) h
  | d + 1, j, acc, hd, ha, hs, h => by
    have hj : j < R.length := by omega
    refine Ev.step (fun k => spec_l6Paths.l1.eq_2 ..) (Ev.pos (by omega) (Ev.pos (by omega) ?_))
    rw [rdT_eq hi, hR, rdE_eq hj, w64 (n := (j : Int) + 1) (by omega) (by omega), show (j : Int) + 1 = ((j + 1 : Nat) : Int) from by omega]
    rw [List.drop_eq_getElem_cons hj] at h
    refine Ev.pos (by omega) (Ev.pos (by omega) (Ev.bind (name_ev acc (by omega) hs _) ?_))
    exact paths_row X hX i hi R hR hl out d (j + 1) _ (by omega) (by have := insS_len R[j].f0 acc; omega) (insS_asc _ _ hs) h
theorem foldE_len : ∀ (l : List Entry) (acc : List ByteArray), (l.foldl (fun a e => insS e.f0 a) acc).length ≤ l.length + acc.length := fun l acc => by
  have := keysS_len_fold (pathsE l) acc
  unfold pathsE at this
  rw [List.foldl_map, List.length_map] at this
  exact this
theorem foldE_asc (l : List Entry) (acc : List ByteArray) (h : acc.Pairwise ltS) : (l.foldl (fun a e => insS e.f0 a) acc).Pairwise ltS := by
  have := (keysS_fold (pathsE l) acc h).1
  unfold pathsE at this
  rw [List.foldl_map] at this
  exact this
theorem paths_ev (a b : List Entry) (ha : a.length ≤ 100) (hb : b.length ≤ 100) : Ev (fun k => spec_l6Paths.f k [(⟨a⟩ : S28), (⟨b⟩ : S28)]) (keysS (pathsE a ++ pathsE b)) := by
  have e : keysS (pathsE a ++ pathsE b) = b.foldl (fun x e => insS e.f0 x) (a.foldl (fun x e => insS e.f0 x) []) := by
    unfold keysS pathsE
    rw [List.foldl_append, List.foldl_map, List.foldl_map]
  rw [e]
  show Ev (fun k => spec_l6Paths.l0 k _ [] ((0 : Nat) : Int)) _
  refine Ev.step (fun k => spec_l6Paths.l0.eq_2 ..) (Ev.pos (by simp) ?_)
  refine paths_row _ (by simp) 0 (by simp) a rfl ha _ a.length 0 [] (by omega) (by simp) List.Pairwise.nil ?_
  rw [List.drop_zero]
  refine Ev.step (fun k => spec_l6Paths.l0.eq_2 ..) (Ev.pos (by simp) ?_)
  refine paths_row _ (by simp) 1 (by simp) b rfl hb _ b.length 0 _ (by omega) (by have := foldE_len a []; simp at this; omega) (foldE_asc a [] List.Pairwise.nil) ?_
  rw [List.drop_zero]
  exact Ev.step (fun k => spec_l6Paths.l0.eq_2 ..) (Ev.neg (by simp) (Ev.now _))
theorem diff_sameD (x y : FileT) : ((!(x.1 == y.1)) || ((!(x.2.1.toList == y.2.1.toList)) || (!(x.2.2 == y.2.2)))) = !sameF x y := by
  unfold sameF
  cases (x.1 == y.1) <;> cases (x.2.1.toList == y.2.1.toList) <;> cases (x.2.2 == y.2.2) <;> rfl
theorem spec_D0 (a b : List Entry) (ha : a.length ≤ 100) (hb : b.length ≤ 100) (ks : List ByteArray) (hk : ks.length ≤ 400) : ∀ (d i : Nat) (acc : List S125), i + d = ks.length → acc.length ≤ i → Ev (fun k => spec_Diff.l0 k ks (i : Int) a b acc) (acc ++ (ks.drop i).filterMap (diffS a b))
  | 0, i, acc, hd, hl => by
    rw [List.drop_of_length_le (by omega), List.filterMap_nil, List.append_nil]
    exact Ev.step (fun k => spec_Diff.l0.eq_2 ..) (Ev.neg (by omega) (Ev.now _))
  | d + 1, i, acc, hd, hl => by
    have hi : i < ks.length := by omega
    have e1 := at_ev ks[i] a (by omega) a.length 0 (by omega)
    have e2 := at_ev ks[i] b (by omega) b.length 0 (by omega)
    rw [List.drop_zero] at e1 e2
    refine Ev.step (fun k => spec_Diff.l0.eq_2 ..) (Ev.pos (by omega) (Ev.pos (by omega) ?_))
    rw [rdN_eq hi, w64 (n := (i : Int) + 1) (by omega) (by omega), show (i : Int) + 1 = ((i + 1 : Nat) : Int) from by omega, List.drop_eq_getElem_cons hi, List.filterMap_cons]
    refine Ev.bind e1 (Ev.bind e2 ?_)
    rw [diff_sameD]
    unfold diffS
    by_cases hs : sameF (fileAt a ks[i]) (fileAt b ks[i]) = true
    · rw [if_pos hs]
      exact Ev.neg (by rw [hs]; simp) (spec_D0 a b ha hb ks hk d (i + 1) acc (by omega) (by omega))
    · rw [if_neg hs]
      refine Ev.pos (by rw [Bool.eq_false_iff.2 hs]; rfl) (Ev.pos (by omega) ?_)
      have := spec_D0 a b ha hb ks hk d (i + 1) (acc ++ [⟨ks[i], ofF (fileAt a ks[i]), ofF (fileAt b ks[i])⟩]) (by omega) (by rw [List.length_append, List.length_singleton]; omega)
      rw [List.append_assoc] at this
      exact this
theorem spec_Diff_ev (a b : List Entry) : Ev (fun k => spec_Diff.f k a b) (diff a b) := by
  unfold spec_Diff.f diff
  refine Ev.bind (spec_ValidTree_ev a) ?_
  by_cases h : treeOk a = true
  · rw [if_pos h]
    refine Ev.pos h (Ev.bind (spec_ValidTree_ev b) (Ev.step (fun k => spec_Diff.j0.eq_2 ..) ?_))
    by_cases h2 : treeOk b = true
    · rw [if_pos h2, h2]
      have l1 := treeOk_len100 h
      have l2 := treeOk_len100 h2
      have hk := keysS_len (pathsE a ++ pathsE b)
      unfold pathsE at hk
      rw [List.length_append, List.length_map, List.length_map] at hk
      refine Ev.neg (by simp) (Ev.bind (paths_ev a b l1 l2) ?_)
      have := spec_D0 a b l1 l2 (keysS (pathsE a ++ pathsE b)) (by unfold pathsE; omega) (keysS (pathsE a ++ pathsE b)).length 0 [] (by omega) (by simp)
      rw [List.drop_zero, List.nil_append, ← diffL_eq (asc_apart (treeOk_pair h)) (asc_apart (treeOk_pair h2))] at this
      exact this
    · rw [if_neg h2, Bool.eq_false_iff.2 h2]
      exact Ev.pos rfl (Ev.now _)
  · rw [if_neg h]
    exact Ev.neg h (Ev.step (fun k => spec_Diff.j0.eq_2 ..) (Ev.pos rfl (Ev.now _)))
theorem diff_len200 (a b : List Entry) : (diff a b).length ≤ 200 := by
  unfold diff
  split
  · rename_i h1
    split
    · rename_i h2
      have l1 := treeOk_len100 h1
      have l2 := treeOk_len100 h2
      rw [diffL_eq (asc_apart (treeOk_pair h1)) (asc_apart (treeOk_pair h2))]
      have h3 := List.length_filterMap_le (diffS a b) (keysS (pathsE a ++ pathsE b))
      have hk := keysS_len (pathsE a ++ pathsE b)
      unfold pathsE at hk h3 ⊢
      rw [List.length_append, List.length_map, List.length_map] at hk
      omega
    · simp
  · simp

end Go.Proofs.YtgnmledjkamojaaDoor.Pure


namespace Go.Proofs.YtgnmledjkamojaaDoor.Pure
open Go Go.RowKit Go.Proofs.YtgnmledjkamojaaDoor.P Go.Proofs.YtgnmledjkamojaaDoorW.PrintWords Go.Proofs.YtgnmledjkamojaaDoorW.PrintLast
set_option linter.unusedVariables false
set_option linter.unusedSimpArgs false

theorem marksFromD_ev : ∀ (d i m : Nat) (l : List Entry), i + d = l.length → m + d ≤ 2200000 → l.length ≤ 2200000 → Evs (fun k => laws_markEntryS.l0 k l ((1 + 3 * m : Nat) : Int) (i : Int)) (fun r => r.1 = ((1 + 3 * (m + d) : Nat) : Int))
  | 0, i, m, l, hd, hm, hl => Evs.step (fun k => laws_markEntryS.l0.eq_2 ..) (Evs.neg (by omega) (Evs.ret (by show ((1 + 3 * m : Nat) : Int) = _; omega)))
  | d + 1, i, m, l, hd, hm, hl => by
    have hi : i < l.length := by omega
    refine Evs.step (fun k => laws_markEntryS.l0.eq_2 ..) (Evs.pos (by omega) (Evs.bind (Evs.of (mark_spec (1 + 3 * m) (by omega)) (Q := fun t => t = mark (1 + 3 * m)) rfl) (fun t ht => Evs.pos (by omega) ?_)))
    subst ht
    rw [Int.toNat_natCast, w64 (n := ((1 + 3 * m : Nat) : Int) + 1) (by omega) (by omega), show ((1 + 3 * m : Nat) : Int) + 1 = ((2 + 3 * m : Nat) : Int) from by omega, w64 (n := ((2 + 3 * m : Nat) : Int) + 1) (by omega) (by omega), show ((2 + 3 * m : Nat) : Int) + 1 = ((3 + 3 * m : Nat) : Int) from by omega, w64 (n := ((3 + 3 * m : Nat) : Int) + 1) (by omega) (by omega), show ((3 + 3 * m : Nat) : Int) + 1 = ((1 + 3 * (m + 1) : Nat) : Int) from by omega, w64 (n := (i : Int) + 1) (by omega) (by omega), show (i : Int) + 1 = ((i + 1 : Nat) : Int) from by omega]
    refine Evs.sb (Evs.bind (Evs.of (mark_spec (2 + 3 * m) (by omega)) (Q := fun t => t = mark (2 + 3 * m)) rfl) (fun t ht => ?_))
    subst ht
    refine Evs.sb ?_
    simp only [rdE_set hi, List.set_set]
    have e2 : ∀ a : Entry, rd_T37 (l.set i a) (i : Int) = a := rdE_set hi
    refine (marksFromD_ev d (i + 1) (m + 1) (l.set i _) (by rw [List.length_set]; omega) (by omega) (by rw [List.length_set]; omega)).mono (fun r hr => ?_)
    rw [hr]
    omega
theorem ofE_smallD {l : List LEntry} {left : Int} (h1 : left ≤ 1048576) (h : ∀ s ∈ l, (s.f0.size : Int) ≤ left ∧ (s.f1.size : Int) ≤ left) : ∀ e ∈ l.map ofE, e.f0.size ≤ 1048576 := by
  intro e he
  obtain ⟨s, hs, rfl⟩ := List.mem_map.1 he
  have := (h s hs).1
  show s.f0.size ≤ 1048576
  omega
theorem FnExactDiff (l s : List LEntry) (h : l.length * 40 ≤ 140737488351232 ∧ ∀ x ∈ l, Small172 x) (hh : s.length * 40 ≤ 140737488351232 ∧ ∀ x ∈ s, Small172 x) : ∃ k, laws_FnExactDiff.f k l s = some true := by
  apply Ev.rounds
  unfold laws_FnExactDiff.f
  obtain ⟨r, hr, hR⟩ := szTree_ev l (by omega) (fun x hx => ⟨(h.2 x hx).1, (h.2 x hx).2.1⟩) 1048576 (by omega) (by omega)
  refine Ev.bind hr ?_
  rcases hR with rfl | ⟨a, b, c, d⟩
  · exact Ev.pos (by omega) (Ev.now _)
  refine Ev.neg (by omega) ?_
  obtain ⟨r2, hr2, hR2⟩ := szTree_ev s (by omega) (fun x hx => ⟨(hh.2 x hx).1, (hh.2 x hx).2.1⟩) r a b
  refine Ev.bind hr2 ?_
  rcases hR2 with rfl | ⟨a2, b2, c2, d2⟩
  · exact Ev.pos (by omega) (Ev.now _)
  have T := toTree_ev l (by omega)
  have T2 := toTree_ev s (by omega)
  have hl : (l.map ofE).length ≤ 1048576 := by rw [List.length_map]; omega
  have hl2 : (s.map ofE).length ≤ 1048576 := by rw [List.length_map]; omega
  have hs := ofE_smallD (l := l) (left := 1048576) (by omega) d
  have hs2 := ofE_smallD (l := s) (left := r) (by omega) d2
  generalize l.map ofE = X at T hl hs
  generalize s.map ofE = Y at T2 hl2 hs2
  have S := spec_Diff_ev X Y
  have I := impl_Diff_ev X Y hs hs2
  have hu := diff_len200 X Y
  generalize diff X Y = R at S I hu
  have Q := eqPatch_ev R (by omega)
  obtain ⟨L, _, m1, _⟩ := markedTree_ev X (by omega)
  obtain ⟨p, p1, hp⟩ := marksFromD_ev Y.length 0 X.length Y (by omega) (by omega) (by omega)
  obtain ⟨L2, _, m2, h2⟩ := markedPatch_ev R (by omega)
  have m3 : Ev (fun k => laws_markTree.f k Y ((1 + 3 * X.length : Nat) : Int)) p := by
    unfold laws_markTree.f laws_markEntryS.f
    exact Ev.bind hp (Ev.now _)
  have J0 : Ev (fun k => laws_FnExactDiff.j0 k (!true) l s R R) true := by
    refine Ev.step (fun k => laws_FnExactDiff.j0.eq_2 ..) (Ev.neg (by simp) (Ev.bind m2 (Ev.bind h2 (Ev.neg (by omega) (Ev.pos rfl ?_)))))
    exact Ev.bind T (Ev.bind T2 (Ev.bind I (Ev.bind Q (Ev.pos rfl (Ev.bind h2 (Ev.neg (by omega) (Ev.pos rfl (Ev.now _))))))))
  refine Ev.neg (by omega) (Ev.bind T (Ev.bind T2 (Ev.bind S (Ev.bind T (Ev.bind T2 (Ev.bind I (Ev.bind Q (Ev.pos rfl ?_))))))))
  exact Ev.bind T (Ev.bind (eqTree_ev X (by omega)) (Ev.pos rfl (Ev.bind T2 (Ev.bind (eqTree_ev Y (by omega)) (Ev.pos rfl (Ev.bind m1 (Ev.bind m3 (Ev.neg (by omega) (Ev.bind Q J0)))))))))

end Go.Proofs.YtgnmledjkamojaaDoor.Pure

