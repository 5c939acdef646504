/- Several texts of this claim in one file: YtknagppkeodggaaDoorJoinMaps, YtknagppkeodggaaDoorJoin, YtknagppkeodggaaDoorPureFnExactJoin. -/
import Derived.Test.YtknagppkeodggaaDoorM8
import Derived.Test.YtknagppkeodggaaDoorM5
import Derived.Test.YtknagppkeodggaaDoorM7
import Derived.Test.YtknagppkeodggaaDoorM6
import Derived.Test.YtknagppkeodggaaDoorM3
namespace Go.Proofs.YtknagppkeodggaaDoor.Pure
open Go Go.RowKit Go.Proofs.YtknagppkeodggaaDoor.P Go.Proofs.YtknagppkeodggaaDoorW.PrintWords Go.Proofs.YtknagppkeodggaaDoorW.PrintLast
set_option linter.unusedVariables false
set_option linter.unusedSimpArgs false

/-- Two changes of one path, made one; none: they do not fit. -/
def joinC : Option Change → Option Change → Option (Option Change)
  | none, y => some y
  | some x, none => some (some x)
  | some x, some y => if sameF (toF x.f2) (toF y.f1) = true then (if sameF (toF x.f1) (toF y.f2) = true then some none else some (some ⟨x.f0, x.f1, y.f2⟩)) else none
def joinAll (p q : List Change) : List ByteArray → Option (List Change)
  | [] => some []
  | k :: r => (joinC (chgAt p k) (chgAt q k)).bind fun o => (joinAll p q r).bind fun l => some (o.toList ++ l)
def pathsC (l : List Change) : List ByteArray := l.map fun c => c.f0
def joinR (p q : List Change) : List Change × Bool := joinE (joinAll p q (keysS (pathsC p ++ pathsC q)))
def join (p q : List Change) : List Change × Bool := if patchOk p = true then (if patchOk q = true then joinR p q else ([], false)) else ([], false)
theorem joinC_path {p q : List Change} {k : ByteArray} {c : Change} (h : joinC (chgAt p k) (chgAt q k) = some (some c)) : c.f0 = k := by
  cases h1 : chgAt p k with
  | none =>
    rw [h1] at h
    exact (chgAt_mem (Option.some.inj h)).2
  | some x =>
    have hx := (chgAt_mem h1).2
    cases h2 : chgAt q k with
    | none =>
      rw [h1, h2] at h
      rw [← Option.some.inj (Option.some.inj h)]
      exact hx
    | some y =>
      rw [h1, h2] at h
      unfold joinC at h
      simp only at h
      split at h
      · split at h
        · cases h
        · rw [← Option.some.inj (Option.some.inj h)]
          exact hx
      · cases h
theorem joinAll_at (p q : List Change) : ∀ (ks : List ByteArray) (l : List Change), ks.Pairwise ltS → joinAll p q ks = some l → l.Pairwise ltC ∧ (∀ c ∈ l, c.f0 ∈ ks) ∧ ∀ k ∈ ks, joinC (chgAt p k) (chgAt q k) = some (chgAt l k)
  | [], l, _, h => by
    obtain rfl := Option.some.inj h
    exact ⟨List.Pairwise.nil, fun c hc => (by cases hc), fun k hk => (by cases hk)⟩
  | k :: r, l, ha, h => by
    obtain ⟨h1, h2⟩ := List.pairwise_cons.1 ha
    obtain ⟨o, ho, h⟩ := Option.bind_eq_some_iff.1 h
    obtain ⟨l', hl, h⟩ := Option.bind_eq_some_iff.1 h
    obtain rfl := Option.some.inj h
    obtain ⟨a1, a2, a3⟩ := joinAll_at p q r l' h2 hl
    have off : ∀ c ∈ l', c.f0.toList ≠ k.toList := fun c hc e => ltS_ne (h1 _ (a2 c hc)) (str_eq e).symm
    cases o with
    | none =>
      refine ⟨a1, fun c hc => List.mem_cons_of_mem _ (a2 c hc), fun x hx => ?_⟩
      rcases List.mem_cons.1 hx with rfl | hx
      · rw [ho]
        exact congrArg some (chgAt_none off).symm
      · exact a3 x hx
    | some c =>
      have hc := joinC_path ho
      refine ⟨List.pairwise_cons.2 ⟨fun y hy => ?_, a1⟩, fun y hy => ?_, fun x hx => ?_⟩
      · show less c.f0.toList y.f0.toList = true
        rw [hc]
        exact h1 _ (a2 y hy)
      · rcases List.mem_cons.1 hy with rfl | hy
        · rw [hc]
          exact List.mem_cons_self
        · exact List.mem_cons_of_mem _ (a2 y hy)
      · show _ = some (chgAt (c :: l') x)
        rw [chgAt_cons, hc]
        rcases List.mem_cons.1 hx with rfl | hx
        · rw [if_pos rfl, ho]
        · rw [if_neg (fun e => ltS_ne (h1 x hx) (str_eq e)), a3 x hx]
theorem joinAll_of (p q : List Change) : ∀ ks : List ByteArray, (∀ k ∈ ks, joinC (chgAt p k) (chgAt q k) ≠ none) → ∃ l, joinAll p q ks = some l
  | [], _ => ⟨[], rfl⟩
  | k :: r, h => by
    obtain ⟨l, hl⟩ := joinAll_of p q r (fun x hx => h x (List.mem_cons_of_mem _ hx))
    obtain ⟨o, ho⟩ := Option.ne_none_iff_exists'.1 (h k List.mem_cons_self)
    exact ⟨o.toList ++ l, by unfold joinAll; rw [ho, Option.bind_some, hl, Option.bind_some]⟩
theorem chgAt_off {l : List Change} {k : ByteArray} (h : k ∉ pathsC l) : chgAt l k = none := chgAt_none (fun c hc e => h (List.mem_map.2 ⟨c, hc, str_eq e⟩))
/-- The joined patch, path by path. -/
theorem joinR_at {p q j : List Change} (h : joinAll p q (keysS (pathsC p ++ pathsC q)) = some j) : j.Pairwise ltC ∧ ∀ k, joinC (chgAt p k) (chgAt q k) = some (chgAt j k) := by
  obtain ⟨h1, h2, h3⟩ := joinAll_at p q _ j (keysS_asc _) h
  refine ⟨h1, fun k => ?_⟩
  by_cases hk : k ∈ keysS (pathsC p ++ pathsC q)
  · exact h3 k hk
  · have hn : chgAt j k = none := chgAt_none (fun c hc e => hk (by rw [← str_eq e]; exact h2 c hc))
    rw [keysS_mem, List.mem_append] at hk
    rw [hn, chgAt_off (fun e => hk (.inl e)), chgAt_off (fun e => hk (.inr e))]
    rfl
theorem join_true {p q j : List Change} (h : join p q = (j, true)) : patchOk p = true ∧ patchOk q = true ∧ j.length ≤ 200 ∧ j.Pairwise ltC ∧ ∀ k, joinC (chgAt p k) (chgAt q k) = some (chgAt j k) := by
  unfold join joinR joinE at h
  split at h
  · rename_i h1
    split at h
    · rename_i h2
      split at h
      · rename_i l hl
        split at h
        · rename_i h3
          obtain ⟨rfl, _⟩ := Prod.mk.inj h
          exact ⟨h1, h2, h3, joinR_at hl⟩
        · exact absurd (Prod.mk.inj h).2 (by decide)
      · exact absurd (Prod.mk.inj h).2 (by decide)
    · exact absurd (Prod.mk.inj h).2 (by decide)
  · exact absurd (Prod.mk.inj h).2 (by decide)

end Go.Proofs.YtknagppkeodggaaDoor.Pure


namespace Go.Proofs.YtknagppkeodggaaDoor.Pure
open Go Go.RowKit Go.Proofs.YtknagppkeodggaaDoor.P Go.Proofs.YtknagppkeodggaaDoorW.PrintWords Go.Proofs.YtknagppkeodggaaDoorW.PrintLast
set_option linter.unusedVariables false
set_option linter.unusedSimpArgs false

theorem patchOk_len200J {l : List Change} (h : patchOk l = true) : l.length ≤ 200 := by
  unfold patchOk at h
  split at h
  · cases h
  · omega
theorem patchOk_ascJ {l : List Change} (h : patchOk l = true) : l.Pairwise ltC := by
  have hl := patchOk_len200J h
  have rows : ∀ (d i : Nat), patchFrom l d i = true → ∀ j, i ≤ j → j < i + d → rowC l j = true := by
    intro d
    induction d with
    | zero => exact fun i _ j h1 h2 => (by omega)
    | succ d ih =>
      intro i h j h1 h2
      unfold patchFrom at h
      split at h
      · rename_i hr
        rcases Nat.lt_or_ge i j with h' | h'
        · exact ih (i + 1) h j (by omega) (by omega)
        · obtain rfl : j = i := by omega
          exact hr
      · cases h
  have next : ∀ (j : Nat) (hj : j + 1 < l.length), ltC (l[j]'(by omega)) l[j + 1] := by
    intro j hj
    unfold patchOk at h
    rw [if_neg (by omega)] at h
    have := rows l.length 0 h (j + 1) (by omega) (by omega)
    unfold rowC at this
    simp only [Bool.and_eq_true] at this
    have h5 := this.2.2.2.2
    unfold ascC at h5
    rw [if_pos (by omega), show ((j + 1 : Nat) : Int) - 1 = (j : Int) from by omega] at h5
    simp only [rdC, rdC_eq hj, rdC_eq (show j < l.length from by omega)] at h5
    exact h5
  have step : ∀ (d i : Nat) (hj : i + d + 1 < l.length), ltC (l[i]'(by omega)) (l[i + d + 1]'hj) := by
    intro d
    induction d with
    | zero => exact fun i hj => next i hj
    | succ d ih => exact fun i hj => ltC_trans _ _ _ (ih i (by omega)) (next (i + d + 1) hj)
  rw [List.pairwise_iff_getElem]
  intro i j hi hj hij
  obtain ⟨d, rfl⟩ : ∃ d, j = i + d + 1 := ⟨j - i - 1, by omega⟩
  exact step d i hj
/-! ### the program -/
theorem mput_new {α : Type} {k : ByteArray} {v : α} : ∀ {M : List (ByteArray × α)}, (∀ p ∈ M, p.1.toList ≠ k.toList) → mput k v M = M ++ [(k, v)]
  | [], _ => rfl
  | p :: r, h => by
    unfold mput
    rw [if_neg (h p List.mem_cons_self), mput_new (fun q hq => h q (List.mem_cons_of_mem _ hq))]
    rfl
theorem chgFrom_eq : ∀ (l : List Change) (M : List (ByteArray × Change)), l.Pairwise ltC → (∀ c ∈ l, ∀ p ∈ M, p.1.toList ≠ c.f0.toList) → chgFrom M l = M ++ l.map (fun c => (c.f0, c))
  | [], M, _, _ => by
    rw [List.map_nil, List.append_nil]
    rfl
  | c :: r, M, h, hM => by
    obtain ⟨h1, h2⟩ := List.pairwise_cons.1 h
    show chgFrom (mput c.f0 c M) r = _
    rw [mput_new (hM c List.mem_cons_self), chgFrom_eq r _ h2, List.map_cons, List.append_assoc]
    · rfl
    · intro x hx p hp
      rcases List.mem_append.1 hp with hp | hp
      · exact hM x (List.mem_cons_of_mem _ hx) p hp
      · rw [List.mem_singleton.1 hp]
        exact ltC_ne (h1 x hx)
theorem chgM_eq {l : List Change} (h : l.Pairwise ltC) : chgM l = l.map (fun c => (c.f0, c)) := by
  have := chgFrom_eq l [] h (fun _ _ p hp => by cases hp)
  exact this
theorem chgM_at (k : ByteArray) : ∀ l : List Change, (mhas k (l.map fun c => (c.f0, c)) = (chgAt l k).isSome) ∧ (mget noC k (l.map fun c => (c.f0, c)) = (chgAt l k).getD noC)
  | [] => ⟨rfl, rfl⟩
  | c :: r => by
    have ih := chgM_at k r
    rw [chgAt_cons, List.map_cons]
    unfold mhas mget
    by_cases h : c.f0.toList = k.toList
    · simp only [if_pos h]
      exact ⟨rfl, rfl⟩
    · simp only [if_neg h]
      exact ih
theorem chgAt_in {l : List Change} {k : ByteArray} (h : k ∈ pathsC l) : chgAt l k ≠ none := by
  obtain ⟨c, hc, rfl⟩ := List.mem_map.1 h
  intro e
  unfold chgAt at e
  have := List.find?_eq_none.1 e c hc
  simp at this
theorem joinG_eq {p q : List Change} (hp : p.Pairwise ltC) (hq : q.Pairwise ltC) {k : ByteArray} (hk : chgAt p k ≠ none ∨ chgAt q k ≠ none) : joinG (chgM p) (chgM q) k = joinC (chgAt p k) (chgAt q k) := by
  unfold joinG
  rw [chgM_eq hp, chgM_eq hq, (chgM_at k p).1, (chgM_at k p).2, (chgM_at k q).1, (chgM_at k q).2]
  cases hx : chgAt p k with
  | none =>
    rw [if_neg (by simp)]
    cases hy : chgAt q k with
    | none => exact absurd hy (hk.resolve_left (fun h => h hx))
    | some y => rfl
  | some x =>
    have := (chgAt_mem hx).2
    subst this
    cases hy : chgAt q x.f0 with
    | none => rfl
    | some y => rfl
theorem joinK_eq {p q : List Change} (hp : p.Pairwise ltC) (hq : q.Pairwise ltC) : ∀ ks : List ByteArray, (∀ k ∈ ks, chgAt p k ≠ none ∨ chgAt q k ≠ none) → joinK (chgM p) (chgM q) ks = joinAll p q ks
  | [], _ => rfl
  | k :: r, h => by
    unfold joinK joinAll
    rw [joinG_eq hp hq (h k List.mem_cons_self), joinK_eq hp hq r (fun x hx => h x (List.mem_cons_of_mem _ hx))]
theorem join_keys {p q : List Change} : ∀ k ∈ keysS (pathsC p ++ pathsC q), chgAt p k ≠ none ∨ chgAt q k ≠ none := by
  intro k hk
  rw [keysS_mem, List.mem_append] at hk
  rcases hk with h | h
  · exact .inl (chgAt_in h)
  · exact .inr (chgAt_in h)
theorem joinM_eq {p q : List Change} (hp : p.Pairwise ltC) (hq : q.Pairwise ltC) : joinM (chgM p) (chgM q) = joinR p q := by
  unfold joinM joinR
  have e : ∀ {l : List Change}, l.Pairwise ltC → (chgM l).map (·.1) = pathsC l := by
    intro l hl
    rw [chgM_eq hl, List.map_map]
    rfl
  rw [e hp, e hq, joinK_eq hp hq _ join_keys]
theorem impl_Join_ev (p q : List Change) (hp : ∀ c ∈ p, c.f0.size ≤ 1048576) (hq : ∀ c ∈ q, c.f0.size ≤ 1048576) : Ev (fun k => impl_Join.f k p q) (join p q) := by
  unfold impl_Join.f join
  refine Ev.bind (impl_ValidPatch_ev p hp) (Ev.both (fun h1 => Ev.bind (impl_ValidPatch_ev q hq) (Ev.both (fun h2 => ?_) (fun _ => Ev.now _))) (fun _ => Ev.now _))
  have l1 := patchOk_len200J h1
  have l2 := patchOk_len200J h2
  rw [← joinM_eq (patchOk_ascJ h1) (patchOk_ascJ h2)]
  exact Ev.pos (by omega) (Ev.now _)
/-! ### the reference -/
def chg8 : Option Change → ByteArray × Bool × ByteArray × Bool × Bool × ByteArray × Bool × Bool
  | none => ((⟨#[]⟩ : ByteArray), false, (⟨#[]⟩ : ByteArray), false, false, (⟨#[]⟩ : ByteArray), false, false)
  | some c => (c.f0, c.f1.f0, c.f1.f1, c.f1.f2, c.f2.f0, c.f2.f1, c.f2.f2, true)
theorem change_ev (p : ByteArray) (l : List Change) (hl : l.length ≤ 1000) : ∀ (d i : Nat), i + d = l.length → Ev (fun k => spec_l6Change.l0 k p (i : Int) l) (chg8 (chgAt (l.drop i) p))
  | 0, i, hd => by
    rw [List.drop_of_length_le (by omega)]
    exact Ev.step (fun k => spec_l6Change.l0.eq_2 ..) (Ev.neg (by omega) (Ev.now _))
  | d + 1, i, hd => by
    have hi : i < l.length := by omega
    refine Ev.step (fun k => spec_l6Change.l0.eq_2 ..) (Ev.pos (by omega) (Ev.pos (by omega) ?_))
    rw [rdC_eq hi, w64 (n := (i : Int) + 1) (by omega) (by omega), show (i : Int) + 1 = ((i + 1 : Nat) : Int) from by omega, List.drop_eq_getElem_cons hi, chgAt_cons]
    by_cases h : l[i].f0.toList = p.toList
    · rw [if_pos h]
      exact Ev.pos h (Ev.now _)
    · rw [if_neg h]
      exact Ev.neg h (change_ev p l hl d (i + 1) (by omega))
theorem diff8 (a b c : Bool) (s t : ByteArray) (d : Bool) : ((!(a == b)) || ((!(s.toList == t.toList)) || (!(c == d)))) = !sameF (a, s, c) (b, t, d) := by
  unfold sameF
  cases (a == b) <;> cases (s.toList == t.toList) <;> cases (c == d) <;> rfl
theorem spec_J2 (p q : List Change) (hp : p.length ≤ 200) (hq : q.length ≤ 200) (ks : List ByteArray) (hk : ks.length ≤ 400) (hin : ∀ k ∈ ks, chgAt p k ≠ none ∨ chgAt q k ≠ none) : ∀ (d i : Nat) (acc : List Change), i + d = ks.length → acc.length ≤ i →
    Ev (fun k => spec_Join.l2 k ks (i : Int) p q acc) (joinE ((joinAll p q (ks.drop i)).map fun l => acc ++ l))
  | 0, i, acc, hd, ha => by
    rw [List.drop_of_length_le (by omega)]
    refine Ev.step (fun k => spec_Join.l2.eq_2 ..) (Ev.neg (by omega) ?_)
    show Ev _ (joinE (some (acc ++ [])))
    rw [List.append_nil]
    show Ev _ (if acc.length ≤ 200 then (acc, true) else ([], false))
    by_cases h : acc.length ≤ 200
    · rw [if_pos h]
      exact Ev.neg (by omega) (Ev.now _)
    · rw [if_neg h]
      exact Ev.pos (by omega) (Ev.now _)
  | d + 1, i, acc, hd, ha => by
    have hi : i < ks.length := by omega
    refine Ev.step (fun k => spec_Join.l2.eq_2 ..) (Ev.pos (by omega) (Ev.pos (by omega) ?_))
    rw [rdN_eq hi]
    have e1 := change_ev ks[i] p (by omega) p.length 0 (by omega)
    have e2 := change_ev ks[i] q (by omega) q.length 0 (by omega)
    rw [List.drop_zero] at e1 e2
    have hsome := hin ks[i] (List.getElem_mem hi)
    have hd' : joinAll p q (ks.drop i) = (joinC (chgAt p ks[i]) (chgAt q ks[i])).bind fun o => (joinAll p q (ks.drop (i + 1))).bind fun l => some (o.toList ++ l) := by
      rw [List.drop_eq_getElem_cons hi]
      rfl
    have go : ∀ (o : List Change), joinE ((joinAll p q (ks.drop (i + 1))).map fun l => (acc ++ o) ++ l) = joinE (((joinAll p q (ks.drop (i + 1))).bind fun l => some (o ++ l)).map fun l => acc ++ l) := by
      intro o
      cases joinAll p q (ks.drop (i + 1)) with
      | none => rfl
      | some l => simp [List.append_assoc]
    have ih1 := fun (c : Change) => spec_J2 p q hp hq ks hk hin d (i + 1) (acc ++ [c]) (by omega) (by rw [List.length_append, List.length_singleton]; omega)
    have ih0 := spec_J2 p q hp hq ks hk hin d (i + 1) acc (by omega) (by omega)
    rw [w64 (n := (i : Int) + 1) (by omega) (by omega), show (i : Int) + 1 = ((i + 1 : Nat) : Int) from by omega]
    refine Ev.bind e1 (Ev.bind e2 ?_)
    rw [hd']
    cases hx : chgAt p ks[i] with
    | none =>
      cases hy : chgAt q ks[i] with
      | none => exact absurd hy (hsome.resolve_left (fun h => h hx))
      | some y =>
        refine Ev.neg (by simp [chg8]) (Ev.pos (by omega) ?_)
        have := ih1 y
        rw [go [y]] at this
        exact this
    | some x =>
      have hkx := (chgAt_mem hx).2
      cases hy : chgAt q ks[i] with
      | none =>
        refine Ev.pos rfl (Ev.neg (by simp [chg8]) (Ev.pos (by omega) ?_))
        have := ih1 x
        rw [go [x]] at this
        exact this
      | some y =>
        refine Ev.pos rfl (Ev.pos rfl ?_)
        have d1 : ((!((chg8 (some x)).2.2.2.2.1 == (chg8 (some y)).2.1)) || ((!((chg8 (some x)).2.2.2.2.2.1.toList == (chg8 (some y)).2.2.1.toList)) || (!((chg8 (some x)).2.2.2.2.2.2.1 == (chg8 (some y)).2.2.2.1)))) = !sameF (toF x.f2) (toF y.f1) := diff8 _ _ _ _ _ _
        have d2 : ((!((chg8 (some x)).2.1 == (chg8 (some y)).2.2.2.2.1)) || ((!((chg8 (some x)).2.2.1.toList == (chg8 (some y)).2.2.2.2.2.1.toList)) || (!((chg8 (some x)).2.2.2.1 == (chg8 (some y)).2.2.2.2.2.2.1)))) = !sameF (toF x.f1) (toF y.f2) := diff8 _ _ _ _ _ _
        rw [d1, d2]
        unfold joinC
        simp only
        by_cases s1 : sameF (toF x.f2) (toF y.f1) = true
        · rw [if_pos s1]
          refine Ev.neg (by rw [s1]; simp) ?_
          by_cases s2 : sameF (toF x.f1) (toF y.f2) = true
          · rw [if_pos s2]
            refine Ev.neg (by rw [s2]; simp) ?_
            have := go []
            rw [List.append_nil] at this
            rw [this] at ih0
            exact ih0
          · rw [if_neg s2]
            refine Ev.pos (by rw [Bool.eq_false_iff.2 s2]; rfl) (Ev.pos (by omega) ?_)
            have := ih1 ⟨x.f0, x.f1, y.f2⟩
            rw [go [⟨x.f0, x.f1, y.f2⟩]] at this
            rw [hkx] at this ⊢
            exact this
        · rw [if_neg s1]
          exact Ev.pos (by rw [Bool.eq_false_iff.2 s1]; rfl) (Ev.now _)
theorem ins_fold (l : List Change) (acc : List ByteArray) : (pathsC l).foldl (fun a k => insS k a) acc = l.foldl (fun a c => insS c.f0 a) acc := by
  unfold pathsC
  rw [List.foldl_map]
theorem foldC_len : ∀ (l : List Change) (acc : List ByteArray), (l.foldl (fun a c => insS c.f0 a) acc).length ≤ l.length + acc.length := fun l acc => by
  rw [← ins_fold]
  have := keysS_len_fold (pathsC l) acc
  unfold pathsC at this ⊢
  rw [List.length_map] at this
  exact this
theorem spec_J1 (p q : List Change) (hp : p.length ≤ 200) (hq : q.length ≤ 200) (acc0 : List ByteArray) (h0 : acc0.length ≤ 200) (ha0 : acc0.Pairwise ltS) (hin : ∀ k ∈ q.foldl (fun a c => insS c.f0 a) acc0, chgAt p k ≠ none ∨ chgAt q k ≠ none) : ∀ (d i : Nat) (acc : List ByteArray), i + d = q.length → acc.length ≤ 200 + i → acc.Pairwise ltS →
    (q.drop i).foldl (fun a c => insS c.f0 a) acc = q.foldl (fun a c => insS c.f0 a) acc0 → Ev (fun k => spec_Join.l1 k acc (i : Int) p q) (joinE (joinAll p q (q.foldl (fun a c => insS c.f0 a) acc0)))
  | 0, i, acc, hd, hl, ha, he => by
    rw [List.drop_of_length_le (by omega)] at he
    refine Ev.step (fun k => spec_Join.l1.eq_2 ..) (Ev.neg (by omega) ?_)
    have he' : acc = q.foldl (fun a c => insS c.f0 a) acc0 := he
    have := spec_J2 p q hp hq acc (by omega) (by rw [he']; exact hin) acc.length 0 [] (by omega) (by simp)
    rw [List.drop_zero] at this
    rw [← he']
    have e : ((joinAll p q acc).map fun l => ([] : List Change) ++ l) = joinAll p q acc := by cases joinAll p q acc <;> rfl
    rw [e] at this
    exact this
  | d + 1, i, acc, hd, hl, ha, he => by
    have hi : i < q.length := by omega
    refine Ev.step (fun k => spec_Join.l1.eq_2 ..) (Ev.pos (by omega) (Ev.pos (by omega) ?_))
    rw [rdC_eq hi, w64 (n := (i : Int) + 1) (by omega) (by omega), show (i : Int) + 1 = ((i + 1 : Nat) : Int) from by omega]
    rw [List.drop_eq_getElem_cons hi] at he
    refine Ev.bind (name_ev acc (by omega) ha _) ?_
    exact spec_J1 p q hp hq acc0 h0 ha0 hin d (i + 1) _ (by omega) (by have := insS_len q[i].f0 acc; omega) (insS_asc _ _ ha) he
theorem spec_J0 (p q : List Change) (hp : p.length ≤ 200) (hq : q.length ≤ 200) : ∀ (d i : Nat) (acc : List ByteArray), i + d = p.length → acc.length ≤ i → acc.Pairwise ltS →
    (p.drop i).foldl (fun a c => insS c.f0 a) acc = p.foldl (fun a c => insS c.f0 a) [] → Ev (fun k => spec_Join.l0 k acc (i : Int) p q) (joinR p q)
  | 0, i, acc, hd, hl, ha, he => by
    rw [List.drop_of_length_le (by omega)] at he
    refine Ev.step (fun k => spec_Join.l0.eq_2 ..) (Ev.neg (by omega) ?_)
    have he' : acc = p.foldl (fun a c => insS c.f0 a) [] := he
    have ek : q.foldl (fun a c => insS c.f0 a) acc = keysS (pathsC p ++ pathsC q) := by
      unfold keysS
      rw [List.foldl_append, ins_fold, ins_fold, ← he']
    have := spec_J1 p q hp hq acc (by omega) ha (by rw [ek]; exact join_keys) q.length 0 acc (by omega) (by omega) ha (by rw [List.drop_zero])
    rw [ek] at this
    exact this
  | d + 1, i, acc, hd, hl, ha, he => by
    have hi : i < p.length := by omega
    refine Ev.step (fun k => spec_Join.l0.eq_2 ..) (Ev.pos (by omega) (Ev.pos (by omega) ?_))
    rw [rdC_eq hi, w64 (n := (i : Int) + 1) (by omega) (by omega), show (i : Int) + 1 = ((i + 1 : Nat) : Int) from by omega]
    rw [List.drop_eq_getElem_cons hi] at he
    refine Ev.bind (name_ev acc (by omega) ha _) ?_
    exact spec_J0 p q hp hq d (i + 1) _ (by omega) (by have := insS_len p[i].f0 acc; omega) (insS_asc _ _ ha) he
theorem spec_Join_ev (p q : List Change) : Ev (fun k => spec_Join.f k p q) (join p q) := by
  unfold spec_Join.f join
  refine Ev.bind (spec_ValidPatch_ev p) ?_
  by_cases h : patchOk p = true
  · rw [if_pos h]
    refine Ev.pos h (Ev.bind (spec_ValidPatch_ev q) (Ev.step (fun k => spec_Join.j0.eq_2 ..) ?_))
    by_cases h2 : patchOk q = true
    · rw [if_pos h2, h2]
      refine Ev.neg (by simp) ?_
      exact spec_J0 p q (patchOk_len200J h) (patchOk_len200J h2) p.length 0 [] (by omega) (by simp) List.Pairwise.nil (by rw [List.drop_zero])
    · rw [if_neg h2, Bool.eq_false_iff.2 h2]
      exact Ev.pos rfl (Ev.now _)
  · rw [if_neg h]
    exact Ev.neg h (Ev.step (fun k => spec_Join.j0.eq_2 ..) (Ev.pos rfl (Ev.now _)))
theorem join_len (p q : List Change) : (join p q).1.length ≤ 200 := by
  unfold join joinR joinE
  split
  · split
    · split
      · split
        · rename_i h
          exact h
        · simp
      · simp
    · simp
  · simp

end Go.Proofs.YtknagppkeodggaaDoor.Pure


namespace Go.Proofs.YtknagppkeodggaaDoor.Pure
open Go Go.RowKit Go.Proofs.YtknagppkeodggaaDoor.P Go.Proofs.YtknagppkeodggaaDoorW.PrintWords Go.Proofs.YtknagppkeodggaaDoorW.PrintLast
set_option linter.unusedVariables false
set_option linter.unusedSimpArgs false

/-- Marks from any number on. -/
theorem marksFromC_ev : ∀ (d i c : Nat) (l : List Change), i + d = l.length → l.length ≤ 1100000 → c + 7 * d ≤ 15000000 → ∃ r : Int × List Change, r.1 = ((c + 7 * d : Nat) : Int) ∧ Ev (fun k => laws_markChangeS.l0 k l (c : Int) (i : Int)) r
  | 0, i, c, l, hd, hi', hl => ⟨((c : Int), l), by simp, Ev.step (fun k => markC_end k l _ i (by omega)) (Ev.now _)⟩
  | d + 1, i, c, l, hd, hi', hl => by
    have hi : i < l.length := by omega
    have wc : c ≤ 999999990 := by omega
    have wi : i ≤ 1000000000 := by omega
    obtain ⟨r, q1, K4, m4⟩ := marksFromC_ev d (i + 1) (c + 1 + 1 + 1 + 1 + 1 + 1 + 1) (l.set i (CM c)) (by rw [List.length_set]; omega) (by rw [List.length_set]; exact hi') (by omega)
    obtain ⟨K1, m1⟩ := mark_spec c (by omega)
    obtain ⟨K2, m2⟩ := mark_spec (c + 1 + 1) (by omega)
    obtain ⟨K3, m3⟩ := mark_spec (c + 1 + 1 + 1 + 1 + 1) (by omega)
    refine ⟨r, by rw [q1]; omega, K1 + K2 + K3 + K4 + 1, fun k hk => ?_⟩
    obtain ⟨k', rfl⟩ : ∃ k', k = k' + 1 := ⟨k - 1, by omega⟩
    have a1 := m1 k' (by omega)
    have a2 := m2 k' (by omega)
    have a3 := m3 k' (by omega)
    have a4 := m4 k' (by omega)
    dsimp only at a1 a2 a3 a4
    have b := markC_eq k' l (c : Int) i hi
    obtain ⟨w1, w2, w3, w4, w5, w6, w7⟩ := wns c wc
    have w8 := wn i wi
    rw [w1, w2, w3, w4, w5, w6, w7, w8, a1, Option.bind_some, a2, Option.bind_some, a3, Option.bind_some] at b
    exact b.trans a4
theorem ofC_smallA {l : List LChange} {left : Int} (h1 : left ≤ 1048576) (h : ∀ s ∈ l, (cw s : Int) ≤ left) : ∀ e ∈ l.map ofC, e.f0.size ≤ 1048576 := by
  intro e he
  obtain ⟨s, hs, rfl⟩ := List.mem_map.1 he
  have := h s hs
  unfold cw at this
  show s.f0.size ≤ 1048576
  omega
theorem FnExactJoin (l s : List LChange) (h : l.length * 80 ≤ 140737488351232 ∧ ∀ x ∈ l, Small183 x) (hh : s.length * 80 ≤ 140737488351232 ∧ ∀ x ∈ s, Small183 x) : ∃ k, laws_FnExactJoin.f k l s = some true := by
  apply Ev.rounds
  unfold laws_FnExactJoin.f
  obtain ⟨r, hr, hR⟩ := szPatch_ev l (by omega) (fun x hx => by
    have := h.2 x hx
    simp only [Small183, Small181] at this
    omega) 1048576 (by omega) (by omega)
  refine Ev.bind hr ?_
  rcases hR with rfl | ⟨a, b, c, d⟩
  · exact Ev.pos (by omega) (Ev.now _)
  refine Ev.neg (by omega) ?_
  obtain ⟨r2, hr2, hR2⟩ := szPatch_ev s (by omega) (fun x hx => by
    have := hh.2 x hx
    simp only [Small183, Small181] at this
    omega) r a b
  refine Ev.bind hr2 ?_
  rcases hR2 with rfl | ⟨a2, b2, c2, d2⟩
  · exact Ev.pos (by omega) (Ev.now _)
  have T := toPatch_ev l (by omega)
  have T2 := toPatch_ev s (by omega)
  have hl : (l.map ofC).length ≤ 1048576 := by rw [List.length_map]; omega
  have hl2 : (s.map ofC).length ≤ 1048576 := by rw [List.length_map]; omega
  have hs := ofC_smallA (l := l) (left := 1048576) (by omega) d
  have hs2 := ofC_smallA (l := s) (left := r) (by omega) d2
  generalize l.map ofC = X at T hl hs
  generalize s.map ofC = Y at T2 hl2 hs2
  have S := spec_Join_ev X Y
  have I := impl_Join_ev X Y hs hs2
  have hu := join_len X Y
  generalize join X Y = R at S I hu
  have Q := eqPatch_ev R.1 (by omega)
  obtain ⟨L, _, m1, _⟩ := markedPatch_ev X (by omega)
  obtain ⟨p, p1, hp⟩ := marksFromC_ev Y.length 0 (1 + 7 * X.length) Y (by omega) (by omega) (by omega)
  obtain ⟨L2, _, m2, h2⟩ := markedPatch_ev R.1 (by omega)
  have m3 : Ev (fun k => laws_markPatch.f k Y ((1 + 7 * X.length : Nat) : Int)) p := by
    unfold laws_markPatch.f laws_markChangeS.f
    exact Ev.bind hp (Ev.now _)
  have J2 : Ev (fun k => laws_FnExactJoin.j2 k ((1 + 7 * R.1.length : Nat) : Int) (R.2 != R.2) L2) true := by
    refine Ev.step (fun k => laws_FnExactJoin.j2.eq_2 ..) (Ev.neg (by simp) (Ev.bind h2 (Ev.neg (by omega) (Ev.pos rfl (Ev.now _)))))
  have J1 : Ev (fun k => laws_FnExactJoin.j1 k R.2 (R.2 != R.2) l s R.1 R.1) true := by
    refine Ev.step (fun k => laws_FnExactJoin.j1.eq_2 ..) (Ev.neg (by simp) (Ev.bind m2 (Ev.bind h2 (Ev.neg (by omega) (Ev.pos rfl ?_)))))
    exact Ev.bind T (Ev.bind T2 (Ev.bind I (Ev.bind Q (Ev.pos rfl J2))))
  have J0 : Ev (fun k => laws_FnExactJoin.j0 k R.2 R.2 (R.2 != R.2) l s R.1 X Y R.1) true := by
    refine Ev.step (fun k => laws_FnExactJoin.j0.eq_2 ..) (Ev.neg (by simp) (Ev.bind T (Ev.bind (eqPatch_ev X (by omega)) (Ev.pos rfl (Ev.bind T2 (Ev.bind (eqPatch_ev Y (by omega)) (Ev.pos rfl (Ev.bind m1 (Ev.bind m3 (Ev.neg (by omega) (Ev.bind Q (Ev.pos rfl J1))))))))))))
  exact Ev.neg (by omega) (Ev.bind T (Ev.bind T2 (Ev.bind S (Ev.bind T (Ev.bind T2 (Ev.bind I (Ev.bind Q (Ev.pos rfl J0))))))))

end Go.Proofs.YtknagppkeodggaaDoor.Pure

