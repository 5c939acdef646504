/- The kids of a value's atoms: the open stack of the reference and the starts of the program give the same. Conditions: at most 300 atoms. -/
import Derived.Test.YtgaibeckblmbbaaPImplLayout
import Derived.Test.YtgaibeckblmbbaaPSpecL2AtomOk
import Derived.Test.YtgaibeckblmbbaaPSpecL2Kids
import Derived.Test.YtgaibeckblmbbaaAtoms
namespace Go.Proofs.Ytgaibeckblmbbaa.Pure
open Go Go.RowKit Go.Proofs.Ytgaibeckblmbbaa.P Go.Proofs.YtgaibeckblmbbaaW.PrintWords Go.Proofs.YtgaibeckblmbbaaW.PrintLast
set_option linter.unusedVariables false
set_option linter.unusedSimpArgs false

/-! ### one atom -/
def atomOk (a : Atom) : Bool :=
  if a.f3 < 0 then false
  else if a.f0 = 1 then (if a.f2.toList = ([] : List UInt8) ∧ a.f3 = 0 ∧ (a.f1 = 0 ∨ a.f1 = 1) then true else false)
  else if a.f0 = 2 then (if a.f2.toList = ([] : List UInt8) ∧ a.f3 = 0 then true else false)
  else if a.f0 = 3 then (if a.f1 = 0 ∧ a.f3 = 0 ∧ (a.f2.size : Int) ≤ 1500 then true else false)
  else if a.f0 = 4 then (if a.f1 = 0 ∧ a.f2.toList = ([] : List UInt8) then true else false)
  else if a.f0 = 5 then (if a.f1 = 0 ∧ a.f2.toList = ([] : List UInt8) then (Int.tmod a.f3 2) == 0 else false)
  else false
theorem atomOk_kids {a : Atom} (h : atomOk a = true) : 0 ≤ a.f3 := by
  unfold atomOk at h
  by_cases h' : a.f3 < 0
  · rw [if_pos h'] at h
    cases h
  · omega
theorem spec_atom (a : Atom) (k : Nat) : spec_l2AtomOk.f (k + 2) a.f0 a.f1 a.f2 a.f3 = some (atomOk a) := by
  obtain ⟨x, n, s, c⟩ := a
  unfold atomOk spec_l2AtomOk.f
  simp only [spec_l2AtomOk.j0, spec_l2AtomOk.j1]
  rcases (show x = 1 ∨ x = 2 ∨ x = 3 ∨ x = 4 ∨ x = 5 ∨ (x ≠ 1 ∧ x ≠ 2 ∧ x ≠ 3 ∧ x ≠ 4 ∧ x ≠ 5) from by omega) with rfl | rfl | rfl | rfl | rfl | ⟨h1, h2, h3, h4, h5⟩ <;>
    by_cases hs : s.toList = ([] : List UInt8) <;> by_cases hc' : c < 0 <;> by_cases hc : c = 0 <;> by_cases hn : n = 0 <;> by_cases hn1 : n = 1 <;> (try subst hn1) <;> simp [*] <;> omega
theorem impl_atom (a : Atom) (k : Nat) : impl_validAtom.f (k + 1) a.f0 a.f1 a.f2 a.f3 = some (atomOk a) := by
  obtain ⟨x, n, s, c⟩ := a
  unfold atomOk impl_validAtom.f
  simp only [impl_validAtom.j0]
  rcases (show x = 1 ∨ x = 2 ∨ x = 3 ∨ x = 4 ∨ x = 5 ∨ (x ≠ 1 ∧ x ≠ 2 ∧ x ≠ 3 ∧ x ≠ 4 ∧ x ≠ 5) from by omega) with rfl | rfl | rfl | rfl | rfl | ⟨h1, h2, h3, h4, h5⟩ <;>
    by_cases hs : s.toList = ([] : List UInt8) <;> by_cases hc' : c < 0 <;> by_cases hc : c = 0 <;> by_cases hn : n = 0 <;> by_cases hn1 : n = 1 <;> (try subst hn1) <;> simp [*] <;> omega

/-! ### the kids -/
def lay : List Atom → Nat → List Int → Option (List (List Int) × List Int)
  | [], _, st => some ([], st)
  | a :: r, i, st => if a.f3 < 0 ∨ (st.length : Int) < a.f3 then none else
      match lay r (i + 1) ((i : Int) :: st.drop a.f3.toNat) with
      | none => none
      | some (ks, s) => some ((st.take a.f3.toNat).reverse :: ks, s)

theorem spec_kids (v : List Atom) (hn : v.length ≤ 300) : ∀ (d i : Nat) (st : List Int) (acc : List (List Int)), i + d = v.length → st.length ≤ i → acc.length = i →
    Evs (fun k => spec_l2Kids.l0 k acc st.reverse (i : Int) v) (fun r => match lay (v.drop i) i st with
      | none => r.2 = false
      | some (ks, s) => r = (acc ++ ks, (s.length : Int) == 1))
  | 0, i, st, acc, hd, hs, ha => by
    refine Evs.step (fun k => spec_l2Kids.l0.eq_2 ..) (Evs.neg (by omega) (Evs.ret ?_))
    rw [List.drop_of_length_le (by omega), lay]
    simp
  | d + 1, i, st, acc, hd, hs, ha => by
    have hi : i < v.length := by omega
    refine Evs.step (fun k => spec_l2Kids.l0.eq_2 ..) (Evs.pos (by omega) (Evs.pos (by omega) ?_))
    rw [rdA_eq hi, List.length_reverse, List.drop_eq_getElem_cons hi, lay]
    by_cases h0 : v[i].f3 < 0
    · exact Evs.pos h0 (Evs.ret (by rw [if_pos (.inl h0)]))
    by_cases h1 : v[i].f3 > (st.length : Int)
    · exact Evs.neg h0 (Evs.pos h1 (Evs.ret (by rw [if_pos (.inr h1)])))
    rw [if_neg (by omega), w64 (n := (st.length : Int) - v[i].f3) (by omega) (by omega), w64 (n := (i : Int) + 1) (by omega) (by omega)]
    have e1 : st.reverse.drop ((st.length : Int) - v[i].f3).toNat = (st.take v[i].f3.toNat).reverse := by
      rw [List.drop_reverse]
      congr 2
      omega
    have e2 : st.reverse.take ((st.length : Int) - v[i].f3).toNat = (st.drop v[i].f3.toNat).reverse := by
      rw [List.take_reverse]
      congr 2
      omega
    rw [e1, e2]
    refine Evs.neg h0 (Evs.neg h1 (Evs.sb (Evs.pos (by omega) (Evs.pos (by omega) (Evs.sb (Evs.pos (by simp; omega) (Evs.pos (by omega) (Evs.sb (Evs.pos (by simp; omega) ?_)))))))))
    rw [List.nil_append, ← List.reverse_cons, show (i : Int) + 1 = ((i + 1 : Nat) : Int) from by omega]
    refine Evs.mono (spec_kids v hn d (i + 1) ((i : Int) :: st.drop v[i].f3.toNat) (acc ++ [(st.take v[i].f3.toNat).reverse]) (by omega) (by simp; omega) (by simp; omega)) (fun r hr => ?_)
    revert hr
    cases lay (v.drop (i + 1)) (i + 1) ((i : Int) :: st.drop v[i].f3.toNat) with
    | none => exact id
    | some p => intro hr; simpa using hr
theorem spec_l2Kids_evs (v : List Atom) (hn : v.length ≤ 300) : Evs (fun k => spec_l2Kids.f k v) (fun r => match lay v 0 [] with
      | none => r.2 = false
      | some (ks, s) => r = (ks, (s.length : Int) == 1)) := by
  unfold spec_l2Kids.f
  exact spec_kids v hn v.length 0 [] [] (by omega) (by simp) rfl

/-! ### the starts -/
/-- From place at on, the starts lead through the open atoms, topmost first. -/
def chain (s : List Int) : Int → List Int → Prop
  | a, [] => a = 0
  | a, o :: r => 0 ≤ o ∧ a = o + 1 ∧ chain s (rd s o) r
theorem rd_set_ne (s : List Int) (i : Nat) (x o : Int) (h0 : 0 ≤ o) (h : o ≠ (i : Int)) : rd (s.set i x) o = rd s o := by
  unfold rd
  rw [List.getD_eq_getElem?_getD, List.getD_eq_getElem?_getD, List.getElem?_set_ne (by omega)]
theorem rd_set_eq (s : List Int) (i : Nat) (x : Int) (h : i < s.length) : rd (s.set i x) (i : Int) = x := by
  unfold rd
  rw [Int.toNat_natCast, List.getD_eq_getElem?_getD, List.getElem?_set_self h]
  rfl
theorem chain_set (s : List Int) (i : Nat) (x : Int) : ∀ (st : List Int) (a : Int), (∀ o ∈ st, o < (i : Int)) → chain s a st → chain (s.set i x) a st
  | [], a, _, h => h
  | o :: r, a, hb, ⟨h0, h1, h2⟩ => ⟨h0, h1, by rw [rd_set_ne s i x o h0 (by have := hb o (List.mem_cons_self ..); omega)]; exact chain_set s i x r _ (fun o' ho => hb o' (List.mem_cons_of_mem _ ho)) h2⟩
theorem chain_pos {s : List Int} {a : Int} : ∀ {st : List Int}, chain s a st → 0 ≤ a
  | [], h => by rw [h]; omega
  | _ :: _, ⟨h0, h1, _⟩ => by omega

/-! ### the program's reversal -/
theorem rev_l0 : ∀ (n : Nat) (P m Q : List Int), m.length ≤ n → P.length = Q.length → (P ++ m ++ Q).length ≤ 300 →
    Ev (fun k => slices_Reverse_int_int.l0 k (P ++ m ++ Q) (P.length : Int) (((P.length + m.length : Nat) : Int) - 1)) (P ++ m.reverse ++ Q) := by
  intro n
  induction n with
  | zero =>
    intro P m Q hm hpq hl
    obtain rfl : m = [] := List.length_eq_zero_iff.1 (by omega)
    exact Ev.step (fun k => slices_Reverse_int_int.l0.eq_2 ..) (Ev.neg (by simp; omega) (Ev.now _))
  | succ n ih =>
    intro P m Q hm hpq hl
    by_cases h1 : m.length ≤ 1
    · refine Ev.step (fun k => slices_Reverse_int_int.l0.eq_2 ..) (Ev.neg (by omega) ?_)
      have : m.reverse = m := by
        match m, h1 with
        | [], _ => rfl
        | [x], _ => rfl
      rw [this]
      exact Ev.now _
    obtain ⟨x, m1, rfl⟩ : ∃ x m1, m = x :: m1 := by
      cases m with
      | nil => simp at h1
      | cons x m1 => exact ⟨x, m1, rfl⟩
    obtain ⟨m', y, rfl⟩ : ∃ m' y, m1 = m' ++ [y] := by
      rcases List.eq_nil_or_concat m1 with rfl | ⟨a, b, h⟩
      · simp at h1
      · exact ⟨a, b, by simpa using h⟩
    have hL : (P ++ x :: (m' ++ [y]) ++ Q).length = P.length + m'.length + 2 + Q.length := by simp; omega
    have hj : ((P.length + (x :: (m' ++ [y])).length : Nat) : Int) - 1 = ((P.length + m'.length + 1 : Nat) : Int) := by simp; omega
    rw [hj]
    refine Ev.step (fun k => slices_Reverse_int_int.l0.eq_2 ..) (Ev.pos (by omega) (Ev.pos (by omega) (Ev.pos (by omega) (Ev.pos (by omega) (Ev.pos (by omega) ?_)))))
    rw [w64 (n := ((P.length : Nat) : Int) + 1) (by omega) (by omega), w64 (n := ((P.length + m'.length + 1 : Nat) : Int) - 1) (by omega) (by omega)]
    have e1 : rd (P ++ x :: (m' ++ [y]) ++ Q) (P.length : Int) = x := by
      unfold rd
      simp
    have e2 : rd (P ++ x :: (m' ++ [y]) ++ Q) ((P.length + m'.length + 1 : Nat) : Int) = y := by
      unfold rd
      rw [Int.toNat_natCast, List.getD_eq_getElem?_getD]
      simp [List.getElem?_append]
      rw [if_neg (by omega), show P.length + m'.length + 1 - P.length = m'.length + 1 from by omega]
      simp
    have e3 : ((P ++ x :: (m' ++ [y]) ++ Q).set ((P.length : Nat) : Int).toNat y).set (((P.length + m'.length + 1 : Nat) : Int)).toNat x = (P ++ [y]) ++ m' ++ (x :: Q) := by
      rw [Int.toNat_natCast, Int.toNat_natCast]
      have : (P ++ x :: (m' ++ [y]) ++ Q) = P ++ (x :: (m' ++ (y :: Q))) := by simp
      rw [this, List.set_append_right _ _ (by omega), Nat.sub_self, List.set_cons_zero, List.set_append_right _ _ (by omega), show P.length + m'.length + 1 - P.length = m'.length + 1 from by omega, List.set_cons_succ, List.set_append_right _ _ (by omega), Nat.sub_self, List.set_cons_zero]
      simp
    rw [e1, e2, e3]
    have := ih (P ++ [y]) m' (x :: Q) (by simp at hm; omega) (by simp; omega) (by simp at hl ⊢; omega)
    rw [show ((P ++ [y]).length : Int) = (P.length : Int) + 1 from by simp, show (((P ++ [y]).length + m'.length : Nat) : Int) - 1 = ((P.length + m'.length + 1 : Nat) : Int) - 1 from by simp; omega] at this
    simpa using this
theorem rev_ev (l : List Int) (h : l.length ≤ 300) : Ev (fun k => slices_Reverse_int_int.f k l) l.reverse := by
  unfold slices_Reverse_int_int.f
  rw [w64 (n := (l.length : Int) - 1) (by omega) (by omega)]
  have := rev_l0 l.length [] l [] (by omega) rfl (by simpa using h)
  simpa using this

/-! ### the program's layout -/
theorem rdL_eq {l : List (List Int)} {i : Nat} (h : i < l.length) : rd_L8 l (i : Int) = l[i] := getD_toNat _ h
theorem rdL_set (l : List (List Int)) (i : Nat) (x : List Int) (h : i < l.length) : rd_L8 (l.set i x) (i : Int) = x := by
  rw [rdL_eq (by rw [List.length_set]; exact h), List.getElem_set_self]
theorem impl_lay1 (v : List Atom) (hn : v.length ≤ 300) (x2 : List Int) (h2 : x2.length = v.length) (i : Nat) (hi : i < v.length) (n0 k0 : Int) (s : ByteArray) (c : Int) (Q : List Int × List (List Int) × Bool → Prop) : ∀ (m : Nat) (st : List Int) (x8 x9 : Int) (x3 : List (List Int)), x3.length = v.length → c - x9 = m → 0 ≤ x9 → x9 + (st.length : Int) ≤ 300 → (∀ o ∈ st, o < (i : Int)) → (rd_L8 x3 (i : Int)).length ≤ x9 → chain x2 x8 st → x8 ≤ 300 →
    (m ≤ st.length → ∀ x8', chain x2 x8' (st.drop m) → Evs (fun k => impl_layout.l1 k x2 (x3.set i (rd_L8 x3 (i : Int) ++ st.take m)) (i : Int) x8' c v (v.length : Int) (i : Int) n0 k0 s c) Q) →
    (¬ m ≤ st.length → Q ([], [], false)) →
    Evs (fun k => impl_layout.l1 k x2 x3 (i : Int) x8 x9 v (v.length : Int) (i : Int) n0 k0 s c) Q
  | 0, st, x8, x9, x3, h3, hm, h0, hc, hb, hcl, hch, h8, K, F => by
    have := K (by omega) x8 hch
    obtain rfl : x9 = c := by omega
    have e : x3.set i (rd_L8 x3 (i : Int) ++ st.take 0) = x3 := by
      rw [rdL_eq (by omega), List.take_zero, List.append_nil, List.set_getElem_self]
    rwa [e] at this
  | m + 1, [], x8, x9, x3, h3, hm, h0, hc, hb, hcl, hch, h8, K, F => by
    obtain rfl : x8 = 0 := hch
    refine Evs.step (fun k => impl_layout.l1.eq_2 ..) (Evs.pos (by omega) ?_)
    rw [w64 (n := (0 : Int) - 1) (by omega) (by omega)]
    exact Evs.pos (by omega) (Evs.ret (F (by simp)))
  | m + 1, o :: st, x8, x9, x3, h3, hm, h0, hc, hb, hcl, ⟨ho, h1, hch⟩, h8, K, F => by
    subst h1
    have hoi := hb o (List.mem_cons_self ..)
    simp only [List.length_cons] at hc
    refine Evs.step (fun k => impl_layout.l1.eq_2 ..) (Evs.pos (by omega) ?_)
    rw [w64 (n := o + 1 - 1) (by omega) (by omega), w64 (n := x9 + 1) (by omega) (by omega), show o + 1 - 1 = o from by omega, Int.toNat_natCast]
    refine Evs.neg (by omega) (Evs.pos (by omega) (Evs.pos (by omega) (Evs.pos (by omega) (Evs.pos (by omega) (Evs.pos (by omega) ?_)))))
    have hb' : ∀ o' ∈ st, o' < (i : Int) := fun o' h => hb o' (List.mem_cons_of_mem _ h)
    have h8' : rd x2 o ≤ 300 := by
      cases st with
      | nil => have := hch; unfold chain at this; omega
      | cons q t => obtain ⟨_, e, _⟩ := hch; have := hb' q (List.mem_cons_self ..); omega
    refine impl_lay1 v hn x2 h2 i hi n0 k0 s c Q m st (rd x2 o) (x9 + 1) (x3.set i (rd_L8 x3 (i : Int) ++ [o])) (by rw [List.length_set]; exact h3) (by omega) (by omega) (by omega) hb' (by rw [rdL_set _ _ _ (by omega)]; simp; omega) hch h8' (fun hm' x8' hc' => ?_) (fun hm' => F (by simp; omega))
    have := K (by simp; omega) x8' (by simpa using hc')
    rw [rdL_set _ _ _ (by omega), List.set_set, List.append_assoc]
    simpa using this
theorem impl_lay0 (v : List Atom) (hn : v.length ≤ 300) : ∀ (d i : Nat) (st x2 : List Int) (x3 : List (List Int)), i + d = v.length → st.length ≤ i → x2.length = v.length → x3.length = v.length → (∀ o ∈ st, o < (i : Int)) → chain x2 (i : Int) st → x3.drop i = List.replicate d [] →
    Evs (fun k => impl_layout.l0 k x2 x3 v (v.length : Int) (i : Int)) (fun r => if (v.drop i).all atomOk = true then (match lay (v.drop i) i st with
      | none => r.2.2 = false
      | some (ks, s) => r.2.2 = true ∧ r.2.1 = x3.take i ++ ks ∧ r.1.length = v.length ∧ chain r.1 (v.length : Int) s) else r.2.2 = false)
  | 0, i, st, x2, x3, hd, hst, h2, h3, hb, hch, hx => by
    refine Evs.step (fun k => impl_layout.l0.eq_2 ..) (Evs.neg (by omega) (Evs.ret ?_))
    rw [List.drop_of_length_le (by omega), lay, List.take_of_length_le (by omega)]
    simp only [List.all_nil, if_true, List.append_nil]
    refine ⟨trivial, trivial, h2, ?_⟩
    rwa [show (v.length : Int) = (i : Int) from by omega]
  | d + 1, i, st, x2, x3, hd, hst, h2, h3, hb, hch, hx => by
    have hi : i < v.length := by omega
    refine Evs.step (fun k => impl_layout.l0.eq_2 ..) (Evs.pos (by omega) (Evs.pos (by omega) (Evs.pos (by omega) ?_)))
    rw [rdA_eq hi, List.drop_eq_getElem_cons hi, List.all_cons, lay]
    refine Evs.bind (Q := fun t => t = atomOk v[i]) ⟨_, rfl, Ev.step (fun k => impl_atom v[i] k) (Ev.now _)⟩ (fun t ht => ?_)
    subst ht
    by_cases hok : atomOk v[i] = true
    · have hk := atomOk_kids hok
      have hx3 : rd_L8 x3 (i : Int) = [] := by
        rw [rdL_eq (by omega)]
        have := congrArg List.head? hx
        rw [List.drop_eq_getElem_cons (by omega), List.replicate_succ, List.head?_cons, List.head?_cons] at this
        exact Option.some.inj this
      refine Evs.pos hok (impl_lay1 v hn x2 h2 i hi _ _ _ _ _ v[i].f3.toNat st (i : Int) 0 x3 h3 (by omega) (by omega) (by omega) hb (by rw [hx3]; simp) hch (by omega) (fun hm x8 hc => ?_) (fun hm => ?_))
      · refine Evs.step (fun k => impl_layout.l1.eq_2 ..) (Evs.neg (by omega) (Evs.pos (by omega) (Evs.pos (by rw [List.length_set]; omega) ?_)))
        rw [rdL_set _ _ _ (by omega), hx3, List.nil_append, w64 (n := (i : Int) + 1) (by omega) (by omega), Int.toNat_natCast]
        refine Evs.bind (Q := fun t => t = (st.take v[i].f3.toNat).reverse) ⟨_, rfl, rev_ev _ (by simp; omega)⟩ (fun t ht => ?_)
        subst ht
        rw [List.set_set]
        refine Evs.pos (by omega) ?_
        have hch' : chain (x2.set i x8) ((i + 1 : Nat) : Int) ((i : Int) :: st.drop v[i].f3.toNat) := by
          refine ⟨by omega, by omega, ?_⟩
          rw [rd_set_eq _ _ _ (by omega)]
          exact chain_set x2 i x8 _ _ (fun o ho => hb o (List.mem_of_mem_drop ho)) hc
        have hb' : ∀ o ∈ (i : Int) :: st.drop v[i].f3.toNat, o < ((i + 1 : Nat) : Int) := by
          intro o ho
          rcases List.mem_cons.1 ho with rfl | ho
          · omega
          · have := hb o (List.mem_of_mem_drop ho)
            omega
        have hx' : (x3.set i (st.take v[i].f3.toNat).reverse).drop (i + 1) = List.replicate d [] := by
          rw [List.drop_set_of_lt (by omega), ← List.drop_drop, hx, List.replicate_succ]
          rfl
        rw [show (i : Int) + 1 = ((i + 1 : Nat) : Int) from by omega]
        refine Evs.mono (impl_lay0 v hn d (i + 1) ((i : Int) :: st.drop v[i].f3.toNat) (x2.set i x8) (x3.set i (st.take v[i].f3.toNat).reverse) (by omega) (by simp; omega) (by rw [List.length_set]; exact h2) (by rw [List.length_set]; exact h3) hb' hch' hx') (fun r hr => ?_)
        rw [hok, Bool.true_and, if_neg (show ¬ (v[i].f3 < 0 ∨ (st.length : Int) < v[i].f3) from by omega)]
        revert hr
        by_cases hall : (v.drop (i + 1)).all atomOk = true
        · rw [if_pos hall, if_pos hall]
          cases lay (v.drop (i + 1)) (i + 1) ((i : Int) :: st.drop v[i].f3.toNat) with
          | none => exact id
          | some p =>
            intro hr
            obtain ⟨a, b, c, e⟩ := hr
            refine ⟨a, ?_, c, e⟩
            rw [b, List.take_succ_eq_append_getElem (by rw [List.length_set]; omega), List.getElem_set_self, List.take_set_of_le (by omega), List.append_assoc]
            rfl
        · rw [if_neg hall, if_neg hall]
          exact id
      · rw [hok, Bool.true_and, if_pos (show v[i].f3 < 0 ∨ (st.length : Int) < v[i].f3 from by omega)]
        split <;> rfl
    · refine Evs.neg hok (Evs.ret ?_)
      rw [if_neg (by simp [hok])]
theorem impl_layout_evs (v : List Atom) (hn : v.length ≤ 300) : Evs (fun k => impl_layout.f k v) (fun r => if v.all atomOk = true then (match lay v 0 [] with
      | none => r.2.2 = false
      | some (ks, s) => r.2.2 = true ∧ r.2.1 = ks ∧ r.1.length = v.length ∧ chain r.1 (v.length : Int) s) else r.2.2 = false) := by
  unfold impl_layout.f
  rw [Int.toNat_natCast]
  refine Evs.pos (by omega) (Evs.pos (by omega) (Evs.pos (by omega) ?_))
  have := impl_lay0 v hn v.length 0 [] (List.replicate v.length 0) (List.replicate v.length []) (by omega) (by simp) (by simp) (by simp) (by simp) rfl (by simp)
  simpa using this

/-! ### the shape of a layout -/
theorem lay_facts : ∀ (r : List Atom) (i : Nat) (st : List Int) (ks : List (List Int)) (s : List Int), lay r i st = some (ks, s) → (∀ o ∈ st, 0 ≤ o ∧ o < (i : Int)) → st.Nodup →
    ks.length = r.length ∧ (∀ j, (h : j < ks.length) → ∀ c ∈ ks[j], 0 ≤ c ∧ c < ((i + j : Nat) : Int) ∧ (c < (i : Int) → c ∈ st)) ∧ (∀ j j', (h : j < ks.length) → (h' : j' < ks.length) → j < j' → ∀ c ∈ ks[j], c ∉ ks[j'])
  | [], i, st, ks, s, h, hb, hnd => by
    rw [lay] at h
    obtain ⟨rfl, rfl⟩ := Prod.mk.inj (Option.some.inj h)
    exact ⟨rfl, fun j h => absurd h (by simp), fun j j' h => absurd h (by simp)⟩
  | a :: r, i, st, ks, s, h, hb, hnd => by
    rw [lay] at h
    split at h
    · cases h
    · rename_i hk
      revert h
      cases hl : lay r (i + 1) ((i : Int) :: st.drop a.f3.toNat) with
      | none => intro h; cases h
      | some p =>
        obtain ⟨ks', s'⟩ := p
        intro h
        obtain ⟨rfl, rfl⟩ := Prod.mk.inj (Option.some.inj h)
        have hnd' : ((i : Int) :: st.drop a.f3.toNat).Nodup := by
          refine List.nodup_cons.2 ⟨fun h => ?_, hnd.sublist (List.drop_sublist ..)⟩
          have := hb _ (List.mem_of_mem_drop h)
          omega
        obtain ⟨h1, h2, h3⟩ := lay_facts r (i + 1) _ ks' s' hl (by
          intro o ho
          rcases List.mem_cons.1 ho with rfl | ho
          · omega
          · have := hb o (List.mem_of_mem_drop ho)
            omega) hnd'
        refine ⟨by simp [h1], fun j hj c hc => ?_, fun j j' hj hj' hlt c hc => ?_⟩
        · cases j with
          | zero =>
            have hc : c ∈ st := List.mem_of_mem_take (List.mem_reverse.1 hc)
            have := hb c hc
            exact ⟨this.1, by omega, fun _ => hc⟩
          | succ j =>
            obtain ⟨a1, a2, a3⟩ := h2 j (by simpa using hj) c hc
            refine ⟨a1, by omega, fun hlt => ?_⟩
            rcases List.mem_cons.1 (a3 (by omega)) with rfl | h
            · omega
            · exact List.mem_of_mem_drop h
        · cases j' with
          | zero => omega
          | succ j' =>
            cases j with
            | zero =>
              intro hc'
              have hc : c ∈ st.take a.f3.toNat := List.mem_reverse.1 hc
              have hcb := hb c (List.mem_of_mem_take hc)
              rcases List.mem_cons.1 ((h2 j' (by simpa using hj') c hc').2.2 (by omega)) with rfl | h
              · omega
              · rw [← List.take_append_drop a.f3.toNat st] at hnd
                exact (List.nodup_append.1 hnd).2.2 c hc c h rfl
            | succ j => exact h3 j j' (by simpa using hj) (by simpa using hj') (by omega) c hc

end Go.Proofs.Ytgaibeckblmbbaa.Pure
