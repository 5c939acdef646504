/- What both ValidValues compute. Conditions: sizes. -/
import Derived.Test.YtgaibeckblmbbaaPImplValidValue
import Derived.Test.YtgaibeckblmbbaaPSpecValidValue
import Derived.Test.YtgaibeckblmbbaaNest
namespace Go.Proofs.Ytgaibeckblmbbaa.Pure
open Go Go.RowKit Go.Proofs.Ytgaibeckblmbbaa.P Go.Proofs.YtgaibeckblmbbaaW.PrintWords Go.Proofs.YtgaibeckblmbbaaW.PrintLast
set_option linter.unusedVariables false
set_option linter.unusedSimpArgs false

/-- A value holds: one tree, of good atoms, names in order, not too deep. -/
def validVal (v : List Atom) : Bool :=
  if 1 ≤ v.length ∧ v.length ≤ 300 then
    match lay v 0 [] with
    | none => false
    | some (K, s) => if s.length = 1 then specOk v K 0 [] else false
  else false

def AllIn (n : Nat) (K : List (List Int)) : Prop := ∀ j, (h : j < K.length) → ∀ c ∈ K[j], 0 ≤ c ∧ c < (j : Int)
theorem lay_in {v : List Atom} {K : List (List Int)} {s : List Int} (h : lay v 0 [] = some (K, s)) :
    K.length = v.length ∧ (∀ j, (h : j < K.length) → ∀ c ∈ K[j], 0 ≤ c ∧ c < (j : Int)) ∧ (∀ j j', (h : j < K.length) → (h' : j' < K.length) → j < j' → ∀ c ∈ K[j], c ∉ K[j']) := by
  obtain ⟨a, b, c⟩ := lay_facts v 0 [] K s h (by simp) List.nodup_nil
  exact ⟨a, fun j hj x hx => by have := b j hj x hx; omega, c⟩

theorem spec_atom_ev (a : Atom) : Ev (fun k => spec_l2AtomOk.f k a.f0 a.f1 a.f2 a.f3) (atomOk a) := ev_of 1 (fun k hk => by
  obtain ⟨m, rfl⟩ : ∃ m, k = m + 2 := ⟨k - 2, by omega⟩
  exact spec_atom a m)
/-! ### the reference -/
theorem spec_VV1 (v : List Atom) (hn : v.length ≤ 300) (K : List (List Int)) (hK : K.length = v.length) (hs : List Int) (i : Nat) (hi : i < v.length) (hl : hs.length = i) (hb : ∀ j : Nat, j < i → 0 ≤ rd hs (j : Int) ∧ rd hs (j : Int) ≤ 12)
    (ks : List Int) (hks : rd_L8 K (i : Int) = ks) (hkb : ∀ c ∈ ks, 0 ≤ c ∧ c < (i : Int)) (hkl : ks.length ≤ 300) (r : Bool) :
    ∀ (d j : Nat) (h : Int) (last : ByteArray), j + d = ks.length → 0 ≤ h → h ≤ 13 →
      (∀ last', Ev (fun k => spec_ValidValue.l1 k K hs (i : Int) (hOf hs (ks.drop j) h) last' (ks.length : Int) v) r) →
      Ev (fun k => spec_ValidValue.l1 k K hs (i : Int) h last (j : Int) v) (if namesOk v (decide ((rd_T89 v (i : Int)).f0 = 5)) j last (ks.drop j) = true then r else false)
  | 0, j, h, last, hd, h0, h1, hc => by
    obtain rfl : j = ks.length := by omega
    have := hc last
    rw [List.drop_of_length_le (by omega), hOf] at this
    rw [List.drop_of_length_le (by omega), namesOk, if_pos rfl]
    exact this
  | d + 1, j, h, last, hd, h0, h1, hc => by
    have hj : j < ks.length := by omega
    obtain ⟨c0, c1⟩ := hkb ks[j] (List.getElem_mem hj)
    have hr : rd ks (j : Int) = ks[j] := getD_toNat _ hj
    obtain ⟨b0, b1⟩ := hb ks[j].toNat (by omega)
    rw [show ((ks[j].toNat : Nat) : Int) = ks[j] from by omega] at b0 b1
    rw [List.drop_eq_getElem_cons hj, namesOk]
    rw [List.drop_eq_getElem_cons hj] at hc
    refine Ev.step (fun k => spec_ValidValue.l1.eq_2 ..) (Ev.pos (by omega) (Ev.pos (by omega) ?_))
    rw [hks, hr]
    refine Ev.pos (by omega) (Ev.pos (by omega) (Ev.pos (by omega) (Ev.pos (by omega) (Ev.pos (by omega) ?_))))
    rw [w64 (n := rd hs ks[j] + 1) (by omega) (by omega)]
    have hj1 : wrap64 ((j : Int) + 1) = ((j + 1 : Nat) : Int) := by rw [w64 (by omega) (by omega)]; omega
    have key : ∀ h' : Int, h' = (if rd hs ks[j] + 1 > h then rd hs ks[j] + 1 else h) →
        Ev (fun k => spec_ValidValue.j2 k K hs (i : Int) h' last (j : Int) v ((rd_T89 v ks[j]).f0) ((rd_T89 v ks[j]).f1) ((rd_T89 v ks[j]).f2) ((rd_T89 v ks[j]).f3))
          (if (if (decide ((rd_T89 v (i : Int)).f0 = 5) && (Int.tmod (j : Int) 2 == 0)) = true then
            (if (rd_T89 v ks[j]).f0 = 3 then
              (if (j : Int) > 0 then (if Op.bytesLess last.toList ((rd_T89 v ks[j]).f2.toList) = true then namesOk v (decide ((rd_T89 v (i : Int)).f0 = 5)) (j + 1) (rd_T89 v ks[j]).f2 (ks.drop (j + 1)) else false)
              else namesOk v (decide ((rd_T89 v (i : Int)).f0 = 5)) (j + 1) (rd_T89 v ks[j]).f2 (ks.drop (j + 1)))
            else false)
          else namesOk v (decide ((rd_T89 v (i : Int)).f0 = 5)) (j + 1) last (ks.drop (j + 1))) = true then r else false) := by
      intro h' hh'
      have go : ∀ last', Ev (fun k => spec_ValidValue.l1 k K hs (i : Int) h' last' ((j + 1 : Nat) : Int) v) (if namesOk v (decide ((rd_T89 v (i : Int)).f0 = 5)) (j + 1) last' (ks.drop (j + 1)) = true then r else false) := fun last' =>
        spec_VV1 v hn K hK hs i hi hl hb ks hks hkb hkl r d (j + 1) h' last' (by omega) (by rw [hh']; split <;> omega) (by rw [hh']; split <;> omega) (fun l => by have := hc l; rw [hOf] at this; rw [hh']; exact this)
      have j3 : ∀ b : Bool, Ev (fun k => spec_ValidValue.j3 k K hs (i : Int) h' last (j : Int) b v ((rd_T89 v ks[j]).f0) ((rd_T89 v ks[j]).f1) ((rd_T89 v ks[j]).f2) ((rd_T89 v ks[j]).f3))
          (if (if b = true then
            (if (rd_T89 v ks[j]).f0 = 3 then
              (if (j : Int) > 0 then (if Op.bytesLess last.toList ((rd_T89 v ks[j]).f2.toList) = true then namesOk v (decide ((rd_T89 v (i : Int)).f0 = 5)) (j + 1) (rd_T89 v ks[j]).f2 (ks.drop (j + 1)) else false)
              else namesOk v (decide ((rd_T89 v (i : Int)).f0 = 5)) (j + 1) (rd_T89 v ks[j]).f2 (ks.drop (j + 1)))
            else false)
          else namesOk v (decide ((rd_T89 v (i : Int)).f0 = 5)) (j + 1) last (ks.drop (j + 1))) = true then r else false) := by
        intro b
        refine Ev.step (fun k => spec_ValidValue.j3.eq_2 ..) ?_
        rw [hj1]
        by_cases hb : b = true
        · rw [if_pos hb]
          refine Ev.pos hb ?_
          by_cases h3 : (rd_T89 v ks[j]).f0 = 3
          · rw [if_pos h3]
            refine Ev.pos h3 ?_
            by_cases hp : (j : Int) > 0
            · rw [if_pos hp]
              refine Ev.pos hp ?_
              by_cases hlt : Op.bytesLess last.toList ((rd_T89 v ks[j]).f2.toList) = true
              · rw [if_pos hlt]
                exact Ev.pos hlt (go _)
              · rw [if_neg hlt]
                exact Ev.neg hlt (Ev.now _)
            · rw [if_neg hp]
              exact Ev.neg hp (go _)
          · rw [if_neg h3]
            exact Ev.neg h3 (Ev.now _)
        · rw [if_neg hb]
          exact Ev.neg hb (go _)
      refine Ev.step (fun k => spec_ValidValue.j2.eq_2 ..) (Ev.pos (by omega) (Ev.pos (by omega) ?_))
      by_cases h5 : (rd_T89 v (i : Int)).f0 = 5
      · have := j3 (Int.tmod (j : Int) 2 == 0)
        rw [decide_eq_true h5] at this ⊢
        rw [Bool.true_and]
        exact Ev.pos h5 this
      · have := j3 false
        rw [decide_eq_false h5] at this ⊢
        rw [Bool.false_and]
        exact Ev.neg h5 this
    by_cases hx : rd hs ks[j] + 1 > h
    · exact Ev.pos hx (key _ (by rw [if_pos hx]))
    · exact Ev.neg hx (key _ (by rw [if_neg hx]))
theorem spec_VV0 (v : List Atom) (hn : v.length ≤ 300) (K : List (List Int)) (hK : K.length = v.length) (hB : ∀ j, (h : j < K.length) → ∀ c ∈ K[j], 0 ≤ c ∧ c < (j : Int)) (hL : ∀ j, (h : j < K.length) → K[j].length ≤ 300) :
    ∀ (d i : Nat) (hs : List Int), i + d = v.length → hs.length = i → (∀ j : Nat, j < i → 0 ≤ rd hs (j : Int) ∧ rd hs (j : Int) ≤ 12) → Ev (fun k => spec_ValidValue.l0 k K hs (i : Int) v) (specOk v (K.drop i) i hs)
  | 0, i, hs, hd, hl, hb => by
    rw [List.drop_of_length_le (by omega), specOk]
    exact Ev.step (fun k => spec_ValidValue.l0.eq_2 ..) (Ev.neg (by omega) (Ev.now _))
  | d + 1, i, hs, hd, hl, hb => by
    have hi : i < K.length := by omega
    have hge := hOf_ge hs K[i] 0
    have hle : hOf hs K[i] 0 ≤ 13 := by
      rcases hge.2.2 with h | ⟨c, hc, h⟩
      · omega
      · obtain ⟨c0, c1⟩ := hB i hi c hc
        have := (hb c.toNat (by omega)).2
        rw [show ((c.toNat : Nat) : Int) = c from by omega] at this
        omega
    rw [List.drop_eq_getElem_cons hi, specOk]
    unfold names
    refine Ev.step (fun k => spec_ValidValue.l0.eq_2 ..) (Ev.pos (by omega) ?_)
    refine spec_VV1 v hn K hK hs i (by omega) hl hb K[i] (rdL_eq hi) (hB i hi) (hL i hi) _ K[i].length 0 0 ⟨#[]⟩ (by omega) (by omega) (by omega) (fun last' => ?_)
    rw [List.drop_zero]
    refine Ev.step (fun k => spec_ValidValue.l1.eq_2 ..) (Ev.pos (by omega) (Ev.pos (by omega) ?_))
    rw [rdL_eq hi]
    refine Ev.neg (by omega) (Ev.pos (by omega) ?_)
    refine Ev.both (fun _ => Ev.now _) (fun h12 => Ev.pos (by omega) ?_)
    refine Ev.bind (spec_atom_ev _) ?_
    refine Ev.both (fun _ => ?_) (fun _ => Ev.now _)
    rw [w64 (n := (i : Int) + 1) (by omega) (by omega), show (i : Int) + 1 = ((i + 1 : Nat) : Int) from by omega]
    refine spec_VV0 v hn K hK hB hL d (i + 1) _ (by omega) (by simp [hl]) (fun j hj => ?_)
    rcases Nat.lt_or_ge j i with h' | h'
    · rw [rd_append_left _ _ _ (by omega)]
      exact hb j h'
    · obtain rfl : j = i := by omega
      have e : ∀ z, rd (hs ++ [z]) (j : Int) = z := fun z => by
        unfold rd
        rw [Int.toNat_natCast, List.getD_eq_getElem?_getD, List.getElem?_append_right (by omega), hl]
        simp
      rw [e]
      exact ⟨hge.1, by omega⟩

/-! ### the program -/
theorem impl_VV1 (v : List Atom) (hn : v.length ≤ 300) (K : List (List Int)) (hK : K.length = v.length) (i : Nat) (hi : i < v.length) (ks : List Int) (hkb : ∀ c ∈ ks, 0 ≤ c ∧ c < (i : Int)) (hkl : ks.length ≤ 300) (x : Int) (hx0 : 0 ≤ x) (hx : x ≤ 12) (r : Bool) :
    ∀ (d j : Nat) (D : List Int) (last : ByteArray), j + d = ks.length → D.length = v.length → rd D (i : Int) = x →
      (∀ last', Ev (fun k => impl_ValidValue.l1 k K (setAll D (ks.drop j) (x + 1)) (i : Int) last' ks (ks.length : Int) (ks.length : Int) v) r) →
      Ev (fun k => impl_ValidValue.l1 k K D (i : Int) last ks (ks.length : Int) (j : Int) v) (if namesOk v (decide ((rd_T89 v (i : Int)).f0 = 5)) j last (ks.drop j) = true then r else false)
  | 0, j, D, last, hd, hD, hxi, hc => by
    obtain rfl : j = ks.length := by omega
    have := hc last
    rw [List.drop_of_length_le (by omega), setAll] at this
    rw [List.drop_of_length_le (by omega), namesOk, if_pos rfl]
    exact this
  | d + 1, j, D, last, hd, hD, hxi, hc => by
    have hj : j < ks.length := by omega
    obtain ⟨c0, c1⟩ := hkb ks[j] (List.getElem_mem hj)
    have hr : rd ks (j : Int) = ks[j] := getD_toNat _ hj
    rw [List.drop_eq_getElem_cons hj, namesOk]
    rw [List.drop_eq_getElem_cons hj] at hc
    refine Ev.step (fun k => impl_ValidValue.l1.eq_2 ..) (Ev.pos (by omega) (Ev.pos (by omega) (Ev.pos (by omega) (Ev.pos (by omega) (Ev.pos (by omega) ?_)))))
    rw [hr, hxi]
    refine Ev.pos (by omega) (Ev.pos (by omega) (Ev.sb (Ev.pos (by omega) ?_)))
    rw [w64 (n := x + 1) (by omega) (by omega)]
    have hj1 : wrap64 ((j : Int) + 1) = ((j + 1 : Nat) : Int) := by rw [w64 (by omega) (by omega)]; omega
    have go : ∀ last', Ev (fun k => impl_ValidValue.l1 k K (D.set ks[j].toNat (x + 1)) (i : Int) last' ks (ks.length : Int) ((j + 1 : Nat) : Int) v) (if namesOk v (decide ((rd_T89 v (i : Int)).f0 = 5)) (j + 1) last' (ks.drop (j + 1)) = true then r else false) := fun last' =>
      impl_VV1 v hn K hK i hi ks hkb hkl x hx0 hx r d (j + 1) _ last' (by omega) (by rw [List.length_set]; exact hD) (by rw [rd_set _ _ _ _ c0 (by omega) (by omega), if_neg (by omega)]; exact hxi) (fun l => by have := hc l; rw [setAll] at this; exact this)
    have j3 : ∀ b : Bool, Ev (fun k => impl_ValidValue.j3 k K (D.set ks[j].toNat (x + 1)) (i : Int) last (j : Int) ks[j] ks (ks.length : Int) (j : Int) b v)
        (if (if b = true then
          (if (rd_T89 v ks[j]).f0 = 3 then
            (if (j : Int) > 0 then (if Op.bytesLess last.toList ((rd_T89 v ks[j]).f2.toList) = true then namesOk v (decide ((rd_T89 v (i : Int)).f0 = 5)) (j + 1) (rd_T89 v ks[j]).f2 (ks.drop (j + 1)) else false)
            else namesOk v (decide ((rd_T89 v (i : Int)).f0 = 5)) (j + 1) (rd_T89 v ks[j]).f2 (ks.drop (j + 1)))
          else false)
        else namesOk v (decide ((rd_T89 v (i : Int)).f0 = 5)) (j + 1) last (ks.drop (j + 1))) = true then r else false) := by
      intro b
      refine Ev.step (fun k => impl_ValidValue.j3.eq_2 ..) ?_
      rw [hj1]
      by_cases hb : b = true
      · rw [if_pos hb]
        refine Ev.pos hb (Ev.pos (by omega) (Ev.pos (by omega) ?_))
        by_cases h3 : (rd_T89 v ks[j]).f0 = 3
        · rw [if_pos h3]
          refine Ev.pos h3 ?_
          by_cases hp : (j : Int) > 0
          · rw [if_pos hp]
            refine Ev.pos hp ?_
            by_cases hlt : Op.bytesLess last.toList ((rd_T89 v ks[j]).f2.toList) = true
            · rw [if_pos hlt]
              exact Ev.pos hlt (go _)
            · rw [if_neg hlt]
              exact Ev.neg hlt (Ev.now _)
          · rw [if_neg hp]
            exact Ev.neg hp (go _)
        · rw [if_neg h3]
          exact Ev.neg h3 (Ev.now _)
      · rw [if_neg hb]
        exact Ev.neg hb (go _)
    by_cases h5 : (rd_T89 v (i : Int)).f0 = 5
    · have := j3 (Int.tmod (j : Int) 2 == 0)
      rw [decide_eq_true h5] at this ⊢
      rw [Bool.true_and]
      exact Ev.pos h5 this
    · have := j3 false
      rw [decide_eq_false h5] at this ⊢
      rw [Bool.false_and]
      exact Ev.neg h5 this
theorem impl_VV0 (v : List Atom) (hn : v.length ≤ 300) (K : List (List Int)) (hK : K.length = v.length) (hB : ∀ j, (h : j < K.length) → ∀ c ∈ K[j], 0 ≤ c ∧ c < (j : Int)) (hL : ∀ j, (h : j < K.length) → K[j].length ≤ 300) :
    ∀ (i : Nat) (D : List Int), i ≤ v.length → D.length = v.length → (∀ j : Nat, 0 ≤ rd D (j : Int)) → Ev (fun k => impl_ValidValue.l0 k K D ((i : Int) - 1) v) (implOk v K i D)
  | 0, D, hi, hD, h0 => by
    rw [implOk]
    exact Ev.step (fun k => impl_ValidValue.l0.eq_2 ..) (Ev.neg (by omega) (Ev.now _))
  | i + 1, D, hi, hD, h0 => by
    have hi' : i < K.length := by omega
    have hx0 := h0 i
    rw [implOk, show ((i + 1 : Nat) : Int) - 1 = (i : Int) from by omega]
    unfold names
    refine Ev.step (fun k => impl_ValidValue.l0.eq_2 ..) (Ev.pos (by omega) (Ev.pos (by omega) (Ev.pos (by omega) ?_)))
    refine Ev.both (fun _ => Ev.now _) (fun h12 => Ev.pos (by omega) ?_)
    rw [rdL_eq hi']
    have hin : ∀ c ∈ K[i], 0 ≤ c ∧ c.toNat < D.length := fun c hc => by have := hB i hi' c hc; omega
    refine impl_VV1 v hn K hK i (by omega) K[i] (hB i hi') (hL i hi') (rd D (i : Int)) hx0 (by omega) _ K[i].length 0 D ⟨#[]⟩ (by omega) hD rfl (fun last' => ?_)
    rw [List.drop_zero]
    refine Ev.step (fun k => impl_ValidValue.l1.eq_2 ..) (Ev.neg (by omega) ?_)
    rw [w64 (n := (i : Int) - 1) (by omega) (by omega)]
    refine impl_VV0 v hn K hK hB hL i _ (by omega) (by rw [setAll_len]; exact hD) (fun j => ?_)
    rw [setAll_at _ _ _ _ hin (by omega)]
    split
    · omega
    · exact h0 j

/-! ### both -/
theorem kids_short : ∀ (r : List Atom) (i : Nat) (st : List Int) (K : List (List Int)) (s : List Int), lay r i st = some (K, s) → st.length ≤ i → i + r.length ≤ 300 → ∀ ks ∈ K, ks.length ≤ 300
  | [], i, st, K, s, h, _, _, ks, hm => by
    rw [lay] at h
    obtain ⟨rfl, rfl⟩ := Prod.mk.inj (Option.some.inj h)
    cases hm
  | a :: r, i, st, K, s, h, hl, hi, ks, hm => by
    rw [lay] at h
    split at h
    · cases h
    · revert h
      simp only [List.length_cons] at hi
      cases hl' : lay r (i + 1) ((i : Int) :: st.drop a.f3.toNat) with
      | none => intro h; cases h
      | some p =>
        intro h
        obtain ⟨rfl, rfl⟩ := Prod.mk.inj (Option.some.inj h)
        rcases List.mem_cons.1 hm with rfl | hm
        · simp
          omega
        · exact kids_short r (i + 1) _ p.1 p.2 hl' (by simp; omega) (by omega) ks hm
theorem lay_last : ∀ (r : List Atom) (i : Nat) (st : List Int) (K : List (List Int)) (s : List Int), lay r i st = some (K, s) → r ≠ [] → ∃ t, s = (((i + r.length : Nat) : Int) - 1) :: t
  | [], _, _, _, _, _, hr => absurd rfl hr
  | a :: r, i, st, K, s, h, _ => by
    rw [lay] at h
    split at h
    · cases h
    · revert h
      cases hl' : lay r (i + 1) ((i : Int) :: st.drop a.f3.toNat) with
      | none => intro h; cases h
      | some p =>
        intro h
        obtain ⟨rfl, rfl⟩ := Prod.mk.inj (Option.some.inj h)
        by_cases hr : r = []
        · subst hr
          rw [lay] at hl'
          obtain rfl := Option.some.inj hl'
          exact ⟨st.drop a.f3.toNat, by simp⟩
        · obtain ⟨t, ht⟩ := lay_last r (i + 1) _ p.1 p.2 hl' hr
          exact ⟨t, by rw [ht]; simp; omega⟩

theorem spec_ValidValue_ev (v : List Atom) (hz : v.length ≤ 8796093022208) : Ev (fun k => spec_ValidValue.f k v) (validVal v) := by
  unfold spec_ValidValue.f validVal
  rw [in_eq]
  refine Ev.sb ?_
  by_cases hn : 1 ≤ v.length ∧ v.length ≤ 300
  · rw [if_pos hn]
    refine Ev.pos (by simp; omega) ?_
    obtain ⟨p, hp, he⟩ := spec_l2Kids_evs v hn.2
    refine Ev.bind he ?_
    revert hp
    cases hl : lay v 0 [] with
    | none =>
      intro hp
      exact Ev.neg (by rw [hp]; simp) (Ev.now _)
    | some q =>
      obtain ⟨K, s⟩ := q
      intro hp
      subst hp
      obtain ⟨hK, hB, hd⟩ := lay_in hl
      dsimp only
      by_cases h1 : s.length = 1
      · rw [if_pos h1]
        refine Ev.pos (by simp; omega) ?_
        have := spec_VV0 v hn.2 K hK hB (fun j hj => kids_short v 0 [] K s hl (by simp) (by omega) _ (List.getElem_mem hj)) v.length 0 [] (by omega) rfl (fun j hj => by omega)
        simpa using this
      · rw [if_neg h1]
        exact Ev.neg (by simp; omega) (Ev.now _)
  · rw [if_neg hn]
    exact Ev.neg (by simp; omega) (Ev.now _)
theorem impl_ValidValue_ev (v : List Atom) (hz : v.length ≤ 8796093022208) : Ev (fun k => impl_ValidValue.f k v) (validVal v) := by
  unfold impl_ValidValue.f validVal
  rw [impl_in_eq]
  refine Ev.sb ?_
  by_cases hn : 1 ≤ v.length ∧ v.length ≤ 300
  · rw [if_pos hn]
    refine Ev.pos (by simp; omega) ?_
    obtain ⟨p, hp, he⟩ := impl_layout_evs v hn.2
    refine Ev.bind he ?_
    have bad : ∀ K x, Ev (fun k => impl_ValidValue.j0 k x K true v) false := fun K x => Ev.step (fun k => impl_ValidValue.j0.eq_2 ..) (Ev.pos rfl (Ev.now _))
    rw [w64 (n := (v.length : Int) - 1) (by omega) (by omega)]
    by_cases hall : v.all atomOk = true
    · rw [if_pos hall] at hp
      revert hp
      cases hl : lay v 0 [] with
      | none =>
        intro hp
        exact Ev.neg (by rw [hp]; simp) (bad _ _)
      | some q =>
        obtain ⟨K, s⟩ := q
        intro hp
        obtain ⟨a, b, c, e⟩ := hp
        obtain ⟨hK, hB, hd⟩ := lay_in hl
        obtain ⟨t, rfl⟩ := lay_last v 0 [] K s hl (by intro h; rw [h] at hn; simp at hn)
        obtain ⟨e0, e1, e2⟩ := e
        rw [show ((0 + v.length : Nat) : Int) - 1 = (v.length : Int) - 1 from by omega] at e2
        dsimp only
        refine Ev.pos a (Ev.pos (by omega) (Ev.pos (by omega) ?_))
        by_cases h1 : t = []
        · subst h1
          have e2 : rd p.1 ((v.length : Int) - 1) = 0 := e2
          rw [if_pos (show [((0 + v.length : Nat) : Int) - 1].length = 1 from rfl), e2, b, nest v K hK hB hd, hall, Bool.true_and]
          refine Ev.step (fun k => impl_ValidValue.j0.eq_2 ..) (Ev.neg (by simp) (Ev.pos (by omega) (Ev.pos (by omega) ?_)))
          rw [Int.toNat_natCast, w64 (n := (v.length : Int) - 1) (by omega) (by omega)]
          exact impl_VV0 v hn.2 K hK hB (fun j hj => kids_short v 0 [] K _ hl (by simp) (by omega) _ (List.getElem_mem hj)) v.length _ (by omega) (by simp) (fun j => by rw [rd_replicate]; omega)
        · have h0 : rd p.1 ((v.length : Int) - 1) ≠ 0 := by
            cases t with
            | nil => exact absurd rfl h1
            | cons o t =>
              obtain ⟨f0, f1, _⟩ := e2
              omega
          rw [if_neg (by simp [h1]), show (rd p.1 ((v.length : Int) - 1) != 0) = true from by simpa using h0]
          exact bad _ _
    · rw [if_neg hall] at hp
      have : (match lay v 0 [] with | none => false | some (K, s) => if s.length = 1 then specOk v K 0 [] else false) = false := by
        cases hl : lay v 0 [] with
        | none => rfl
        | some q =>
          obtain ⟨K, s⟩ := q
          obtain ⟨hK, hB, hd⟩ := lay_in hl
          dsimp only
          rw [nest v K hK hB hd, Bool.eq_false_iff.2 hall, Bool.false_and]
          simp
      rw [this]
      exact Ev.neg (by rw [hp]; simp) (bad _ _)
  · rw [if_neg hn]
    exact Ev.neg (by simp; omega) (Ev.now _)

end Go.Proofs.Ytgaibeckblmbbaa.Pure
