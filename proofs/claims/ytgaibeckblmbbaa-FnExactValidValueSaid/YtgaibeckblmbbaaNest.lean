/- Heights (reference) against depths (program), and both ValidValues. Conditions: sizes. -/
import Derived.Test.YtgaibeckblmbbaaPImplValidValue
import Derived.Test.YtgaibeckblmbbaaPSpecValidValue
import Derived.Test.YtgaibeckblmbbaaKids
import Derived.Test.YtgaibeckblmbbaaFront
namespace Go.Proofs.Ytgaibeckblmbbaa.Pure
open Go Go.RowKit Go.Proofs.Ytgaibeckblmbbaa.P Go.Proofs.YtgaibeckblmbbaaW.PrintWords Go.Proofs.YtgaibeckblmbbaaW.PrintLast
set_option linter.unusedVariables false
set_option linter.unusedSimpArgs false

/-- The names of a record, place after place (rec: it is one). -/
def namesOk (v : List Atom) (rec : Bool) : Nat → ByteArray → List Int → Bool
  | _, _, [] => true
  | j, last, c :: r =>
    if (rec && (Int.tmod (j : Int) 2 == 0)) = true then
      (if (rd_T89 v c).f0 = 3 then
        (if (j : Int) > 0 then (if Op.bytesLess last.toList ((rd_T89 v c).f2.toList) = true then namesOk v rec (j + 1) (rd_T89 v c).f2 r else false)
        else namesOk v rec (j + 1) (rd_T89 v c).f2 r)
      else false)
    else namesOk v rec (j + 1) last r
def names (v : List Atom) (i : Nat) (ks : List Int) : Bool := namesOk v (decide ((rd_T89 v (i : Int)).f0 = 5)) 0 ⟨#[]⟩ ks

/-! ### heights -/
def hOf (hs : List Int) : List Int → Int → Int
  | [], h => h
  | c :: r, h => hOf hs r (if rd hs c + 1 > h then rd hs c + 1 else h)
def specOk (v : List Atom) : List (List Int) → Nat → List Int → Bool
  | [], _, _ => true
  | ks :: r, i, hs => if names v i ks = true then (if hOf hs ks 0 > 12 then false else if atomOk (rd_T89 v (i : Int)) = true then specOk v r (i + 1) (hs ++ [hOf hs ks 0]) else false) else false
/-! ### depths -/
def setAll : List Int → List Int → Int → List Int
  | D, [], _ => D
  | D, c :: r, x => setAll (D.set c.toNat x) r x
def implOk (v : List Atom) (K : List (List Int)) : Nat → List Int → Bool
  | 0, _ => true
  | i + 1, D => if rd D (i : Int) > 12 then false else if names v i (rd_L8 K (i : Int)) = true then implOk v K i (setAll D (rd_L8 K (i : Int)) (rd D (i : Int) + 1)) else false

theorem hOf_ge (hs : List Int) : ∀ (ks : List Int) (h : Int), h ≤ hOf hs ks h ∧ (∀ c ∈ ks, rd hs c + 1 ≤ hOf hs ks h) ∧ (hOf hs ks h = h ∨ ∃ c ∈ ks, hOf hs ks h = rd hs c + 1)
  | [], h => ⟨by rw [hOf]; omega, by simp, .inl rfl⟩
  | c :: r, h => by
    rw [hOf]
    have hc : rd hs c + 1 ≤ (if rd hs c + 1 > h then rd hs c + 1 else h) := by split <;> omega
    have hh : h ≤ (if rd hs c + 1 > h then rd hs c + 1 else h) := by split <;> omega
    obtain ⟨a, b, d⟩ := hOf_ge hs r (if rd hs c + 1 > h then rd hs c + 1 else h)
    refine ⟨by omega, fun c' hc' => ?_, ?_⟩
    · rcases List.mem_cons.1 hc' with rfl | hc'
      · omega
      · exact b c' hc'
    · rcases d with d | ⟨c', h1, h2⟩
      · by_cases hx : rd hs c + 1 > h
        · rw [d]
          exact .inr ⟨c, List.mem_cons_self .., if_pos hx⟩
        · rw [d]
          exact .inl (if_neg hx)
      · exact .inr ⟨c', List.mem_cons_of_mem _ h1, h2⟩

/-- The heights, whatever comes of them. -/
def hts : List (List Int) → List Int → List Int
  | [], hs => hs
  | ks :: r, hs => hts r (hs ++ [hOf hs ks 0])
theorem hts_pre : ∀ (K : List (List Int)) (hs : List Int), ∃ t, hts K hs = hs ++ t
  | [], hs => ⟨[], by rw [hts, List.append_nil]⟩
  | ks :: r, hs => by
    obtain ⟨t, ht⟩ := hts_pre r (hs ++ [hOf hs ks 0])
    exact ⟨hOf hs ks 0 :: t, by rw [hts, ht]; simp⟩
theorem hts_len : ∀ (K : List (List Int)) (hs : List Int), (hts K hs).length = hs.length + K.length
  | [], hs => rfl
  | ks :: r, hs => by rw [hts, hts_len, List.length_append, List.length_cons]; simp; omega
theorem rd_append_left (hs t : List Int) (c : Int) (h : c.toNat < hs.length) : rd (hs ++ t) c = rd hs c := by
  unfold rd
  rw [List.getD_eq_getElem?_getD, List.getD_eq_getElem?_getD, List.getElem?_append_left h]
theorem hOf_congr (hs hs' : List Int) : ∀ (ks : List Int) (h : Int), (∀ c ∈ ks, rd hs c = rd hs' c) → hOf hs ks h = hOf hs' ks h
  | [], _, _ => rfl
  | c :: r, h, hc => by
    rw [hOf, hOf, hc c (List.mem_cons_self ..)]
    exact hOf_congr hs hs' r _ (fun c' h' => hc c' (List.mem_cons_of_mem _ h'))
/-- The heights' own law. -/
theorem hts_at : ∀ (K : List (List Int)) (hs : List Int), (∀ j, (h : j < K.length) → ∀ c ∈ K[j], 0 ≤ c ∧ c < ((hs.length + j : Nat) : Int)) → ∀ j, (h : j < K.length) → rd (hts K hs) ((hs.length + j : Nat) : Int) = hOf (hts K hs) K[j] 0
  | [], _, _, j, h => absurd h (by simp)
  | ks :: r, hs, hb, 0, h => by
    obtain ⟨t, ht⟩ := hts_pre r (hs ++ [hOf hs ks 0])
    rw [hts, ht]
    have e : rd (hs ++ [hOf hs ks 0] ++ t) ((hs.length + 0 : Nat) : Int) = hOf hs ks 0 := by
      unfold rd
      simp
    rw [e]
    exact hOf_congr _ _ _ _ (fun c hc => by
      obtain ⟨h0, h1⟩ := hb 0 h c hc
      rw [List.append_assoc, rd_append_left _ _ _ (by omega)])
  | ks :: r, hs, hb, j + 1, h => by
    rw [hts]
    have := hts_at r (hs ++ [hOf hs ks 0]) (fun j' h' c hc => by
      have := hb (j' + 1) (by simpa using h') c (by simpa using hc)
      simp only [List.length_append, List.length_cons, List.length_nil]
      omega) j (by simpa using h)
    rw [show hs.length + (j + 1) = (hs ++ [hOf hs ks 0]).length + j from by simp; omega]
    simpa using this
theorem specOk_iff (v : List Atom) : ∀ (K : List (List Int)) (i : Nat) (hs : List Int), i = hs.length → (∀ j, (h : j < K.length) → ∀ c ∈ K[j], 0 ≤ c ∧ c < ((hs.length + j : Nat) : Int)) →
    (specOk v K i hs = true ↔ ∀ j, (h : j < K.length) → names v (i + j) K[j] = true ∧ rd (hts K hs) ((hs.length + j : Nat) : Int) ≤ 12 ∧ atomOk (rd_T89 v ((i + j : Nat) : Int)) = true)
  | [], i, hs, hi, hb => by simp [specOk]
  | ks :: r, i, hs, hi, hb => by
    have hat := hts_at (ks :: r) hs hb 0 (by simp)
    have hc0 : hOf (hts (ks :: r) hs) ks 0 = hOf hs ks 0 := by
      obtain ⟨t, ht⟩ := hts_pre r (hs ++ [hOf hs ks 0])
      rw [hts, ht]
      exact hOf_congr _ _ _ _ (fun c hc => by
        obtain ⟨h0, h1⟩ := hb 0 (by simp) c hc
        rw [List.append_assoc, rd_append_left _ _ _ (by omega)])
    have ih := specOk_iff v r (i + 1) (hs ++ [hOf hs ks 0]) (by simp [hi]) (fun j' h' c hc => by
      have := hb (j' + 1) (by simpa using h') c (by simpa using hc)
      simp only [List.length_append, List.length_cons, List.length_nil]
      omega)
    have hat' : rd (hts (ks :: r) hs) ((hs.length + 0 : Nat) : Int) = hOf hs ks 0 := hat.trans hc0
    constructor
    · intro h j hj
      rw [specOk] at h
      by_cases hn : names v i ks = true
      · rw [if_pos hn] at h
        by_cases hh : hOf hs ks 0 > 12
        · rw [if_pos hh] at h
          cases h
        · rw [if_neg hh] at h
          by_cases ha : atomOk (rd_T89 v (i : Int)) = true
          · rw [if_pos ha] at h
            cases j with
            | zero => exact ⟨hn, by omega, ha⟩
            | succ j =>
              have := ih.1 h j (by simpa using hj)
              rw [hts, show i + (j + 1) = i + 1 + j from by omega, show hs.length + (j + 1) = (hs ++ [hOf hs ks 0]).length + j from by simp; omega]
              simpa using this
          · rw [if_neg ha] at h
            cases h
      · rw [if_neg hn] at h
        cases h
    · intro h
      obtain ⟨a, b, c⟩ := h 0 (by simp)
      rw [specOk, if_pos (by simpa using a), if_neg (by omega), if_pos (by simpa using c)]
      refine ih.2 (fun j hj => ?_)
      have := h (j + 1) (by simpa using hj)
      rw [hts, show i + (j + 1) = i + 1 + j from by omega, show hs.length + (j + 1) = (hs ++ [hOf hs ks 0]).length + j from by simp; omega] at this
      simpa using this

theorem setAll_len : ∀ (ks D : List Int) (x : Int), (setAll D ks x).length = D.length
  | [], D, x => rfl
  | c :: r, D, x => by rw [setAll, setAll_len, List.length_set]
theorem rd_set (D : List Int) (c x : Int) (j : Int) (hc : 0 ≤ c) (hj : 0 ≤ j) (hl : c.toNat < D.length) : rd (D.set c.toNat x) j = if j = c then x else rd D j := by
  by_cases h : j = c
  · subst h
    rw [if_pos rfl]
    have := rd_set_eq D j.toNat x hl
    rwa [show (j.toNat : Int) = j from by omega] at this
  · rw [if_neg h, rd_set_ne D c.toNat x j hj (by omega)]
theorem setAll_at : ∀ (ks D : List Int) (x : Int) (j : Int), (∀ c ∈ ks, 0 ≤ c ∧ c.toNat < D.length) → 0 ≤ j → rd (setAll D ks x) j = if j ∈ ks then x else rd D j
  | [], D, x, j, _, _ => by simp [setAll]
  | c :: r, D, x, j, hc, hj => by
    have h0 := hc c (List.mem_cons_self ..)
    rw [setAll, setAll_at r _ x j (fun c' h' => by rw [List.length_set]; exact hc c' (List.mem_cons_of_mem _ h')) hj, rd_set D c x j h0.1 hj h0.2]
    by_cases h1 : j ∈ r
    · rw [if_pos h1, if_pos (List.mem_cons_of_mem _ h1)]
    · rw [if_neg h1]
      by_cases h2 : j = c
      · rw [if_pos h2, if_pos (by rw [h2]; exact List.mem_cons_self ..)]
      · rw [if_neg h2, if_neg (fun h => (List.mem_cons.1 h).elim h2 h1)]

section
variable (v : List Atom) (K : List (List Int)) (H : List Int)
/-- Heights that stay small keep the depths small. -/
theorem implOk_of (hb : ∀ j, (h : j < K.length) → ∀ c ∈ K[j], 0 ≤ c ∧ c < (j : Int)) (hH : ∀ j, (h : j < K.length) → ∀ c ∈ K[j], rd H c + 1 ≤ rd H (j : Int)) (hn : ∀ j, (h : j < K.length) → names v j K[j] = true) (h0 : ∀ j : Nat, j < K.length → 0 ≤ rd H (j : Int)) :
    ∀ (i : Nat) (D : List Int), i ≤ K.length → D.length = K.length → (∀ j : Nat, j < K.length → rd D (j : Int) + rd H (j : Int) ≤ 12) → implOk v K i D = true
  | 0, D, _, _, _ => rfl
  | i + 1, D, hi, hl, hD => by
    have hk : rd_L8 K (i : Int) = K[i] := rdL_eq (by omega)
    have h1 := hD i (by omega)
    have h2 := h0 i (by omega)
    rw [implOk, if_neg (by omega), hk, if_pos (hn i (by omega))]
    refine implOk_of hb hH hn h0 i _ (by omega) (by rw [setAll_len]; exact hl) (fun j hj => ?_)
    rw [setAll_at _ _ _ _ (fun c hc => by have := hb i (by omega) c hc; omega) (by omega)]
    split
    · rename_i hm
      have := hH i (by omega) _ hm
      omega
    · exact hD j hj
/-- Depths that stay small keep the heights small. -/
theorem implOk_to (hb : ∀ j, (h : j < K.length) → ∀ c ∈ K[j], 0 ≤ c ∧ c < (j : Int)) (hd : ∀ j j', (h : j < K.length) → (h' : j' < K.length) → j < j' → ∀ c ∈ K[j], c ∉ K[j'])
    (hH : ∀ j, (h : j < K.length) → rd H (j : Int) = 0 ∨ ∃ c ∈ K[j], rd H (j : Int) = rd H c + 1) :
    ∀ (i : Nat) (D : List Int), i ≤ K.length → D.length = K.length → (∀ j, (h : j < K.length) → j < i → ∀ c ∈ K[j], rd D c = 0) → (∀ j : Nat, 0 ≤ rd D (j : Int)) → implOk v K i D = true →
      (∀ j : Nat, j < i → rd D (j : Int) + rd H (j : Int) ≤ 12) ∧ (∀ j, (h : j < K.length) → j < i → names v j K[j] = true)
  | 0, D, _, _, _, _, _ => ⟨fun j hj => by omega, fun j _ hj => by omega⟩
  | i + 1, D, hi, hl, h0, hp, h => by
    have hk : rd_L8 K (i : Int) = K[i] := rdL_eq (by omega)
    rw [implOk, hk] at h
    by_cases h12 : rd D (i : Int) > 12
    · rw [if_pos h12] at h
      cases h
    rw [if_neg h12] at h
    by_cases hn : names v i K[i] = true
    · rw [if_pos hn] at h
      have hin : ∀ c ∈ K[i], 0 ≤ c ∧ c.toNat < D.length := fun c hc => by have := hb i (by omega) c hc; omega
      have hpi := hp i
      obtain ⟨a, b⟩ := implOk_to hb hd hH i _ (by omega) (by rw [setAll_len]; exact hl) (fun j hj hji c hc => by
          rw [setAll_at _ _ _ _ hin (hb j hj c hc).1, if_neg (hd j i hj (by omega) hji c hc)]
          exact h0 j hj (by omega) c hc) (fun j => by
          rw [setAll_at _ _ _ _ hin (by omega)]
          split
          · omega
          · exact hp j) h
      refine ⟨fun j hj => ?_, fun j hj hji => ?_⟩
      · rcases Nat.lt_or_ge j i with hji | hji
        · have h1 := a j hji
          rw [setAll_at _ _ _ _ hin (by omega)] at h1
          split at h1
          · rename_i hm
            have := h0 i (by omega) (by omega) _ hm
            omega
          · exact h1
        · obtain rfl : j = i := by omega
          rcases hH j (by omega) with h1 | ⟨c, hc, h1⟩
          · omega
          · obtain ⟨c0, c1⟩ := hb j (by omega) c hc
            have h2 := a c.toNat (by omega)
            rw [show ((c.toNat : Nat) : Int) = c from by omega, setAll_at _ _ _ _ hin c0, if_pos hc] at h2
            omega
      · rcases Nat.lt_or_ge j i with h' | h'
        · exact b j hj h'
        · obtain rfl : j = i := by omega
          exact hn
    · rw [if_neg hn] at h
      cases h
end
theorem rd_replicate (n : Nat) (j : Int) : rd (List.replicate n 0) j = 0 := by
  unfold rd
  rw [List.getD_eq_getElem?_getD, List.getElem?_replicate]
  split <;> rfl
/-- The two ways to look at a value are one. -/
theorem nest (v : List Atom) (K : List (List Int)) (hK : K.length = v.length) (hb : ∀ j, (h : j < K.length) → ∀ c ∈ K[j], 0 ≤ c ∧ c < (j : Int)) (hd : ∀ j j', (h : j < K.length) → (h' : j' < K.length) → j < j' → ∀ c ∈ K[j], c ∉ K[j']) :
    specOk v K 0 [] = (v.all atomOk && implOk v K v.length (List.replicate v.length 0)) := by
  have hb' : ∀ j, (h : j < K.length) → ∀ c ∈ K[j], 0 ≤ c ∧ c < ((([] : List Int).length + j : Nat) : Int) := fun j h c hc => by have := hb j h c hc; simp; omega
  have hat : ∀ j, (h : j < K.length) → rd (hts K []) (j : Int) = hOf (hts K []) K[j] 0 := fun j h => by have := hts_at K [] hb' j h; simpa using this
  have hsp := specOk_iff v K 0 [] rfl hb'
  simp only [List.length_nil, Nat.zero_add] at hsp
  have h0 : ∀ j : Nat, j < K.length → 0 ≤ rd (hts K []) (j : Int) := fun j hj => by rw [hat j hj]; exact (hOf_ge _ _ _).1
  have hall : v.all atomOk = true ↔ ∀ j : Nat, j < K.length → atomOk (rd_T89 v (j : Int)) = true := by
    rw [List.all_eq_true]
    constructor
    · intro h j hj
      rw [rdA_eq (by omega)]
      exact h _ (List.getElem_mem _)
    · intro h a ha
      obtain ⟨j, hj, rfl⟩ := List.getElem_of_mem ha
      have := h j (by omega)
      rwa [rdA_eq hj] at this
  rw [Bool.eq_iff_iff, hsp, Bool.and_eq_true, hall]
  constructor
  · intro h
    refine ⟨fun j hj => (h j hj).2.2, ?_⟩
    refine implOk_of v K (hts K []) hb (fun j hj c hc => ?_) (fun j hj => (h j hj).1) h0 v.length _ (by omega) (by simp [hK]) (fun j hj => ?_)
    · rw [hat j hj]
      exact (hOf_ge _ _ _).2.1 c hc
    · rw [rd_replicate]
      have := (h j hj).2.1
      omega
  · intro ⟨ha, hi⟩ j hj
    obtain ⟨a, b⟩ := implOk_to v K (hts K []) hb hd (fun j hj => by rw [hat j hj]; exact (hOf_ge _ _ _).2.2) v.length _ (by omega) (by simp [hK]) (fun j _ _ c _ => rd_replicate _ _) (fun j => by rw [rd_replicate]; omega) hi
    refine ⟨b j hj (by omega), ?_, ha j hj⟩
    have := a j (by omega)
    rw [rd_replicate] at this
    omega

end Go.Proofs.Ytgaibeckblmbbaa.Pure
