/- Globs against paths: by trying (the reference), by rows of flags (the program). Conditions: sizes. -/
import Derived.Test.YtgaibeckblmbbaaDoorPImplMatch
import Derived.Test.YtgaibeckblmbbaaDoorPSpecMatch
import Derived.Test.YtgaibeckblmbbaaDoorPaths
namespace Go.Proofs.YtgaibeckblmbbaaDoor.Pure
open Go Go.RowKit Go.Proofs.YtgaibeckblmbbaaDoor.P Go.Proofs.YtgaibeckblmbbaaDoorW.PrintWords Go.Proofs.YtgaibeckblmbbaaDoorW.PrintLast
set_option linter.unusedVariables false
set_option linter.unusedSimpArgs false

/-! ### one part -/
def wild : List UInt8 → List UInt8 → Bool
  | [], p => p.isEmpty
  | g :: gs, [] => if g = 42 then wild gs [] else false
  | g :: gs, b :: p => if g = 42 then wild gs (b :: p) || wild (g :: gs) p else (g == 63 || g == b) && wild gs p
termination_by g p => g.length + p.length

theorem tl_extract (s : ByteArray) (b : UInt8) (r : List UInt8) (h : s.data.toList = b :: r) : (s.extract 1 s.size).data.toList = r := by
  rw [extract_data, ← size_toList, List.take_length, h]
  rfl
theorem bt_head (s : ByteArray) (b : UInt8) (r : List UInt8) (h : s.data.toList = b :: r) : bt s 0 = (b.toNat : Int) := by
  have := bt_getD s 0
  rw [h] at this
  simpa using this
theorem toList_eq (s : ByteArray) : s.toList = s.data.toList := ByteArray.toList_eq s
theorem u8_eq (a b : UInt8) : ((a.toNat : Int) = (b.toNat : Int)) ↔ a = b := ⟨fun h => UInt8.toNat_inj.1 (by omega), fun h => by rw [h]⟩
theorem spec_bytes_ev : ∀ (n : Nat) (g p : ByteArray), g.size + p.size ≤ n → Ev (fun k => spec_l4Bytes.f k g p) (wild g.data.toList p.data.toList) := by
  intro n
  induction n with
  | zero =>
    intro g p hn
    have hg : g.data.toList = [] := List.length_eq_zero_iff.1 (by rw [size_toList]; omega)
    have hp : p.data.toList = [] := List.length_eq_zero_iff.1 (by rw [size_toList]; omega)
    refine Ev.step (fun k => spec_l4Bytes.f.eq_2 ..) (Ev.pos (by rw [toList_eq, hg]) ?_)
    rw [hg, wild, toList_eq, hp]
    exact Ev.now _
  | succ n ih =>
    intro g p hn
    have gz := size_toList g
    have pz := size_toList p
    cases hg : g.data.toList with
    | nil =>
      refine Ev.step (fun k => spec_l4Bytes.f.eq_2 ..) (Ev.pos (by rw [toList_eq, hg]) ?_)
      rw [wild, toList_eq]
      cases p.data.toList <;> exact Ev.now _
    | cons a gs =>
      rw [hg, List.length_cons] at gz
      have hge := tl_extract g a gs hg
      have hgz : (g.extract 1 g.size).size + 1 = g.size := by rw [← size_toList, hge]; omega
      refine Ev.step (fun k => spec_l4Bytes.f.eq_2 ..) (Ev.neg (by rw [toList_eq, hg]; simp) (Ev.pos (by omega) ?_))
      rw [bt_head g a gs hg]
      have r42 : ((a.toNat : Int) = 42) ↔ a = 42 := u8_eq a 42
      have r63 : ((a.toNat : Int) = 63) ↔ a = 63 := u8_eq a 63
      cases hp : p.data.toList with
      | nil =>
        rw [wild]
        by_cases h : a = 42
        · rw [if_pos h]
          have := ih (g.extract 1 g.size) p (by omega)
          rw [hge, hp] at this
          refine Ev.pos (r42.2 h) (Ev.pos (by omega) (Ev.bind this ?_))
          by_cases hw : wild gs [] = true
          · rw [hw]
            exact Ev.pos rfl (Ev.now _)
          · rw [Bool.eq_false_iff.2 hw]
            exact Ev.neg (by simp) (Ev.pos (by rw [toList_eq, hp]) (Ev.now _))
        · rw [if_neg h]
          exact Ev.neg (fun e => h (r42.1 e)) (Ev.pos (by rw [toList_eq, hp]) (Ev.now _))
      | cons b ps =>
        rw [hp, List.length_cons] at pz
        have hpe := tl_extract p b ps hp
        have hpz : (p.extract 1 p.size).size + 1 = p.size := by rw [← size_toList, hpe]; omega
        have hpn : ¬ p.toList = ([] : List UInt8) := by rw [toList_eq, hp]; simp
        rw [wild]
        by_cases h : a = 42
        · rw [if_pos h]
          have i1 := ih (g.extract 1 g.size) p (by omega)
          rw [hge, hp] at i1
          have i2 := ih g (p.extract 1 p.size) (by omega)
          rw [hg, hpe] at i2
          refine Ev.pos (r42.2 h) (Ev.pos (by omega) (Ev.bind i1 ?_))
          by_cases hw : wild gs (b :: ps) = true
          · rw [hw, Bool.true_or]
            exact Ev.pos rfl (Ev.now _)
          · rw [Bool.eq_false_iff.2 hw, Bool.false_or]
            exact Ev.neg (by simp) (Ev.neg hpn (Ev.pos (by omega) (Ev.bind i2 (Ev.now _))))
        · rw [if_neg h]
          have i3 := ih (g.extract 1 g.size) (p.extract 1 p.size) (by omega)
          rw [hge, hpe] at i3
          refine Ev.neg (fun e => h (r42.1 e)) (Ev.neg hpn ?_)
          by_cases hq : a = 63
          · rw [show ((a == 63) || (a == b)) = true from by simp [hq], Bool.true_and]
            exact Ev.pos (r63.2 hq) (Ev.pos (by omega) (Ev.pos (by omega) (Ev.bind i3 (Ev.now _))))
          · refine Ev.neg (fun e => hq (r63.1 e)) (Ev.pos (by omega) ?_)
            rw [bt_head p b ps hp]
            by_cases hb : a = b
            · rw [show ((a == 63) || (a == b)) = true from by simp [hb], Bool.true_and]
              exact Ev.pos ((u8_eq a b).2 hb) (Ev.pos (by omega) (Ev.pos (by omega) (Ev.bind i3 (Ev.now _))))
            · rw [show ((a == 63) || (a == b)) = false from by simp [hq, hb], Bool.false_and]
              exact Ev.neg (fun e => hb ((u8_eq a b).1 e)) (Ev.now _)

/-! ### the rows of flags -/
theorem wild_star (gs : List UInt8) : ∀ p, wild (42 :: gs) p = true ↔ ∃ j, j ≤ p.length ∧ wild gs (p.drop j) = true
  | [] => by
    rw [wild, if_pos rfl]
    exact ⟨fun h => ⟨0, by simp, h⟩, fun ⟨j, _, h⟩ => by simpa using h⟩
  | b :: p => by
    rw [wild, if_pos rfl, Bool.or_eq_true, wild_star gs p]
    constructor
    · rintro (h | ⟨j, hj, h⟩)
      · exact ⟨0, by simp, h⟩
      · exact ⟨j + 1, by simp; omega, by simpa using h⟩
    · rintro ⟨j, hj, h⟩
      cases j with
      | zero => exact .inl (by simpa using h)
      | succ j => exact .inr ⟨j, by simp at hj; omega, by simpa using h⟩
def rdb (r : List Bool) (j : Nat) : Bool := r.getD j false
theorem rdOf_b (r : List Bool) (j : Nat) : rdOf false r (j : Int) = rdb r j := by
  unfold rdOf rdb
  rw [Int.toNat_natCast]
/-- Some place of the row is on from where the rest fits. -/
def Open (row : List Bool) (gs p : List UInt8) : Prop := ∃ j, j ≤ p.length ∧ rdb row j = true ∧ wild gs (p.drop j) = true
theorem rdb_set (r : List Bool) (i j : Nat) (x : Bool) (h : i < r.length) : rdb (r.set i x) j = if j = i then x else rdb r j := by
  unfold rdb
  rw [List.getD_eq_getElem?_getD, List.getD_eq_getElem?_getD]
  by_cases e : j = i
  · subst e
    rw [List.getElem?_set_self h, if_pos rfl]
    rfl
  · rw [List.getElem?_set_ne (fun e' => e e'.symm), if_neg e]
theorem rdb_replicate (n j : Nat) : rdb (List.replicate n false) j = false := by
  unfold rdb
  rw [List.getD_eq_getElem?_getD, List.getElem?_replicate]
  split <;> rfl
/-- A star: on behind whatever was on. -/
theorem open_star (row next : List Bool) (gs p : List UInt8) (h : ∀ j, j ≤ p.length → (rdb next j = true ↔ ∃ i, i ≤ j ∧ rdb row i = true)) : Open next gs p ↔ Open row (42 :: gs) p := by
  constructor
  · rintro ⟨j, hj, h1, h2⟩
    obtain ⟨i, hi, hr⟩ := (h j hj).1 h1
    refine ⟨i, by omega, hr, (wild_star gs _).2 ⟨j - i, by rw [List.length_drop]; omega, ?_⟩⟩
    rw [List.drop_drop, show i + (j - i) = j from by omega]
    exact h2
  · rintro ⟨i, hi, hr, h2⟩
    obtain ⟨d, hd, h3⟩ := (wild_star gs _).1 h2
    rw [List.length_drop] at hd
    rw [List.drop_drop] at h3
    exact ⟨i + d, by omega, (h _ (by omega)).2 ⟨i, by omega, hr⟩, h3⟩
/-- Another byte: on one place on. -/
theorem open_byte (row next : List Bool) (g : UInt8) (hg : g ≠ 42) (gs p : List UInt8) (h0 : rdb next 0 = false) (h : ∀ j, (hj : j < p.length) → rdb next (j + 1) = (rdb row j && (g == 63 || g == p[j]))) : Open next gs p ↔ Open row (g :: gs) p := by
  constructor
  · rintro ⟨j, hj, h1, h2⟩
    cases j with
    | zero => rw [h0] at h1; cases h1
    | succ j =>
      rw [h j (by omega), Bool.and_eq_true] at h1
      refine ⟨j, by omega, h1.1, ?_⟩
      rw [List.drop_eq_getElem_cons (by omega), wild, if_neg hg, h1.2, Bool.true_and]
      exact h2
  · rintro ⟨j, hj, h1, h2⟩
    rcases Nat.lt_or_ge j p.length with hlt | hge
    · rw [List.drop_eq_getElem_cons hlt, wild, if_neg hg, Bool.and_eq_true] at h2
      exact ⟨j + 1, by omega, by rw [h j hlt, h1, h2.1]; rfl, h2.2⟩
    · rw [List.drop_of_length_le hge, wild, if_neg hg] at h2
      cases h2
theorem open_end (row : List Bool) (p : List UInt8) : Open row [] p ↔ rdb row p.length = true := by
  constructor
  · rintro ⟨j, hj, h1, h2⟩
    rw [wild, List.isEmpty_iff, List.drop_eq_nil_iff] at h2
    rwa [show p.length = j from by omega]
  · intro h
    exact ⟨p.length, Nat.le_refl _, h, by rw [List.drop_length, wild]; rfl⟩
theorem open_start (row : List Bool) (g p : List UInt8) (h : ∀ j, rdb row j = true ↔ j = 0) : Open row g p ↔ wild g p = true := by
  constructor
  · rintro ⟨j, hj, h1, h2⟩
    obtain rfl := (h j).1 h1
    simpa using h2
  · intro hw
    exact ⟨0, by simp, (h 0).2 rfl, by simpa using hw⟩

theorem impl_PM1 (g p : ByteArray) (hp : p.size ≤ 1000) (i : Nat) (row : List Bool) (hr : row.length = p.size + 1) (r : Bool) : ∀ (d j : Nat) (next : List Bool) (on : Bool), j + d = p.size + 1 → next.length = p.size + 1 → (on = true ↔ ∃ i, i < j ∧ rdb row i = true) → (∀ m, m < j → (rdb next m = true ↔ ∃ i, i ≤ m ∧ rdb row i = true)) →
    (∀ next', next'.length = p.size + 1 → (∀ m, m ≤ p.size → (rdb next' m = true ↔ ∃ i, i ≤ m ∧ rdb row i = true)) → Ev (fun k => impl_partMatch.l0 k g p next' (wrap64 ((i : Int) + 1))) r) →
    Ev (fun k => impl_partMatch.l1 k g p row (i : Int) next on (row.length : Int) (j : Int)) r
  | 0, j, next, on, hd, hn, hon, ha, hk => Ev.step (fun k => impl_partMatch.l1.eq_2 ..) (Ev.neg (by omega) (hk next hn (fun m hm => ha m (by omega))))
  | d + 1, j, next, on, hd, hn, hon, ha, hk => by
    have hw : wrap64 ((j : Int) + 1) = ((j + 1 : Nat) : Int) := by rw [w64 (by omega) (by omega)]; omega
    have next_ok : ∀ b : Bool, (b = true ↔ ∃ i, i < j + 1 ∧ rdb row i = true) → Ev (fun k => impl_partMatch.l1 k g p row (i : Int) (next.set j b) b (row.length : Int) ((j + 1 : Nat) : Int)) r := by
      intro b hb
      refine impl_PM1 g p hp i row hr r d (j + 1) _ b (by omega) (by rw [List.length_set]; exact hn) hb (fun m hm => ?_) hk
      rw [rdb_set next j m b (by omega)]
      split
      · rename_i e
        subst e
        rw [hb]
        exact ⟨fun ⟨i, hi, h⟩ => ⟨i, by omega, h⟩, fun ⟨i, hi, h⟩ => ⟨i, by omega, h⟩⟩
      · exact ha m (by omega)
    refine Ev.step (fun k => impl_partMatch.l1.eq_2 ..) (Ev.pos (by omega) ?_)
    rw [hw, Int.toNat_natCast]
    by_cases h : on = true
    · refine Ev.pos h (Ev.pos (by omega) (Ev.pos (by omega) (next_ok true ⟨fun _ => ?_, fun _ => rfl⟩)))
      obtain ⟨i, hi, hx⟩ := hon.1 h
      exact ⟨i, by omega, hx⟩
    · refine Ev.neg h (Ev.pos (by omega) (Ev.pos (by omega) (Ev.pos (by omega) ?_)))
      rw [rdOf_b]
      refine next_ok _ ⟨fun hx => ⟨j, by omega, hx⟩, fun ⟨i, hi, hx⟩ => ?_⟩
      rcases Nat.lt_or_ge i j with hij | hij
      · exact absurd (hon.2 ⟨i, hij, hx⟩) h
      · obtain rfl : i = j := by omega
        exact hx
theorem impl_PM2 (g p : ByteArray) (hp : p.size ≤ 1000) (i : Nat) (c : UInt8) (hi : i < g.size) (hc : Aside0 (bt g (i : Int) = (c.toNat : Int))) (row : List Bool) (hr : row.length = p.size + 1) (r : Bool) : ∀ (d j : Nat) (next : List Bool), j + d = p.size → next.length = p.size + 1 → rdb next 0 = false → (∀ m, (h : m < p.data.toList.length) → m < j → rdb next (m + 1) = (rdb row m && (c == 63 || c == p.data.toList[m]))) →
    (∀ next', next'.length = p.size + 1 → rdb next' 0 = false → (∀ m, (h : m < p.data.toList.length) → rdb next' (m + 1) = (rdb row m && (c == 63 || c == p.data.toList[m]))) → Ev (fun k => impl_partMatch.l0 k g p next' (wrap64 ((i : Int) + 1))) r) →
    Ev (fun k => impl_partMatch.l2 k g p row (i : Int) next (j : Int)) r
  | 0, j, next, hd, hn, h0, ha, hk => Ev.step (fun k => impl_partMatch.l2.eq_2 ..) (Ev.neg (by omega) (hk next hn h0 (fun m hm => ha m hm (by rw [size_toList] at hm; omega))))
  | d + 1, j, next, hd, hn, h0, ha, hk => by
    have hj : j < p.data.toList.length := by rw [size_toList]; omega
    have hw : wrap64 ((j : Int) + 1) = ((j + 1 : Nat) : Int) := by rw [w64 (by omega) (by omega)]; omega
    have hb : bt p (j : Int) = (p.data.toList[j].toNat : Int) := by
      rw [bt_getD, List.getD_eq_getElem?_getD, List.getElem?_eq_getElem hj]
      rfl
    have next_ok : ∀ b : Bool, b = (rdb row j && (c == 63 || c == p.data.toList[j])) → Ev (fun k => impl_partMatch.l2 k g p row (i : Int) (next.set (j + 1) b) ((j + 1 : Nat) : Int)) r := by
      intro b hb'
      refine impl_PM2 g p hp i c hi hc row hr r d (j + 1) _ (by omega) (by rw [List.length_set]; exact hn) ?_ (fun m hm hmj => ?_) hk
      · rw [rdb_set next (j + 1) 0 b (by omega), if_neg (by omega)]
        exact h0
      · rw [rdb_set next (j + 1) (m + 1) b (by omega)]
        split
        · rename_i e
          obtain rfl : m = j := by omega
          exact hb'
        · exact ha m hm (by omega)
    refine Ev.step (fun k => impl_partMatch.l2.eq_2 ..) (Ev.pos (by omega) (Ev.pos (by omega) (Ev.pos (by omega) ?_)))
    rw [rdOf_b, hw, Int.toNat_natCast, hc.out, hb]
    by_cases hx : rdb row j = true
    · refine Ev.pos hx (Ev.pos (by omega) (Ev.pos (by omega) ?_))
      by_cases hq : c = 63
      · exact Ev.pos ((u8_eq c 63).2 hq) (Ev.pos (by omega) (Ev.pos (by omega) (next_ok true (by simp [hx, hq]))))
      · refine Ev.neg (fun e => hq ((u8_eq c 63).1 e)) (Ev.pos (by omega) (Ev.pos (by omega) (next_ok _ ?_)))
        rw [hx, Bool.true_and, show (c == 63) = false from by simp [hq], Bool.false_or]
        by_cases he : c = p.data.toList[j]
        · rw [← he]
          simp
        · rw [show (c == p.data.toList[j]) = false from beq_eq_false_iff_ne.2 he]
          exact beq_eq_false_iff_ne.2 (fun e => he ((u8_eq _ _).1 e))
    · exact Ev.neg hx (Ev.pos (by omega) (Ev.pos (by omega) (next_ok false (by simp [Bool.eq_false_iff.2 hx]))))
theorem impl_PM0 (g p : ByteArray) (hg : g.size ≤ 1000) (hp : p.size ≤ 1000) : ∀ (d i : Nat) (row : List Bool), i + d = g.size → row.length = p.size + 1 → ∀ r : Bool, (r = true ↔ Open row (g.data.toList.drop i) p.data.toList) → Ev (fun k => impl_partMatch.l0 k g p row (i : Int)) r
  | 0, i, row, hd, hr, r, ho => by
    refine Ev.step (fun k => impl_partMatch.l0.eq_2 ..) (Ev.neg (by omega) (Ev.pos (by omega) (Ev.pos (by omega) ?_)))
    rw [List.drop_of_length_le (by rw [size_toList]; omega), open_end, size_toList] at ho
    rw [rdOf_b, show rdb row p.size = r from Bool.eq_iff_iff.2 ho.symm]
    exact Ev.now _
  | d + 1, i, row, hd, hr, r, ho => by
    have hi : i < g.data.toList.length := by rw [size_toList]; omega
    have hb : bt g (i : Int) = (g.data.toList[i].toNat : Int) := by
      rw [bt_getD, List.getD_eq_getElem?_getD, List.getElem?_eq_getElem hi]
      rfl
    have hw : wrap64 ((i : Int) + 1) = ((i + 1 : Nat) : Int) := by rw [w64 (by omega) (by omega)]; omega
    rw [List.drop_eq_getElem_cons hi] at ho
    refine Ev.step (fun k => impl_partMatch.l0.eq_2 ..) (Ev.pos (by omega) ?_)
    rw [w64 (n := (p.size : Int) + 1) (by omega) (by omega), show ((p.size : Int) + 1).toNat = p.size + 1 from by omega]
    refine Ev.pos (by omega) (Ev.pos (by omega) (Ev.sb (Ev.pos (by omega) ?_)))
    by_cases h : g.data.toList[i] = 42
    · refine Ev.pos (by rw [hb, h]; rfl) (impl_PM1 g p hp i row hr r (p.size + 1) 0 _ false (by omega) (by simp) (by simp) (fun m hm => by omega) (fun next' hn' hx => ?_))
      rw [hw]
      refine impl_PM0 g p hg hp d (i + 1) next' (by omega) hn' r ?_
      rw [ho, h]
      exact (open_star row next' _ _ (fun j hj => hx j (by rw [size_toList] at hj; exact hj))).symm
    · refine Ev.neg (fun e => h ((u8_eq _ 42).1 (by rw [← hb]; exact e))) (impl_PM2 g p hp i g.data.toList[i] (by omega) ⟨hb⟩ row hr r p.size 0 _ (by omega) (by simp) (rdb_replicate _ _) (fun m hm hm0 => by omega) (fun next' hn' h0' hx => ?_))
      rw [hw]
      refine impl_PM0 g p hg hp d (i + 1) next' (by omega) hn' r ?_
      rw [ho]
      exact (open_byte row next' _ h _ _ h0' (fun j hj => hx j hj)).symm
theorem impl_bytes_ev (g p : ByteArray) (hg : g.size ≤ 1000) (hp : p.size ≤ 1000) : Ev (fun k => impl_partMatch.f k g p) (wild g.data.toList p.data.toList) := by
  unfold impl_partMatch.f
  rw [w64 (n := (p.size : Int) + 1) (by omega) (by omega), show ((p.size : Int) + 1).toNat = p.size + 1 from by omega]
  refine Ev.pos (by omega) (Ev.pos (by omega) (Ev.sb (Ev.pos (by simp) ?_)))
  refine impl_PM0 g p hg hp g.size 0 _ (by omega) (by simp) _ ?_
  rw [List.drop_zero]
  refine (open_start _ _ _ (fun j => ?_)).symm
  rw [show (0 : Int).toNat = 0 from rfl, rdb_set (List.replicate (p.size + 1) false) 0 j true (by simp), rdb_replicate]
  by_cases h : j = 0
  · simp [h]
  · simp [h]

end Go.Proofs.YtgaibeckblmbbaaDoor.Pure
