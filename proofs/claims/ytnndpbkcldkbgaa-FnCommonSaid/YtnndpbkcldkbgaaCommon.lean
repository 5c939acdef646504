/- spec.Common of the printed functions: the table of the lengths, the first pair, the list of pairs. -/
import Derived.Test.YtnndpbkcldkbgaaPSpecCommon
import Derived.Test.YtnndpbkcldkbgaaPSpecL7First
import Derived.Test.YtnndpbkcldkbgaaPSpecL7Table
import Derived.Test.YtnndpbkcldkbgaaLongest
namespace Go.Proofs.Ytnndpbkcldkbgaa.Pure
open Go Go.RowKit Go.Proofs.Ytnndpbkcldkbgaa.P Go.Proofs.YtnndpbkcldkbgaaW.PrintWords Go.Proofs.YtnndpbkcldkbgaaW.PrintLast
set_option linter.unusedVariables false
set_option linter.unusedSimpArgs false

theorem map_range_set {α : Type} (f : Nat → α) (n i : Nat) (v : α) : ((List.range n).map f).set i v = (List.range n).map (fun a => if a = i then v else f a) := by
  apply List.ext_getElem
  · simp
  · intro j h1 h2
    simp only [List.length_set, List.length_map, List.length_range] at h1
    rw [List.getElem_set, List.getElem_map, List.getElem_range]
    split
    · rename_i h
      rw [List.getElem_map, List.getElem_range, if_pos h.symm]
    · rename_i h
      rw [List.getElem_map, List.getElem_range, if_neg (fun e => h e.symm)]
theorem replicate_range {α : Type} (n : Nat) (v : α) : List.replicate n v = (List.range n).map (fun _ => v) := by
  apply List.ext_getElem <;> simp
theorem map_range_congr {α : Type} {f g : Nat → α} (n : Nat) (h : ∀ a, a < n → f a = g a) : (List.range n).map f = (List.range n).map g := by
  apply List.map_congr_left
  intro a ha
  exact h a (List.mem_range.1 ha)
theorem rdL4_map (f : Nat → List Int) {n a : Nat} (h : a < n) : rd_L4 ((List.range n).map f) (a : Int) = f a := by
  unfold rd_L4
  rw [Int.toNat_natCast, List.getD_eq_getElem?_getD, List.getElem?_map, List.getElem?_range h]
  rfl
theorem rd_map (f : Nat → Int) {n a : Nat} (h : a < n) : rd ((List.range n).map f) (a : Int) = f a := by
  unfold rd
  rw [Int.toNat_natCast, List.getD_eq_getElem?_getD, List.getElem?_map, List.getElem?_range h]
  rfl
section
variable (a b : List ByteArray)
/-- A row that is done behind e. -/
def prow (i e : Nat) : List Int := (List.range (b.length + 1)).map fun j => if e ≤ j then (lc a b i j : Int) else 0
/-- The table: rows behind i done, row i behind e. -/
def tabAt (i e : Nat) : List (List Int) := (List.range (a.length + 1)).map fun x => if i < x then prow a b x 0 else if x = i then prow a b i e else []
def tabBehind (d : Nat) : List (List Int) := (List.range (a.length + 1)).map fun x => if d ≤ x then prow a b x 0 else []
variable {a b}
theorem prow_len (i e : Nat) : (prow a b i e).length = b.length + 1 := by simp [prow]
theorem tabAt_len (i e : Nat) : (tabAt a b i e).length = a.length + 1 := by simp [tabAt]
theorem tabBehind_len (d : Nat) : (tabBehind a b d).length = a.length + 1 := by simp [tabBehind]
theorem tabAt_zero (i : Nat) : tabAt a b i 0 = tabBehind a b i := by
  apply map_range_congr
  intro x _
  by_cases h : i < x
  · rw [if_pos h, if_pos (by omega)]
  · rw [if_neg h]
    by_cases e : x = i
    · rw [if_pos e, if_pos (by omega), e]
    · rw [if_neg e, if_neg (by omega)]
theorem tab_start (i : Nat) (h : i < a.length) : (tabBehind a b (i + 1)).set i (List.replicate (b.length + 1) 0) = tabAt a b i b.length := by
  unfold tabBehind tabAt
  rw [map_range_set]
  apply map_range_congr
  intro x _
  by_cases e : x = i
  · rw [if_pos e, if_neg (by omega), if_pos e, replicate_range]
    apply map_range_congr
    intro j hj
    by_cases q : b.length ≤ j
    · rw [if_pos q, lc_out2 (by omega)]
      rfl
    · rw [if_neg q]
  · rw [if_neg e]
    by_cases q : i + 1 ≤ x
    · rw [if_pos q, if_pos (by omega)]
    · rw [if_neg q, if_neg (by omega), if_neg e]
theorem tab_first : (List.replicate (a.length + 1) ([] : List Int)).set a.length (List.replicate (b.length + 1) 0) = tabBehind a b a.length := by
  rw [replicate_range, map_range_set]
  apply map_range_congr
  intro x hx
  by_cases e : x = a.length
  · rw [if_pos e, if_pos (by omega), replicate_range, e]
    apply map_range_congr
    intro j _
    rw [if_pos (by omega), lc_out1 (by omega)]
    rfl
  · rw [if_neg e, if_neg (by omega)]
theorem prow_put {i e : Nat} {v : Int} (hv : (lc a b i e : Int) = v) : (prow a b i (e + 1)).set e v = prow a b i e := by
  unfold prow
  rw [map_range_set]
  apply map_range_congr
  intro j _
  by_cases h : j = e
  · rw [if_pos h, if_pos (by omega), h, hv]
  · rw [if_neg h]
    by_cases q : e + 1 ≤ j
    · rw [if_pos q, if_pos (by omega)]
    · rw [if_neg q, if_neg (by omega)]
theorem tab_put {i e : Nat} {v : Int} (hv : (lc a b i e : Int) = v) : (tabAt a b i (e + 1)).set i ((prow a b i (e + 1)).set e v) = tabAt a b i e := by
  rw [prow_put hv]
  unfold tabAt
  rw [map_range_set]
  apply map_range_congr
  intro x _
  by_cases h : x = i
  · rw [if_pos h, if_neg (by omega), if_pos h]
  · rw [if_neg h]
    by_cases q : i < x
    · rw [if_pos q, if_pos q]
    · rw [if_neg q, if_neg q, if_neg h, if_neg h]
theorem tab_row1 {i e : Nat} (h : i < a.length) : rd_L4 (tabAt a b i e) ((i + 1 : Nat) : Int) = prow a b (i + 1) 0 := by
  unfold tabAt
  rw [rdL4_map _ (by omega), if_pos (by omega)]
theorem tab_row0 {i e : Nat} (h : i < a.length) : rd_L4 (tabAt a b i e) (i : Int) = prow a b i e := by
  unfold tabAt
  rw [rdL4_map _ (by omega), if_neg (by omega), if_pos rfl]
theorem prow_rd {i e j : Nat} (h : j ≤ b.length) (he : e ≤ j) : rd (prow a b i e) (j : Int) = lc a b i j := by
  unfold prow
  rw [rd_map _ (by omega), if_pos he]
theorem tl_inj {x y : ByteArray} (h : x.toList = y.toList) : x = y := by
  rw [ByteArray.toList_eq, ByteArray.toList_eq] at h
  exact ba_ext h
theorem lc_int {i j : Nat} (h : i < a.length) (h' : j < b.length) : (lc a b i j : Int) =
    (if (lc a b i (j + 1) : Int) > (lc a b (i + 1) j : Int) then (if a[i].toList = b[j].toList then (if (lc a b (i + 1) (j + 1) : Int) + 1 > (lc a b i (j + 1) : Int) then (lc a b (i + 1) (j + 1) : Int) + 1 else (lc a b i (j + 1) : Int)) else (lc a b i (j + 1) : Int))
    else (if a[i].toList = b[j].toList then (if (lc a b (i + 1) (j + 1) : Int) + 1 > (lc a b (i + 1) j : Int) then (lc a b (i + 1) (j + 1) : Int) + 1 else (lc a b (i + 1) j : Int)) else (lc a b (i + 1) j : Int))) := by
  rw [lc_in h h']
  have e : (a[i] = b[j]) = (a[i].toList = b[j].toList) := propext ⟨fun h => by rw [h], tl_inj⟩
  simp only [e]
  by_cases q : lc a b i (j + 1) > lc a b (i + 1) j
  · rw [if_pos q, if_pos (show (lc a b i (j + 1) : Int) > (lc a b (i + 1) j : Int) by omega)]
    split
    · split <;> split <;> omega
    · rfl
  · rw [if_neg q, if_neg (show ¬ (lc a b i (j + 1) : Int) > (lc a b (i + 1) j : Int) by omega)]
    split
    · split <;> split <;> omega
    · rfl
variable (ha : a.length ≤ 1500) (hb : b.length ≤ 1500)
include ha hb
theorem l7Table_l1 {i : Nat} (hi : i < a.length) : ∀ (e : Nat) (R : List (List Int)), e ≤ b.length → Ev (fun k => spec_l7Table.l0 k a b (tabAt a b i 0) ((i : Int) - 1)) R → Ev (fun k => spec_l7Table.l1 k a b (tabAt a b i e) (i : Int) ((e : Int) - 1)) R
  | 0, R, _, hR => Ev.step (fun k => spec_l7Table.l1.eq_2 ..) (Ev.neg (by omega) (by
      rw [w64 (by omega) (by omega)]
      exact hR))
  | e + 1, R, he, hR => by
    have ih := l7Table_l1 hi e R (by omega) hR
    have hle : ∀ x y, (lc a b x y : Int) ≤ 1500 ∧ 0 ≤ (lc a b x y : Int) := fun x y => by
      have := (lc_le a b _ x y (Nat.le_refl _)).1
      omega
    have q1 := hle i (e + 1)
    have q2 := hle (i + 1) e
    have q3 := hle (i + 1) (e + 1)
    refine Ev.step (fun k => spec_l7Table.l1.eq_2 ..) ?_
    rw [show (((e + 1 : Nat) : Int) - 1) = (e : Int) from by omega, w64 (n := (i : Int) + 1) (by omega) (by omega), w64 (n := (e : Int) + 1) (by omega) (by omega), show (i : Int) + 1 = ((i + 1 : Nat) : Int) from rfl, show (e : Int) + 1 = ((e + 1 : Nat) : Int) from rfl, tab_row1 hi, tab_row0 hi, prow_len, prow_len, tabAt_len, prow_rd (show e + 1 ≤ b.length from he) (Nat.le_refl _), prow_rd (Nat.le_of_lt (show e < b.length from he)) (Nat.zero_le _), prow_rd (show e + 1 ≤ b.length from he) (Nat.zero_le _), Int.toNat_natCast, Int.toNat_natCast, rd_of hi, rd_of (show e < b.length from he), w64 (n := (lc a b (i + 1) (e + 1) : Int) + 1) (by omega) (by omega), w64 (n := (e : Int) - 1) (by omega) (by omega)]
    refine Ev.pos (by omega) (Ev.pos (by omega) (Ev.pos (by omega) (Ev.pos (by omega) (Ev.pos (by omega) (Ev.pos (by omega) (Ev.pos (by omega) (Ev.pos (by omega) (Ev.pos (by omega) ?_))))))))
    have hv := lc_int hi (show e < b.length from he)
    by_cases c1 : (lc a b i (e + 1) : Int) > (lc a b (i + 1) e : Int)
    · rw [if_pos c1] at hv
      refine Ev.pos c1 (Ev.pos (by omega) (Ev.pos (by omega) ?_))
      by_cases c2 : a[i].toList = b[e].toList
      · rw [if_pos c2] at hv
        refine Ev.pos c2 (Ev.pos (by omega) ?_)
        by_cases c3 : (lc a b (i + 1) (e + 1) : Int) + 1 > (lc a b i (e + 1) : Int)
        · rw [if_pos c3] at hv
          refine Ev.pos c3 (Ev.pos (by omega) ?_)
          rw [tab_put hv]
          exact ih
        · rw [if_neg c3] at hv
          refine Ev.neg c3 (Ev.pos (by omega) ?_)
          rw [tab_put hv]
          exact ih
      · rw [if_neg c2] at hv
        refine Ev.neg c2 (Ev.pos (by omega) ?_)
        rw [tab_put hv]
        exact ih
    · rw [if_neg c1] at hv
      refine Ev.neg c1 (Ev.pos (by omega) (Ev.pos (by omega) ?_))
      by_cases c2 : a[i].toList = b[e].toList
      · rw [if_pos c2] at hv
        refine Ev.pos c2 (Ev.pos (by omega) ?_)
        by_cases c3 : (lc a b (i + 1) (e + 1) : Int) + 1 > (lc a b (i + 1) e : Int)
        · rw [if_pos c3] at hv
          refine Ev.pos c3 (Ev.pos (by omega) ?_)
          rw [tab_put hv]
          exact ih
        · rw [if_neg c3] at hv
          refine Ev.neg c3 (Ev.pos (by omega) ?_)
          rw [tab_put hv]
          exact ih
      · rw [if_neg c2] at hv
        refine Ev.neg c2 (Ev.pos (by omega) ?_)
        rw [tab_put hv]
        exact ih
theorem l7Table_l0 : ∀ d : Nat, d ≤ a.length → Ev (fun k => spec_l7Table.l0 k a b (tabBehind a b d) ((d : Int) - 1)) (tabBehind a b 0)
  | 0, _ => Ev.step (fun k => spec_l7Table.l0.eq_2 ..) (Ev.neg (by omega) (Ev.now _))
  | d + 1, hd => by
    have ih := l7Table_l0 d (by omega)
    refine Ev.step (fun k => spec_l7Table.l0.eq_2 ..) ?_
    rw [show (((d + 1 : Nat) : Int) - 1) = (d : Int) from by omega, w64 (n := (b.length : Int) + 1) (by omega) (by omega), w64 (n := (b.length : Int) - 1) (by omega) (by omega), tabBehind_len, Int.toNat_natCast, show ((b.length : Int) + 1).toNat = b.length + 1 from by omega, tab_start d (by omega)]
    refine Ev.pos (by omega) (Ev.pos (by omega) (Ev.pos (by omega) (Ev.pos (by omega) (Ev.pos (by omega) ?_))))
    refine l7Table_l1 ha hb (show d < a.length from hd) b.length _ (Nat.le_refl _) ?_
    rw [tabAt_zero]
    exact ih
theorem l7Table_ev : Ev (fun k => spec_l7Table.f k a b) (tabBehind a b 0) := by
  unfold spec_l7Table.f
  rw [w64 (n := (a.length : Int) + 1) (by omega) (by omega), w64 (n := (b.length : Int) + 1) (by omega) (by omega), show ((a.length : Int) + 1).toNat = a.length + 1 from by omega, show ((b.length : Int) + 1).toNat = b.length + 1 from by omega, w64 (n := (a.length : Int) - 1) (by omega) (by omega)]
  refine Ev.pos (by omega) (Ev.pos (by omega) (Ev.sb (Ev.pos (by omega) (Ev.pos (by omega) (Ev.pos (by omega) (Ev.pos (by rw [List.length_replicate]; omega) ?_))))))
  rw [Int.toNat_natCast, tab_first]
  exact l7Table_l0 ha hb a.length (Nat.le_refl _)
omit ha hb in
theorem full_rd {i j : Nat} (hi : i ≤ a.length) (hj : j ≤ b.length) : rd (rd_L4 (tabBehind a b 0) (i : Int)) (j : Int) = lc a b i j ∧ (rd_L4 (tabBehind a b 0) (i : Int)).length = b.length + 1 := by
  unfold tabBehind
  rw [rdL4_map _ (by omega), if_pos (by omega), prow_rd hj (Nat.zero_le _), prow_len]
  exact ⟨rfl, rfl⟩
omit ha hb in
theorem rowFirst_step {n x d y : Nat} (hx : x < a.length) (hy : y < b.length) : rowFirst a b n x (d + 1) y = if a[x].toList = b[y].toList then (if lc a b (x + 1) (y + 1) + 1 = n then some y else rowFirst a b n x d (y + 1)) else rowFirst a b n x d (y + 1) := by
  show (if _ then _ else _) = _
  rw [rd_of hx, rd_of hy]
  by_cases h : a[x].toList = b[y].toList
  · rw [if_pos h]
    by_cases q : lc a b (x + 1) (y + 1) + 1 = n
    · rw [if_pos q, if_pos ⟨tl_inj h, q⟩]
    · rw [if_neg q, if_neg (fun z => q z.2)]
  · rw [if_neg h, if_neg (fun z => h (by rw [z.1]))]
theorem first_l1 {i j n : Nat} (hi : i ≤ a.length) (hj : j ≤ b.length) (hn : lc a b i j = n) (p : Nat × Nat) {x dx : Nat} (hx : x < a.length) (hnext : ∀ q, pairFirst a b n j dx (x + 1) = some q → Ev (fun k => spec_l7First.l0 k a b (tabBehind a b 0) (i : Int) (j : Int) ((x + 1 : Nat) : Int)) ((q.1 : Int), (q.2 : Int))) : ∀ (d y : Nat), y + d = b.length →
    (match rowFirst a b n x d y with
      | some z => some (x, z)
      | none => pairFirst a b n j dx (x + 1)) = some p → Ev (fun k => spec_l7First.l1 k a b (tabBehind a b 0) (i : Int) (j : Int) (x : Int) (y : Int)) ((p.1 : Int), (p.2 : Int))
  | 0, y, hd, hp => by
    refine Ev.step (fun k => spec_l7First.l1.eq_2 ..) (Ev.neg (by omega) ?_)
    rw [w64 (n := (x : Int) + 1) (by omega) (by omega)]
    exact hnext p hp
  | d + 1, y, hd, hp => by
    have hy : y < b.length := by omega
    have hle := (lc_le a b _ (x + 1) (y + 1) (Nat.le_refl _)).1
    refine Ev.step (fun k => spec_l7First.l1.eq_2 ..) ?_
    rw [w64 (n := (x : Int) + 1) (by omega) (by omega), w64 (n := (y : Int) + 1) (by omega) (by omega), show (x : Int) + 1 = ((x + 1 : Nat) : Int) from rfl, show (y : Int) + 1 = ((y + 1 : Nat) : Int) from rfl, (full_rd (show x + 1 ≤ a.length from hx) (show y + 1 ≤ b.length from hy)).1, (full_rd (show x + 1 ≤ a.length from hx) (show y + 1 ≤ b.length from hy)).2, (full_rd hi hj).1, (full_rd hi hj).2, tabBehind_len, rd_of hx, rd_of hy, w64 (n := (lc a b (x + 1) (y + 1) : Int) + 1) (by omega) (by omega)]
    rw [rowFirst_step hx hy] at hp
    refine Ev.pos (by omega) (Ev.pos (by omega) (Ev.pos (by omega) (Ev.pos (by omega) ?_)))
    by_cases c1 : a[x].toList = b[y].toList
    · rw [if_pos c1] at hp
      refine Ev.pos c1 (Ev.pos (by omega) (Ev.pos (by omega) (Ev.pos (by omega) (Ev.pos (by omega) (Ev.pos (by omega) (Ev.pos (by omega) (Ev.pos (by omega) (Ev.pos (by omega) ?_))))))))
      by_cases c2 : lc a b (x + 1) (y + 1) + 1 = n
      · rw [if_pos c2] at hp
        obtain rfl := Option.some.inj hp
        exact Ev.pos (by omega) (Ev.now _)
      · rw [if_neg c2] at hp
        exact Ev.neg (by omega) (first_l1 hi hj hn p hx hnext d (y + 1) (by omega) hp)
    · rw [if_neg c1] at hp
      exact Ev.neg c1 (first_l1 hi hj hn p hx hnext d (y + 1) (by omega) hp)
theorem first_l0 {i j n : Nat} (hi : i ≤ a.length) (hj : j ≤ b.length) (hn : lc a b i j = n) : ∀ (d x : Nat) (p : Nat × Nat), x + d = a.length → pairFirst a b n j d x = some p → Ev (fun k => spec_l7First.l0 k a b (tabBehind a b 0) (i : Int) (j : Int) (x : Int)) ((p.1 : Int), (p.2 : Int))
  | 0, x, p, hd, hp => by cases hp
  | d + 1, x, p, hd, hp => by
    refine Ev.step (fun k => spec_l7First.l0.eq_2 ..) (Ev.pos (by omega) ?_)
    exact first_l1 ha hb hi hj hn p (by omega) (fun q hq => first_l0 hi hj hn d (x + 1) q (by omega) hq) _ _ (by omega) hp
theorem common_l0 : ∀ (n i j : Nat) (out : List S69), i ≤ a.length → j ≤ b.length → lc a b i j = n → out.length + n ≤ 1500 → Ev (fun k => spec_Common.l0 k a b out (tabBehind a b 0) (i : Int) (j : Int)) (out ++ (pairs a b n i j).map fun p => (⟨(p.1 : Int), (p.2 : Int)⟩ : S69))
  | 0, i, j, out, hi, hj, hn, ho => by
    refine Ev.step (fun k => spec_Common.l0.eq_2 ..) ?_
    rw [(full_rd hi hj).1, (full_rd hi hj).2, tabBehind_len, hn, show pairs a b 0 i j = [] from by unfold pairs; rfl, List.map_nil, List.append_nil]
    exact Ev.pos (by omega) (Ev.pos (by omega) (Ev.pos (by omega) (Ev.pos (by omega) (Ev.neg (by omega) (Ev.now _)))))
  | n + 1, i, j, out, hi, hj, hn, ho => by
    obtain ⟨x, y, h1, h2, h3⟩ := lc_goes a b _ i j (Nat.le_refl _) (by omega)
    rw [hn] at h3
    obtain ⟨p, hp⟩ := pairFirst_there hj (a.length - i) i (by omega) ⟨x, y, h1, h2, h3⟩
    obtain ⟨g1, g2, gx, gy, _, g3⟩ := pairFirst_some _ _ _ (by omega) hp
    refine Ev.step (fun k => spec_Common.l0.eq_2 ..) ?_
    rw [(full_rd hi hj).1, (full_rd hi hj).2, tabBehind_len, hn]
    refine Ev.pos (by omega) (Ev.pos (by omega) (Ev.pos (by omega) (Ev.pos (by omega) (Ev.pos (by omega) (Ev.bind (a := ((p.1 : Int), (p.2 : Int))) ?_ ?_)))))
    · unfold spec_l7First.f
      exact first_l0 ha hb hi hj hn _ _ _ (by omega) hp
    · refine Ev.pos (by omega) ?_
      rw [w64 (by omega) (by omega), w64 (by omega) (by omega), show pairs a b (n + 1) i j = (match pairFirst a b (n + 1) j (a.length - i) i with
        | some p => p :: pairs a b n (p.1 + 1) (p.2 + 1)
        | none => []) from rfl, hp]
      have ih := common_l0 n (p.1 + 1) (p.2 + 1) (out ++ [⟨(p.1 : Int), (p.2 : Int)⟩]) (by omega) (by omega) (by omega) (by rw [List.length_append, List.length_singleton]; omega)
      rw [List.append_assoc] at ih
      exact ih
end
/-- What both compute. -/
def common (a b : List ByteArray) : List S69 := if a.length > 1500 ∨ b.length > 1500 then [] else (pairs a b (lc a b 0 0) 0 0).map fun p => ⟨(p.1 : Int), (p.2 : Int)⟩
theorem spec_Common_ev (a b : List ByteArray) : Ev (fun k => spec_Common.f k a b) (common a b) := by
  unfold spec_Common.f common
  refine Ev.sb ?_
  by_cases h1 : a.length > 1500
  · rw [if_pos (.inl h1)]
    exact Ev.pos (by omega) (Ev.step (fun k => spec_Common.j0.eq_2 ..) (Ev.pos rfl (Ev.now _)))
  · refine Ev.neg (by omega) (Ev.step (fun k => spec_Common.j0.eq_2 ..) ?_)
    by_cases h2 : b.length > 1500
    · rw [if_pos (.inr h2)]
      exact Ev.pos (by simp; omega) (Ev.now _)
    · rw [if_neg (by omega)]
      refine Ev.neg (by simp; omega) (Ev.bind (l7Table_ev (by omega) (by omega)) ?_)
      have := common_l0 (a := a) (b := b) (by omega) (by omega) _ 0 0 [] (Nat.zero_le _) (Nat.zero_le _) rfl (by have := (lc_le a b _ 0 0 (Nat.le_refl _)).1; simp; omega)
      exact this
theorem common_len (a b : List ByteArray) : (common a b).length ≤ 1500 := by
  unfold common
  split
  · simp
  · rename_i h
    rw [List.length_map]
    have key : ∀ n i j, (pairs a b n i j).length ≤ n := by
      intro n
      induction n with
      | zero => intro i j; unfold pairs; simp
      | succ n ih =>
        intro i j
        show (match pairFirst a b (n + 1) j (a.length - i) i with
          | some p => p :: pairs a b n (p.1 + 1) (p.2 + 1)
          | none => []).length ≤ n + 1
        split
        · rw [List.length_cons]
          have := ih (‹Nat × Nat›.1 + 1) (‹Nat × Nat›.2 + 1)
          omega
        · simp
    have := key (lc a b 0 0) 0 0
    have := (lc_le a b _ 0 0 (Nat.le_refl _)).1
    omega

end Go.Proofs.Ytnndpbkcldkbgaa.Pure
