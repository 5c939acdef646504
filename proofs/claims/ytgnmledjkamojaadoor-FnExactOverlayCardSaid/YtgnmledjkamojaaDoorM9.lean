/- Several texts of this claim in one file: YtgnmledjkamojaaDoorSetE, YtgnmledjkamojaaDoorOverlay, YtgnmledjkamojaaDoorPureFnExactOverlay. -/
import Derived.Test.YtgnmledjkamojaaDoorM7
import Derived.Test.YtgnmledjkamojaaDoorM5
import Derived.Test.YtgnmledjkamojaaDoorM6
import Derived.Test.YtgnmledjkamojaaDoorM8
import Derived.Test.YtgnmledjkamojaaDoorM3
namespace Go.Proofs.YtgnmledjkamojaaDoor.Pure
open Go Go.RowKit Go.Proofs.YtgnmledjkamojaaDoor.P Go.Proofs.YtgnmledjkamojaaDoorW.PrintWords Go.Proofs.YtgnmledjkamojaaDoorW.PrintLast
set_option linter.unusedVariables false
set_option linter.unusedSimpArgs false

/-- The entry lies elsewhere. -/
def notAt (p : ByteArray) (z : Entry) : Bool := !decide (z.f0.toList = p.toList)
def setR (e : Entry) : List Entry → List Entry
  | [] => [e]
  | y :: r => if less y.f0.toList e.f0.toList = true then y :: setR e r else e :: (y :: r).filter (notAt e.f0)
theorem spec_S_done (l : List Entry) (hl : l.length ≤ 1000) (p t : ByteArray) (u : Bool) : ∀ (d i : Nat) (acc : List Entry), i + d = l.length → acc.length ≤ i + 1 → Ev (fun k => spec_l5Set.l0 k true (i : Int) l p t u acc) (acc ++ (l.drop i).filter (notAt p))
  | 0, i, acc, hd, ha => by
    rw [List.drop_of_length_le (by omega)]
    refine Ev.step (fun k => spec_l5Set.l0.eq_2 ..) (Ev.neg (by omega) (Ev.pos rfl ?_))
    show Ev _ (acc ++ [])
    rw [List.append_nil]
    exact Ev.now _
  | d + 1, i, acc, hd, ha => by
    have hi : i < l.length := by omega
    refine Ev.step (fun k => spec_l5Set.l0.eq_2 ..) (Ev.pos (by omega) (Ev.pos rfl (Ev.step (fun k => spec_l5Set.j1.eq_2 ..) (Ev.neg (by simp) (Ev.pos (by omega) (Ev.pos (by omega) ?_))))))
    rw [rdE_eq hi, w64 (n := (i : Int) + 1) (by omega) (by omega), show (i : Int) + 1 = ((i + 1 : Nat) : Int) from by omega, List.drop_eq_getElem_cons hi]
    by_cases h : l[i].f0.toList = p.toList
    · rw [List.filter_cons_of_neg (by simp [notAt, h])]
      exact Ev.pos h (spec_S_done l hl p t u d (i + 1) acc (by omega) (by omega))
    · rw [List.filter_cons_of_pos (by simp [notAt, h]), List.append_cons acc l[i] (List.filter (notAt p) (l.drop (i + 1)))]
      exact Ev.neg h (Ev.pos (by omega) (spec_S_done l hl p t u d (i + 1) (acc ++ [l[i]]) (by omega) (by rw [List.length_append, List.length_singleton]; omega)))
theorem spec_S_open (l : List Entry) (hl : l.length ≤ 1000) (p t : ByteArray) (u : Bool) : ∀ (d i : Nat) (acc : List Entry), i + d = l.length → acc.length ≤ i → Ev (fun k => spec_l5Set.l0 k false (i : Int) l p t u acc) (acc ++ setR ⟨p, t, u⟩ (l.drop i))
  | 0, i, acc, hd, ha => by
    rw [List.drop_of_length_le (by omega)]
    exact Ev.step (fun k => spec_l5Set.l0.eq_2 ..) (Ev.neg (by omega) (Ev.neg (by simp) (Ev.pos (by omega) (Ev.now _))))
  | d + 1, i, acc, hd, ha => by
    have hi : i < l.length := by omega
    refine Ev.step (fun k => spec_l5Set.l0.eq_2 ..) (Ev.pos (by omega) (Ev.neg (by simp) (Ev.pos (by omega) (Ev.step (fun k => spec_l5Set.j1.eq_2 ..) ?_))))
    rw [rdE_eq hi, w64 (n := (i : Int) + 1) (by omega) (by omega), show (i : Int) + 1 = ((i + 1 : Nat) : Int) from by omega, List.drop_eq_getElem_cons hi]
    by_cases hlt : Op.bytesLess l[i].f0.toList p.toList = true
    · have h : ¬ l[i].f0.toList = p.toList := fun e => by
        rw [e] at hlt
        have := less_irrefl p.toList
        unfold less at this
        rw [this] at hlt
        cases hlt
      have e : setR ⟨p, t, u⟩ (l[i] :: l.drop (i + 1)) = l[i] :: setR ⟨p, t, u⟩ (l.drop (i + 1)) := by
        conv => lhs; unfold setR
        exact if_pos hlt
      rw [e, List.append_cons acc l[i] (setR ⟨p, t, u⟩ (l.drop (i + 1)))]
      exact Ev.neg (by rw [hlt]; simp) (Ev.pos (by omega) (Ev.pos (by omega) (Ev.neg h (Ev.pos (by omega) (spec_S_open l hl p t u d (i + 1) (acc ++ [l[i]]) (by omega) (by rw [List.length_append, List.length_singleton]; omega))))))
    · have e : setR ⟨p, t, u⟩ (l[i] :: l.drop (i + 1)) = ⟨p, t, u⟩ :: (l[i] :: l.drop (i + 1)).filter (notAt p) := by
        conv => lhs; unfold setR
        exact if_neg hlt
      rw [e]
      refine Ev.pos (by rw [Bool.eq_false_iff.2 hlt]; rfl) (Ev.pos (by omega) (Ev.sb (Ev.pos (by omega) (Ev.pos (by omega) ?_))))
      by_cases h : l[i].f0.toList = p.toList
      · rw [List.filter_cons_of_neg (by simp [notAt, h]), List.append_cons acc ⟨p, t, u⟩ (List.filter (notAt p) (l.drop (i + 1)))]
        exact Ev.pos h (spec_S_done l hl p t u d (i + 1) (acc ++ [⟨p, t, u⟩]) (by omega) (by rw [List.length_append, List.length_singleton]; omega))
      · rw [List.filter_cons_of_pos (by simp [notAt, h]), List.append_cons acc ⟨p, t, u⟩ (l[i] :: List.filter (notAt p) (l.drop (i + 1))), List.append_cons (acc ++ [(⟨p, t, u⟩ : Entry)]) l[i] (List.filter (notAt p) (l.drop (i + 1)))]
        exact Ev.neg h (Ev.pos (by rw [List.length_append, List.length_singleton]; omega) (spec_S_done l hl p t u d (i + 1) (acc ++ [⟨p, t, u⟩] ++ [l[i]]) (by omega) (by simp only [List.length_append, List.length_singleton]; omega)))
theorem spec_set_ev (l : List Entry) (hl : l.length ≤ 1000) (p t : ByteArray) (u : Bool) : Ev (fun k => spec_l5Set.f k l p t u) (setR ⟨p, t, u⟩ l) := by
  unfold spec_l5Set.f
  exact spec_S_open l hl p t u l.length 0 [] (by omega) (by simp)
theorem notAt_iff {p : ByteArray} {z : Entry} : notAt p z = true ↔ z.f0.toList ≠ p.toList := by
  unfold notAt
  simp
theorem setR_len (e : Entry) : ∀ l, (setR e l).length ≤ l.length + 1
  | [] => by simp [setR]
  | y :: r => by
    unfold setR
    split
    · have := setR_len e r
      simp only [List.length_cons]
      omega
    · have := List.length_filter_le (notAt e.f0) (y :: r)
      simp only [List.length_cons] at this ⊢
      omega
theorem setR_mem (e : Entry) : ∀ (l : List Entry) (x : Entry), x ∈ setR e l ↔ x = e ∨ (x ∈ l ∧ x.f0.toList ≠ e.f0.toList)
  | [], x => by simp [setR]
  | y :: r, x => by
    unfold setR
    split
    · rename_i hlt
      have hy : y.f0.toList ≠ e.f0.toList := fun h => by
        rw [h, less_irrefl] at hlt
        cases hlt
      rw [List.mem_cons, setR_mem e r x, List.mem_cons]
      constructor
      · rintro (rfl | rfl | ⟨h1, h2⟩)
        · exact .inr ⟨.inl rfl, hy⟩
        · exact .inl rfl
        · exact .inr ⟨.inr h1, h2⟩
      · rintro (rfl | ⟨rfl | h1, h2⟩)
        · exact .inr (.inl rfl)
        · exact .inl rfl
        · exact .inr (.inr ⟨h1, h2⟩)
    · rw [List.mem_cons, List.mem_filter, notAt_iff]
theorem setR_asc (e : Entry) : ∀ l : List Entry, l.Pairwise ltE → (setR e l).Pairwise ltE
  | [], _ => List.pairwise_singleton _ _
  | y :: r, h => by
    have h' := h
    obtain ⟨h1, h2⟩ := List.pairwise_cons.1 h'
    unfold setR
    split
    · rename_i hlt
      refine List.pairwise_cons.2 ⟨fun z hz => ?_, setR_asc e r h2⟩
      rcases (setR_mem e r z).1 hz with rfl | ⟨hz, _⟩
      · exact hlt
      · exact h1 z hz
    · rename_i hlt
      refine List.pairwise_cons.2 ⟨fun z hz => ?_, h.filter _⟩
      obtain ⟨hz, hn⟩ := List.mem_filter.1 hz
      rw [notAt_iff] at hn
      by_cases hy : y.f0.toList = e.f0.toList
      · rcases List.mem_cons.1 hz with rfl | hz
        · exact absurd hy hn
        · have := h1 z hz
          unfold ltE at this ⊢
          rw [← hy]
          exact this
      · have hey : ltE e y := less_or (Bool.eq_false_iff.2 hlt) hy
        rcases List.mem_cons.1 hz with rfl | hz
        · exact hey
        · exact ltE_trans hey (h1 z hz)
theorem asc_apart {l : List Entry} (h : l.Pairwise ltE) : Apart l := h.imp fun {a b} hab e => by
  unfold ltE at hab
  rw [e, less_irrefl] at hab
  cases hab
theorem set_apart (e : Entry) {l : List Entry} (h : l.Pairwise ltE) : Apart (e :: l.filter (notAt e.f0)) :=
  List.pairwise_cons.2 ⟨fun z hz => (notAt_iff.1 (List.mem_filter.1 hz).2).symm, asc_apart (h.filter _)⟩
/-- Set is: the row without the path, the entry beside it, sorted. -/
theorem setR_sort (e : Entry) {l : List Entry} (h : l.Pairwise ltE) : setR e l = sortE (e :: l.filter (notAt e.f0)) := by
  refine asc_unique _ _ (setR_asc e l h) (sortE_asc _ (set_apart e h)) (fun x => ?_)
  rw [setR_mem, (sortE_perm _).mem_iff, List.mem_cons, List.mem_filter, notAt_iff]
theorem treeOk_pair {l : List Entry} (h : treeOk l = true) : l.Pairwise ltE := by
  rw [List.pairwise_iff_getElem]
  intro i j hi hj hij
  exact treeOk_lt h hij hj
theorem pathOk_size {s : ByteArray} {g : Bool} (h : pathOk s g = true) : s.size ≤ 126 := by
  rcases Nat.lt_or_ge 126 s.size with h' | h'
  · rw [pathOk_long s g h'] at h
    cases h
  · exact h'
theorem treeOk_path {l : List Entry} (h : treeOk l = true) {i : Nat} (hi : i < l.length) : pathOk l[i].f0 false = true := by
  have := treeOk_rows h i hi
  unfold rowOk entryOk at this
  rw [rdE_eq hi] at this
  by_cases hp : pathOk l[i].f0 false = true
  · exact hp
  · rw [if_neg hp] at this
    cases this
theorem treeOk_size {l : List Entry} (h : treeOk l = true) {i : Nat} (hi : i < l.length) : l[i].f0.size ≤ 126 := pathOk_size (treeOk_path h hi)
theorem treeOk_size' {l : List Entry} (h : treeOk l = true) : ∀ e ∈ l, e.f0.size ≤ 126 := by
  intro e he
  obtain ⟨i, hi, rfl⟩ := List.getElem_of_mem he
  exact treeOk_size h hi
theorem treeOk_len100 {l : List Entry} (h : treeOk l = true) : l.length ≤ 100 := by
  unfold treeOk at h
  split at h
  · cases h
  · omega
theorem impl_sorted_eq {l : List Entry} (hl : l.length ≤ 1000) (h : Apart l) : impl_sorted.f l = some (sortE l) := if_pos ⟨by omega, h⟩

end Go.Proofs.YtgnmledjkamojaaDoor.Pure


namespace Go.Proofs.YtgnmledjkamojaaDoor.Pure
open Go Go.RowKit Go.Proofs.YtgnmledjkamojaaDoor.P Go.Proofs.YtgnmledjkamojaaDoorW.PrintWords Go.Proofs.YtgnmledjkamojaaDoorW.PrintLast
set_option linter.unusedVariables false
set_option linter.unusedSimpArgs false

def way (p : ByteArray) (x : Entry) : Bool := decide (x.f0.toList = p.toList) || (begins x.f0 p || begins p x.f0)
def freeE (b : List Entry) (e : Entry) : Bool := !b.any (way e.f0)
def overT (a b : List Entry) : List Entry := b ++ a.filter (freeE b)
def foldF (b : List Entry) : List Entry → List Entry → List Entry
  | acc, [] => acc
  | acc, e :: r => foldF b (if freeE b e = true then setR e acc else acc) r
def finO (o : List Entry) : List Entry × Int := if (o.length : Int) > 100 then ([], 4) else (o, 0)
def overlay (a b : List Entry) : List Entry × Int := if treeOk a = true then (if treeOk b = true then finO (sortE (overT a b)) else ([], 1)) else ([], 1)

theorem free_ne {b : List Entry} {y x : Entry} (h : freeE b y = true) (hx : x ∈ b) : x.f0.toList ≠ y.f0.toList := by
  intro e
  unfold freeE at h
  rw [Bool.not_eq_true', List.any_eq_false] at h
  exact h x hx (by simp [way, e])
theorem foldF_asc (b : List Entry) : ∀ (r acc : List Entry), acc.Pairwise ltE → (foldF b acc r).Pairwise ltE
  | [], _, h => h
  | e :: r, acc, h => by
    unfold foldF
    split
    · exact foldF_asc b r _ (setR_asc e acc h)
    · exact foldF_asc b r _ h
theorem foldF_mem (b : List Entry) : ∀ (r acc : List Entry) (x : Entry), Apart r → (x ∈ foldF b acc r ↔ x ∈ r.filter (freeE b) ∨ (x ∈ acc ∧ ∀ y ∈ r.filter (freeE b), x.f0.toList ≠ y.f0.toList))
  | [], acc, x, _ => by simp [foldF]
  | e :: r, acc, x, h => by
    obtain ⟨h1, h2⟩ := List.pairwise_cons.1 h
    unfold foldF
    by_cases hf : freeE b e = true
    · rw [if_pos hf, List.filter_cons_of_pos hf, foldF_mem b r _ x h2, setR_mem, List.mem_cons]
      constructor
      · rintro (hx | ⟨rfl | ⟨ha, hn⟩, hy⟩)
        · exact .inl (.inr hx)
        · exact .inl (.inl rfl)
        · refine .inr ⟨ha, fun y hm => ?_⟩
          rcases List.mem_cons.1 hm with rfl | hm
          · exact hn
          · exact hy y hm
      · rintro ((rfl | hx) | ⟨ha, hy⟩)
        · exact .inr ⟨.inl rfl, fun y hy => h1 y (List.mem_filter.1 hy).1⟩
        · exact .inl hx
        · exact .inr ⟨.inr ⟨ha, hy _ List.mem_cons_self⟩, fun y hm => hy y (List.mem_cons_of_mem _ hm)⟩
    · rw [if_neg hf, List.filter_cons_of_neg hf]
      exact foldF_mem b r acc x h2
theorem overT_apart {a b : List Entry} (ha : a.Pairwise ltE) (hb : b.Pairwise ltE) : Apart (overT a b) :=
  List.pairwise_append.2 ⟨asc_apart hb, asc_apart (ha.filter _), fun _ hx _ hy => free_ne (List.mem_filter.1 hy).2 hx⟩
theorem overlay_eq {a b : List Entry} (ha : a.Pairwise ltE) (hb : b.Pairwise ltE) : foldF b b a = sortE (overT a b) := by
  refine asc_unique _ _ (foldF_asc b a _ hb) (sortE_asc _ (overT_apart ha hb)) (fun x => ?_)
  rw [foldF_mem b a _ x (asc_apart ha), (sortE_perm _).mem_iff, overT, List.mem_append]
  constructor
  · rintro (h | ⟨h, _⟩)
    · exact .inr h
    · exact .inl h
  · rintro (h | h)
    · exact .inr ⟨h, fun y hy => free_ne (List.mem_filter.1 hy).2 h⟩
    · exact .inl h
section
variable (l b : List Entry) (hl : l.length ≤ 100) (hb : b.length ≤ 100)
include hl hb
theorem spec_O1 (i : Nat) (hi : i < l.length) (acc R : List Entry) (F : List Entry × Int) (hacc : acc.length ≤ 1000) : ∀ (d j : Nat) (fr : Bool), j + d = b.length →
    ((fr && !(b.drop j).any (way l[i].f0)) = true → Ev (fun k => spec_Overlay.l0 k ((i + 1 : Nat) : Int) l b (setR l[i] acc)) F) →
    ((fr && !(b.drop j).any (way l[i].f0)) = false → Ev (fun k => spec_Overlay.l0 k ((i + 1 : Nat) : Int) l b acc) F) →
    Ev (fun k => spec_Overlay.l1 k (i : Int) l[i].f0 fr (j : Int) l b acc) F
  | 0, j, fr, hd, hT, hF => by
    rw [List.drop_of_length_le (by omega)] at hT hF
    refine Ev.step (fun k => spec_Overlay.l1.eq_2 ..) (Ev.neg (by omega) ?_)
    rw [w64 (n := (i : Int) + 1) (by omega) (by omega), show (i : Int) + 1 = ((i + 1 : Nat) : Int) from by omega]
    cases fr with
    | true => exact Ev.pos rfl (Ev.pos (by omega) (Ev.pos (by omega) (by rw [rdE_eq hi]; exact Ev.bind (spec_set_ev acc hacc _ _ _) (hT rfl))))
    | false => exact Ev.neg (by simp) (hF rfl)
  | d + 1, j, fr, hd, hT, hF => by
    have hj : j < b.length := by omega
    rw [List.drop_eq_getElem_cons hj, List.any_cons] at hT hF
    refine Ev.step (fun k => spec_Overlay.l1.eq_2 ..) (Ev.pos (by omega) (Ev.pos (by omega) ?_))
    rw [rdE_eq hj, w64 (n := (j : Int) + 1) (by omega) (by omega), show (j : Int) + 1 = ((j + 1 : Nat) : Int) from by omega, spec_begins_eq, spec_begins_eq]
    by_cases h1 : l[i].f0.toList = b[j].f0.toList
    · have hw : way l[i].f0 b[j] = true := by simp [way, h1]
      rw [hw, Bool.true_or, Bool.not_true, Bool.and_false] at hT hF
      exact Ev.pos h1 (spec_O1 i hi acc R F hacc d (j + 1) false (by omega) (fun h => by cases h) (fun _ => hF rfl))
    · refine Ev.neg h1 (Ev.sb ?_)
      by_cases h2 : begins l[i].f0 b[j].f0 = true
      · have hw : way l[i].f0 b[j] = true := by simp [way, h2]
        rw [hw, Bool.true_or, Bool.not_true, Bool.and_false] at hT hF
        exact Ev.pos h2 (spec_O1 i hi acc R F hacc d (j + 1) false (by omega) (fun h => by cases h) (fun _ => hF rfl))
      · refine Ev.neg h2 (Ev.sb ?_)
        by_cases h3 : begins b[j].f0 l[i].f0 = true
        · have hw : way l[i].f0 b[j] = true := by simp [way, h3]
          rw [hw, Bool.true_or, Bool.not_true, Bool.and_false] at hT hF
          exact Ev.pos h3 (spec_O1 i hi acc R F hacc d (j + 1) false (by omega) (fun h => by cases h) (fun _ => hF rfl))
        · have hw : way l[i].f0 b[j] = false := by simp [way, h2, h3, Ne.symm h1]
          rw [hw, Bool.false_or] at hT hF
          exact Ev.neg h3 (spec_O1 i hi acc R F hacc d (j + 1) fr (by omega) hT hF)
theorem spec_O0 : ∀ (d i : Nat) (acc : List Entry), i + d = l.length → acc.length ≤ 100 + i → Ev (fun k => spec_Overlay.l0 k (i : Int) l b acc) (finO (foldF b acc (l.drop i)))
  | 0, i, acc, hd, ha => by
    rw [List.drop_of_length_le (by omega)]
    refine Ev.step (fun k => spec_Overlay.l0.eq_2 ..) (Ev.neg (by omega) ?_)
    exact Ev.both (fun _ => Ev.now _) (fun _ => Ev.now _)
  | d + 1, i, acc, hd, ha => by
    have hi : i < l.length := by omega
    have hs := setR_len l[i] acc
    refine Ev.step (fun k => spec_Overlay.l0.eq_2 ..) (Ev.pos (by omega) (Ev.pos (by omega) ?_))
    rw [rdE_eq hi, List.drop_eq_getElem_cons hi]
    refine spec_O1 l b hl hb i hi acc [] _ (by omega) b.length 0 true (by omega) (fun h => ?_) (fun h => ?_)
    · have hf : freeE b l[i] = true := by rw [List.drop_zero, Bool.true_and] at h; exact h
      rw [foldF, if_pos hf]
      exact spec_O0 d (i + 1) _ (by omega) (by omega)
    · have hf : freeE b l[i] = false := by rw [List.drop_zero, Bool.true_and] at h; exact h
      rw [foldF, if_neg (by rw [hf]; simp)]
      exact spec_O0 d (i + 1) _ (by omega) (by omega)
end
theorem spec_copy_eq (l : List Entry) (hl : l.length ≤ 1048576) : spec_l5Copy.f l = some l := by
  unfold spec_l5Copy.f
  show (if ([] : List Entry).length + l.length < 3518437208883 then some (([] : List Entry) ++ l) else none) = some l
  rw [if_pos (by simp; omega), List.nil_append]
theorem spec_Overlay_ev (a b : List Entry) : Ev (fun k => spec_Overlay.f k a b) (overlay a b) := by
  unfold spec_Overlay.f overlay
  refine Ev.bind (spec_ValidTree_ev a) ?_
  by_cases h : treeOk a = true
  · rw [if_pos h]
    refine Ev.pos h (Ev.bind (spec_ValidTree_ev b) (Ev.step (fun k => spec_Overlay.j0.eq_2 ..) ?_))
    by_cases h2 : treeOk b = true
    · rw [if_pos h2, h2, spec_copy_eq b (by have := treeOk_len100 h2; omega)]
      refine Ev.neg (by simp) (Ev.sb ?_)
      have := spec_O0 a b (treeOk_len100 h) (treeOk_len100 h2) a.length 0 b (by omega) (by have := treeOk_len100 h2; omega)
      rw [List.drop_zero, overlay_eq (treeOk_pair h) (treeOk_pair h2)] at this
      exact this
    · rw [if_neg h2, Bool.eq_false_iff.2 h2]
      exact Ev.pos rfl (Ev.now _)
  · rw [if_neg h]
    exact Ev.neg h (Ev.step (fun k => spec_Overlay.j0.eq_2 ..) (Ev.pos rfl (Ev.now _)))
theorem wayE_eq (p : ByteArray) (x : Entry) (h1 : p.size ≤ 1048576) (h2 : x.f0.size ≤ 1048576) : wayE p x = some (way p x) := by
  unfold wayE way
  by_cases h : x.f0.toList = p.toList
  · rw [if_pos h]
    simp [h]
  · rw [if_neg h, impl_over_eq _ _ h2, impl_over_eq _ _ h1, show decide (x.f0.toList = p.toList) = false from decide_eq_false h, Bool.false_or]
    show (if begins x.f0 p = true then some true else some (begins p x.f0)) = _
    cases begins x.f0 p <;> simp
theorem wayL_eq (p : ByteArray) (h1 : p.size ≤ 1048576) : ∀ b : List Entry, (∀ x ∈ b, x.f0.size ≤ 1048576) → wayL p b = some (b.any (way p))
  | [], _ => rfl
  | x :: r, h => by
    unfold wayL
    rw [wayE_eq p x h1 (h x List.mem_cons_self), List.any_cons]
    show (if way p x = true then some true else wayL p r) = _
    rw [wayL_eq p h1 r (fun y hy => h y (List.mem_cons_of_mem _ hy))]
    cases way p x <;> simp
theorem impl_O0 (l b : List Entry) (hl : l.length ≤ 100) (hb : b.length ≤ 100) (hzl : ∀ e ∈ l, e.f0.size ≤ 126) (hzb : ∀ e ∈ b, e.f0.size ≤ 126) (T : List Entry) (hT : Apart T) : ∀ (d i : Nat) (acc : List Entry), i + d = l.length → acc.length ≤ 100 + i → acc ++ (l.drop i).filter (freeE b) = T →
    Ev (fun k => impl_Overlay.l0 k acc l (l.length : Int) (i : Int) b) (finO (sortE T))
  | 0, i, acc, hd, ha, h => by
    rw [List.drop_of_length_le (by omega)] at h
    obtain rfl : acc = T := by rw [← h]; exact (List.append_nil acc).symm
    refine Ev.step (fun k => impl_Overlay.l0.eq_2 ..) (Ev.neg (by omega) ?_)
    unfold finO
    rw [(sortE_perm acc).length_eq]
    refine Ev.both (fun _ => Ev.now _) (fun h => ?_)
    rw [impl_sorted_eq (by omega) hT]
    exact Ev.now _
  | d + 1, i, acc, hd, ha, h => by
    have hi : i < l.length := by omega
    have hzi := hzl l[i] (List.getElem_mem hi)
    refine Ev.step (fun k => impl_Overlay.l0.eq_2 ..) (Ev.pos (by omega) (Ev.pos (by omega) (Ev.pos (by omega) ?_)))
    rw [List.drop_eq_getElem_cons hi] at h
    have hc : impl_Entry_68.f b l[i].f0 l[i].f1 l[i].f2 = some (b.any (way l[i].f0)) := by
      unfold impl_Entry_68.f
      rw [if_pos (by omega), wayL_eq _ (by omega) b (fun x hx => by have := hzb x hx; omega)]
    rw [rdE_eq hi, hc, w64 (n := (i : Int) + 1) (by omega) (by omega), show (i : Int) + 1 = ((i + 1 : Nat) : Int) from by omega]
    refine Ev.sb ?_
    by_cases h1 : b.any (way l[i].f0) = true
    · rw [List.filter_cons_of_neg (by simp [freeE, h1])] at h
      exact Ev.pos h1 (impl_O0 l b hl hb hzl hzb T hT d (i + 1) acc (by omega) (by omega) h)
    · rw [List.filter_cons_of_pos (by simp only [freeE, Bool.not_eq_true']; exact Bool.eq_false_iff.2 h1), List.append_cons acc l[i] _] at h
      exact Ev.neg h1 (Ev.pos (by omega) (impl_O0 l b hl hb hzl hzb T hT d (i + 1) (acc ++ [l[i]]) (by omega) (by rw [List.length_append, List.length_singleton]; omega) h))
theorem impl_Overlay_ev (a b : List Entry) (hza : ∀ e ∈ a, e.f0.size ≤ 1048576) (hzb : ∀ e ∈ b, e.f0.size ≤ 1048576) : Ev (fun k => impl_Overlay.f k a b) (overlay a b) := by
  unfold impl_Overlay.f overlay
  refine Ev.bind (impl_ValidTree_ev a hza) ?_
  by_cases h : treeOk a = true
  · rw [if_pos h]
    refine Ev.pos h (Ev.bind (impl_ValidTree_ev b hzb) (Ev.step (fun k => impl_Overlay.j0.eq_2 ..) ?_))
    by_cases h2 : treeOk b = true
    · have hb := treeOk_len100 h2
      rw [if_pos h2, h2, show impl_Entry_67.f b = some b from if_pos (by omega)]
      exact Ev.neg (by simp) (Ev.sb (impl_O0 a b (treeOk_len100 h) hb (treeOk_size' h) (treeOk_size' h2) (overT a b) (overT_apart (treeOk_pair h) (treeOk_pair h2)) a.length 0 b (by omega) (by omega) rfl))
    · rw [if_neg h2, Bool.eq_false_iff.2 h2]
      exact Ev.pos rfl (Ev.now _)
  · rw [if_neg h]
    exact Ev.neg h (Ev.step (fun k => impl_Overlay.j0.eq_2 ..) (Ev.pos rfl (Ev.now _)))
theorem overlay_len (a b : List Entry) : (overlay a b).1.length ≤ 100 := by
  unfold overlay finO
  split
  · split
    · split
      · simp
      · show (sortE (overT a b)).length ≤ 100
        omega
    · simp
  · simp

end Go.Proofs.YtgnmledjkamojaaDoor.Pure


namespace Go.Proofs.YtgnmledjkamojaaDoor.Pure
open Go Go.RowKit Go.Proofs.YtgnmledjkamojaaDoor.P Go.Proofs.YtgnmledjkamojaaDoorW.PrintWords Go.Proofs.YtgnmledjkamojaaDoorW.PrintLast
set_option linter.unusedVariables false
set_option linter.unusedSimpArgs false

theorem marksFromO_ev : ∀ (d i m : Nat) (l : List Entry), i + d = l.length → m + d ≤ 2200000 → l.length ≤ 2200000 → Evs (fun k => laws_markEntryS.l0 k l ((1 + 3 * m : Nat) : Int) (i : Int)) (fun r => r.1 = ((1 + 3 * (m + d) : Nat) : Int))
  | 0, i, m, l, hd, hm, hl => Evs.step (fun k => laws_markEntryS.l0.eq_2 ..) (Evs.neg (by omega) (Evs.ret (by show ((1 + 3 * m : Nat) : Int) = _; omega)))
  | d + 1, i, m, l, hd, hm, hl => by
    have hi : i < l.length := by omega
    refine Evs.step (fun k => laws_markEntryS.l0.eq_2 ..) (Evs.pos (by omega) (Evs.bind (Evs.of (mark_spec (1 + 3 * m) (by omega)) (Q := fun t => t = mark (1 + 3 * m)) rfl) (fun t ht => Evs.pos (by omega) ?_)))
    subst ht
    rw [Int.toNat_natCast, w64 (n := ((1 + 3 * m : Nat) : Int) + 1) (by omega) (by omega), show ((1 + 3 * m : Nat) : Int) + 1 = ((2 + 3 * m : Nat) : Int) from by omega, w64 (n := ((2 + 3 * m : Nat) : Int) + 1) (by omega) (by omega), show ((2 + 3 * m : Nat) : Int) + 1 = ((3 + 3 * m : Nat) : Int) from by omega, w64 (n := ((3 + 3 * m : Nat) : Int) + 1) (by omega) (by omega), show ((3 + 3 * m : Nat) : Int) + 1 = ((1 + 3 * (m + 1) : Nat) : Int) from by omega, w64 (n := (i : Int) + 1) (by omega) (by omega), show (i : Int) + 1 = ((i + 1 : Nat) : Int) from by omega]
    refine Evs.sb (Evs.bind (Evs.of (mark_spec (2 + 3 * m) (by omega)) (Q := fun t => t = mark (2 + 3 * m)) rfl) (fun t ht => ?_))
    subst ht
    refine Evs.sb ?_
    simp only [rdE_set hi, List.set_set]
    have e2 : ∀ a : Entry, rd_T37 (l.set i a) (i : Int) = a := rdE_set hi
    refine (marksFromO_ev d (i + 1) (m + 1) (l.set i _) (by rw [List.length_set]; omega) (by omega) (by rw [List.length_set]; omega)).mono (fun r hr => ?_)
    rw [hr]
    omega
theorem ofE_smallO {l : List LEntry} {left : Int} (h1 : left ≤ 1048576) (h : ∀ s ∈ l, (s.f0.size : Int) ≤ left ∧ (s.f1.size : Int) ≤ left) : ∀ e ∈ l.map ofE, e.f0.size ≤ 1048576 := by
  intro e he
  obtain ⟨s, hs, rfl⟩ := List.mem_map.1 he
  have := (h s hs).1
  show s.f0.size ≤ 1048576
  omega
theorem FnExactOverlay (l s : List LEntry) (h : l.length * 40 ≤ 140737488351232 ∧ ∀ x ∈ l, Small172 x) (hh : s.length * 40 ≤ 140737488351232 ∧ ∀ x ∈ s, Small172 x) : ∃ k, laws_FnExactOverlay.f k l s = some true := by
  apply Ev.rounds
  unfold laws_FnExactOverlay.f
  obtain ⟨r, hr, hR⟩ := szTree_ev l (by omega) (fun x hx => ⟨(h.2 x hx).1, (h.2 x hx).2.1⟩) 1048576 (by omega) (by omega)
  refine Ev.bind hr ?_
  rcases hR with rfl | ⟨a, b, c, d⟩
  · exact Ev.pos (by omega) (Ev.now _)
  refine Ev.neg (by omega) ?_
  obtain ⟨r2, hr2, hR2⟩ := szTree_ev s (by omega) (fun x hx => ⟨(hh.2 x hx).1, (hh.2 x hx).2.1⟩) r a b
  refine Ev.bind hr2 ?_
  rcases hR2 with rfl | ⟨a2, b2, c2, d2⟩
  · exact Ev.pos (by omega) (Ev.now _)
  have T := toTree_ev l (by omega)
  have T2 := toTree_ev s (by omega)
  have hl : (l.map ofE).length ≤ 1048576 := by rw [List.length_map]; omega
  have hl2 : (s.map ofE).length ≤ 1048576 := by rw [List.length_map]; omega
  have hs := ofE_smallO (l := l) (left := 1048576) (by omega) d
  have hs2 := ofE_smallO (l := s) (left := r) (by omega) d2
  generalize l.map ofE = X at T hl hs
  generalize s.map ofE = Y at T2 hl2 hs2
  have S := spec_Overlay_ev X Y
  have I := impl_Overlay_ev X Y hs hs2
  have hu := overlay_len X Y
  generalize overlay X Y = R at S I hu
  have Q := eqTree_ev R.1 (by omega)
  obtain ⟨L, _, m1, _⟩ := markedTree_ev X (by omega)
  obtain ⟨p, p1, hp⟩ := marksFromO_ev Y.length 0 X.length Y (by omega) (by omega) (by omega)
  obtain ⟨L2, _, m2, h2⟩ := markedTree_ev R.1 (by omega)
  have m3 : Ev (fun k => laws_markTree.f k Y ((1 + 3 * X.length : Nat) : Int)) p := by
    unfold laws_markTree.f laws_markEntryS.f
    exact Ev.bind hp (Ev.now _)
  have J2 : Ev (fun k => laws_FnExactOverlay.j2 k ((1 + 3 * R.1.length : Nat) : Int) (R.2 != R.2) L2) true := by
    refine Ev.step (fun k => laws_FnExactOverlay.j2.eq_2 ..) (Ev.neg (by simp) (Ev.bind h2 (Ev.neg (by omega) (Ev.pos rfl (Ev.now _)))))
  have J1 : Ev (fun k => laws_FnExactOverlay.j1 k R.2 (R.2 != R.2) l s R.1 R.1) true := by
    refine Ev.step (fun k => laws_FnExactOverlay.j1.eq_2 ..) (Ev.neg (by simp) (Ev.bind m2 (Ev.bind h2 (Ev.neg (by omega) (Ev.pos rfl ?_)))))
    exact Ev.bind T (Ev.bind T2 (Ev.bind I (Ev.bind Q (Ev.pos rfl J2))))
  have J0 : Ev (fun k => laws_FnExactOverlay.j0 k R.2 R.2 (R.2 != R.2) l s R.1 X Y R.1) true := by
    refine Ev.step (fun k => laws_FnExactOverlay.j0.eq_2 ..) (Ev.neg (by simp) (Ev.bind T (Ev.bind (eqTree_ev X (by omega)) (Ev.pos rfl (Ev.bind T2 (Ev.bind (eqTree_ev Y (by omega)) (Ev.pos rfl (Ev.bind m1 (Ev.bind m3 (Ev.neg (by omega) (Ev.bind Q (Ev.pos rfl J1))))))))))))
  exact Ev.neg (by omega) (Ev.bind T (Ev.bind T2 (Ev.bind S (Ev.bind T (Ev.bind T2 (Ev.bind I (Ev.bind Q (Ev.pos rfl J0))))))))

end Go.Proofs.YtgnmledjkamojaaDoor.Pure

