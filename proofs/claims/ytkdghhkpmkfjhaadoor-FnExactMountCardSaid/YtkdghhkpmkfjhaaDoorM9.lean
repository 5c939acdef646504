/- Several texts of this claim in one file: YtkdghhkpmkfjhaaDoorSetE, YtkdghhkpmkfjhaaDoorMount, YtkdghhkpmkfjhaaDoorPureFnExactMount. -/
import Derived.Test.YtkdghhkpmkfjhaaDoorM7
import Derived.Test.YtkdghhkpmkfjhaaDoorM4
import Derived.Test.YtkdghhkpmkfjhaaDoorM6
import Derived.Test.YtkdghhkpmkfjhaaDoorM5
import Derived.Test.YtkdghhkpmkfjhaaDoorM8
import Derived.Test.YtkdghhkpmkfjhaaDoorM3
namespace Go.Proofs.YtkdghhkpmkfjhaaDoor.Pure
open Go Go.RowKit Go.Proofs.YtkdghhkpmkfjhaaDoor.P Go.Proofs.YtkdghhkpmkfjhaaDoorW.PrintWords Go.Proofs.YtkdghhkpmkfjhaaDoorW.PrintLast
set_option linter.unusedVariables false
set_option linter.unusedSimpArgs false

/-- The entry lies elsewhere. -/
def notAt (p : ByteArray) (z : Entry) : Bool := !decide (z.f0.toList = p.toList)
def setR (e : Entry) : List Entry → List Entry
  | [] => [e]
  | y :: r => if less y.f0.toList e.f0.toList = true then y :: setR e r else e :: (y :: r).filter (notAt e.f0)
theorem spec_S_done (l : List Entry) (hl : l.length ≤ 1000) (p t : ByteArray) (u : Bool) : ∀ (d i : Nat) (acc : List Entry), i + d = l.length → acc.length ≤ i + 1 → Ev (fun k => spec_l5Set.l0 k true (i : Int) l p t u acc) (acc ++ (l.drop i).filter (notAt p))
  | 0, i, acc, hd, ha => by
    rw [List.drop_of_length_le (by omega)]
    refine Ev.step (fun k => spec_l5Set.l0.eq_2 ..) (Ev.neg (by omega) (Ev.pos rfl ?_))
    show Ev _ (acc ++ [])
    rw [List.append_nil]
    exact Ev.now _
  | d + 1, i, acc, hd, ha => by
    have hi : i < l.length := by omega
    refine Ev.step (fun k => spec_l5Set.l0.eq_2 ..) (Ev.pos (by omega) (Ev.pos rfl (Ev.step (fun k => spec_l5Set.j1.eq_2 ..) (Ev.neg (by simp) (Ev.pos (by omega) (Ev.pos (by omega) ?_))))))
    rw [rdE_eq hi, w64 (n := (i : Int) + 1) (by omega) (by omega), show (i : Int) + 1 = ((i + 1 : Nat) : Int) from by omega, List.drop_eq_getElem_cons hi]
    by_cases h : l[i].f0.toList = p.toList
    · rw [List.filter_cons_of_neg (by simp [notAt, h])]
      exact Ev.pos h (spec_S_done l hl p t u d (i + 1) acc (by omega) (by omega))
    · rw [List.filter_cons_of_pos (by simp [notAt, h]), List.append_cons acc l[i] (List.filter (notAt p) (l.drop (i + 1)))]
      exact Ev.neg h (Ev.pos (by omega) (spec_S_done l hl p t u d (i + 1) (acc ++ [l[i]]) (by omega) (by rw [List.length_append, List.length_singleton]; omega)))
theorem spec_S_open (l : List Entry) (hl : l.length ≤ 1000) (p t : ByteArray) (u : Bool) : ∀ (d i : Nat) (acc : List Entry), i + d = l.length → acc.length ≤ i → Ev (fun k => spec_l5Set.l0 k false (i : Int) l p t u acc) (acc ++ setR ⟨p, t, u⟩ (l.drop i))
  | 0, i, acc, hd, ha => by
    rw [List.drop_of_length_le (by omega)]
    exact Ev.step (fun k => spec_l5Set.l0.eq_2 ..) (Ev.neg (by omega) (Ev.neg (by simp) (Ev.pos (by omega) (Ev.now _))))
  | d + 1, i, acc, hd, ha => by
    have hi : i < l.length := by omega
    refine Ev.step (fun k => spec_l5Set.l0.eq_2 ..) (Ev.pos (by omega) (Ev.neg (by simp) (Ev.pos (by omega) (Ev.step (fun k => spec_l5Set.j1.eq_2 ..) ?_))))
    rw [rdE_eq hi, w64 (n := (i : Int) + 1) (by omega) (by omega), show (i : Int) + 1 = ((i + 1 : Nat) : Int) from by omega, List.drop_eq_getElem_cons hi]
    by_cases hlt : Op.bytesLess l[i].f0.toList p.toList = true
    · have h : ¬ l[i].f0.toList = p.toList := fun e => by
        rw [e] at hlt
        have := less_irrefl p.toList
        unfold less at this
        rw [this] at hlt
        cases hlt
      have e : setR ⟨p, t, u⟩ (l[i] :: l.drop (i + 1)) = l[i] :: setR ⟨p, t, u⟩ (l.drop (i + 1)) := by
        conv => lhs; unfold setR
        exact if_pos hlt
      rw [e, List.append_cons acc l[i] (setR ⟨p, t, u⟩ (l.drop (i + 1)))]
      exact Ev.neg (by rw [hlt]; simp) (Ev.pos (by omega) (Ev.pos (by omega) (Ev.neg h (Ev.pos (by omega) (spec_S_open l hl p t u d (i + 1) (acc ++ [l[i]]) (by omega) (by rw [List.length_append, List.length_singleton]; omega))))))
    · have e : setR ⟨p, t, u⟩ (l[i] :: l.drop (i + 1)) = ⟨p, t, u⟩ :: (l[i] :: l.drop (i + 1)).filter (notAt p) := by
        conv => lhs; unfold setR
        exact if_neg hlt
      rw [e]
      refine Ev.pos (by rw [Bool.eq_false_iff.2 hlt]; rfl) (Ev.pos (by omega) (Ev.sb (Ev.pos (by omega) (Ev.pos (by omega) ?_))))
      by_cases h : l[i].f0.toList = p.toList
      · rw [List.filter_cons_of_neg (by simp [notAt, h]), List.append_cons acc ⟨p, t, u⟩ (List.filter (notAt p) (l.drop (i + 1)))]
        exact Ev.pos h (spec_S_done l hl p t u d (i + 1) (acc ++ [⟨p, t, u⟩]) (by omega) (by rw [List.length_append, List.length_singleton]; omega))
      · rw [List.filter_cons_of_pos (by simp [notAt, h]), List.append_cons acc ⟨p, t, u⟩ (l[i] :: List.filter (notAt p) (l.drop (i + 1))), List.append_cons (acc ++ [(⟨p, t, u⟩ : Entry)]) l[i] (List.filter (notAt p) (l.drop (i + 1)))]
        exact Ev.neg h (Ev.pos (by rw [List.length_append, List.length_singleton]; omega) (spec_S_done l hl p t u d (i + 1) (acc ++ [⟨p, t, u⟩] ++ [l[i]]) (by omega) (by simp only [List.length_append, List.length_singleton]; omega)))
theorem spec_set_ev (l : List Entry) (hl : l.length ≤ 1000) (p t : ByteArray) (u : Bool) : Ev (fun k => spec_l5Set.f k l p t u) (setR ⟨p, t, u⟩ l) := by
  unfold spec_l5Set.f
  exact spec_S_open l hl p t u l.length 0 [] (by omega) (by simp)
theorem notAt_iff {p : ByteArray} {z : Entry} : notAt p z = true ↔ z.f0.toList ≠ p.toList := by
  unfold notAt
  simp
theorem setR_len (e : Entry) : ∀ l, (setR e l).length ≤ l.length + 1
  | [] => by simp [setR]
  | y :: r => by
    unfold setR
    split
    · have := setR_len e r
      simp only [List.length_cons]
      omega
    · have := List.length_filter_le (notAt e.f0) (y :: r)
      simp only [List.length_cons] at this ⊢
      omega
theorem setR_mem (e : Entry) : ∀ (l : List Entry) (x : Entry), x ∈ setR e l ↔ x = e ∨ (x ∈ l ∧ x.f0.toList ≠ e.f0.toList)
  | [], x => by simp [setR]
  | y :: r, x => by
    unfold setR
    split
    · rename_i hlt
      have hy : y.f0.toList ≠ e.f0.toList := fun h => by
        rw [h, less_irrefl] at hlt
        cases hlt
      rw [List.mem_cons, setR_mem e r x, List.mem_cons]
      constructor
      · rintro (rfl | rfl | ⟨h1, h2⟩)
        · exact .inr ⟨.inl rfl, hy⟩
        · exact .inl rfl
        · exact .inr ⟨.inr h1, h2⟩
      · rintro (rfl | ⟨rfl | h1, h2⟩)
        · exact .inr (.inl rfl)
        · exact .inl rfl
        · exact .inr (.inr ⟨h1, h2⟩)
    · rw [List.mem_cons, List.mem_filter, notAt_iff]
theorem setR_asc (e : Entry) : ∀ l : List Entry, l.Pairwise ltE → (setR e l).Pairwise ltE
  | [], _ => List.pairwise_singleton _ _
  | y :: r, h => by
    have h' := h
    obtain ⟨h1, h2⟩ := List.pairwise_cons.1 h'
    unfold setR
    split
    · rename_i hlt
      refine List.pairwise_cons.2 ⟨fun z hz => ?_, setR_asc e r h2⟩
      rcases (setR_mem e r z).1 hz with rfl | ⟨hz, _⟩
      · exact hlt
      · exact h1 z hz
    · rename_i hlt
      refine List.pairwise_cons.2 ⟨fun z hz => ?_, h.filter _⟩
      obtain ⟨hz, hn⟩ := List.mem_filter.1 hz
      rw [notAt_iff] at hn
      by_cases hy : y.f0.toList = e.f0.toList
      · rcases List.mem_cons.1 hz with rfl | hz
        · exact absurd hy hn
        · have := h1 z hz
          unfold ltE at this ⊢
          rw [← hy]
          exact this
      · have hey : ltE e y := less_or (Bool.eq_false_iff.2 hlt) hy
        rcases List.mem_cons.1 hz with rfl | hz
        · exact hey
        · exact ltE_trans hey (h1 z hz)
theorem asc_apart {l : List Entry} (h : l.Pairwise ltE) : Apart l := h.imp fun {a b} hab e => by
  unfold ltE at hab
  rw [e, less_irrefl] at hab
  cases hab
theorem set_apart (e : Entry) {l : List Entry} (h : l.Pairwise ltE) : Apart (e :: l.filter (notAt e.f0)) :=
  List.pairwise_cons.2 ⟨fun z hz => (notAt_iff.1 (List.mem_filter.1 hz).2).symm, asc_apart (h.filter _)⟩
/-- Set is: the row without the path, the entry beside it, sorted. -/
theorem setR_sort (e : Entry) {l : List Entry} (h : l.Pairwise ltE) : setR e l = sortE (e :: l.filter (notAt e.f0)) := by
  refine asc_unique _ _ (setR_asc e l h) (sortE_asc _ (set_apart e h)) (fun x => ?_)
  rw [setR_mem, (sortE_perm _).mem_iff, List.mem_cons, List.mem_filter, notAt_iff]
theorem treeOk_pair {l : List Entry} (h : treeOk l = true) : l.Pairwise ltE := by
  rw [List.pairwise_iff_getElem]
  intro i j hi hj hij
  exact treeOk_lt h hij hj
theorem pathOk_size {s : ByteArray} {g : Bool} (h : pathOk s g = true) : s.size ≤ 126 := by
  rcases Nat.lt_or_ge 126 s.size with h' | h'
  · rw [pathOk_long s g h'] at h
    cases h
  · exact h'
theorem treeOk_path {l : List Entry} (h : treeOk l = true) {i : Nat} (hi : i < l.length) : pathOk l[i].f0 false = true := by
  have := treeOk_rows h i hi
  unfold rowOk entryOk at this
  rw [rdE_eq hi] at this
  by_cases hp : pathOk l[i].f0 false = true
  · exact hp
  · rw [if_neg hp] at this
    cases this
theorem treeOk_size {l : List Entry} (h : treeOk l = true) {i : Nat} (hi : i < l.length) : l[i].f0.size ≤ 126 := pathOk_size (treeOk_path h hi)
theorem treeOk_size' {l : List Entry} (h : treeOk l = true) : ∀ e ∈ l, e.f0.size ≤ 126 := by
  intro e he
  obtain ⟨i, hi, rfl⟩ := List.getElem_of_mem he
  exact treeOk_size h hi
theorem treeOk_len100 {l : List Entry} (h : treeOk l = true) : l.length ≤ 100 := by
  unfold treeOk at h
  split at h
  · cases h
  · omega
theorem impl_sorted_eq {l : List Entry} (hl : l.length ≤ 1000) (h : Apart l) : impl_sorted.f l = some (sortE l) := if_pos ⟨by omega, h⟩

end Go.Proofs.YtkdghhkpmkfjhaaDoor.Pure


namespace Go.Proofs.YtkdghhkpmkfjhaaDoor.Pure
open Go Go.RowKit Go.Proofs.YtkdghhkpmkfjhaaDoor.P Go.Proofs.YtkdghhkpmkfjhaaDoorW.PrintWords Go.Proofs.YtkdghhkpmkfjhaaDoorW.PrintLast
set_option linter.unusedVariables false
set_option linter.unusedSimpArgs false

def atM (dir : ByteArray) (e : Entry) : Entry := ⟨dir ++ (⟨#[47]⟩ : ByteArray) ++ e.f0, e.f1, e.f2⟩
def badSub (dir : ByteArray) (s : List Entry) : Bool := s.any fun e => !pathOk (atM dir e).f0 false
def blocks (dir : ByteArray) (e : Entry) : Bool := decide (e.f0.toList = dir.toList) || begins e.f0 dir
def keepM (dir : ByteArray) (l : List Entry) : List Entry := l.filter fun e => !begins dir e.f0
def foldM' (dir : ByteArray) : List Entry → List Entry → List Entry
  | acc, [] => acc
  | acc, e :: r => foldM' dir (setR (atM dir e) acc) r
def finM (o : List Entry) : List Entry × Int := if (o.length : Int) > 100 then ([], 4) else (o, 0)
def mountT (l : List Entry) (dir : ByteArray) (s : List Entry) : List Entry := s.map (atM dir) ++ keepM dir l
def mountR (l : List Entry) (dir : ByteArray) (s : List Entry) : List Entry × Int := if badSub dir s = true then ([], 2) else if l.any (blocks dir) = true then ([], 3) else if ((mountT l dir s).length : Int) > 100 then ([], 4) else (sortE (mountT l dir s), 0)
def mount (l : List Entry) (dir : ByteArray) (s : List Entry) : List Entry × Int := if treeOk l = true then (if treeOk s = true then (if pathOk dir false = true then mountR l dir s else ([], 1)) else ([], 1)) else ([], 1)

theorem atM_data (dir : ByteArray) (e : Entry) : (atM dir e).f0.data.toList = dir.data.toList ++ [47] ++ e.f0.data.toList := by
  show (dir ++ (⟨#[47]⟩ : ByteArray) ++ e.f0).data.toList = _
  rw [data_append, data_append]
theorem atM_begins (dir : ByteArray) (e : Entry) : begins dir (atM dir e).f0 = true := by
  unfold begins Lib.hasPrefix
  rw [List.isPrefixOf_iff_prefix, atM_data]
  exact ⟨e.f0.data.toList, rfl⟩
theorem toList_ba {a b : ByteArray} (h : a.toList = b.toList) : a = b := ba_ext (by rw [← Lib.toList_data, h, Lib.toList_data])
theorem atM_inj {dir : ByteArray} {a b : Entry} (h : (atM dir a).f0.toList = (atM dir b).f0.toList) : a.f0.toList = b.f0.toList := by
  rw [Lib.toList_data, Lib.toList_data, atM_data, atM_data] at h
  rw [Lib.toList_data, Lib.toList_data]
  exact List.append_cancel_left h
theorem sz1 (a : ByteArray) : (a ++ (⟨#[47]⟩ : ByteArray)).size = a.size + 1 := ByteArray.size_append
theorem foldM_asc (dir : ByteArray) : ∀ (r acc : List Entry), acc.Pairwise ltE → (foldM' dir acc r).Pairwise ltE
  | [], _, h => h
  | e :: r, acc, h => foldM_asc dir r _ (setR_asc (atM dir e) acc h)
theorem foldM_mem (dir : ByteArray) : ∀ (r acc : List Entry) (x : Entry), Apart (r.map (atM dir)) → (x ∈ foldM' dir acc r ↔ x ∈ r.map (atM dir) ∨ (x ∈ acc ∧ ∀ y ∈ r.map (atM dir), x.f0.toList ≠ y.f0.toList))
  | [], acc, x, _ => by simp [foldM']
  | e :: r, acc, x, h => by
    rw [List.map_cons] at h ⊢
    obtain ⟨h1, h2⟩ := List.pairwise_cons.1 h
    show x ∈ foldM' dir (setR (atM dir e) acc) r ↔ _
    rw [foldM_mem dir r _ x h2, setR_mem, List.mem_cons]
    constructor
    · rintro (hx | ⟨rfl | ⟨ha, hn⟩, hy⟩)
      · exact .inl (.inr hx)
      · exact .inl (.inl rfl)
      · refine .inr ⟨ha, fun y hm => ?_⟩
        rcases List.mem_cons.1 hm with rfl | hm
        · exact hn
        · exact hy y hm
    · rintro ((rfl | hx) | ⟨ha, hy⟩)
      · exact .inr ⟨.inl rfl, h1⟩
      · exact .inl hx
      · exact .inr ⟨.inr ⟨ha, hy _ List.mem_cons_self⟩, fun y hm => hy y (List.mem_cons_of_mem _ hm)⟩
theorem mount_cross {dir : ByteArray} {l s : List Entry} {x y : Entry} (hx : x ∈ s.map (atM dir)) (hy : y ∈ keepM dir l) : x.f0.toList ≠ y.f0.toList := by
  intro h
  obtain ⟨e, _, rfl⟩ := List.mem_map.1 hx
  have h1 := (List.mem_filter.1 hy).2
  rw [← toList_ba h, atM_begins] at h1
  cases h1
theorem map_apart {dir : ByteArray} {s : List Entry} (h : s.Pairwise ltE) : Apart (s.map (atM dir)) := by
  unfold Apart
  rw [List.pairwise_map]
  exact List.Pairwise.imp (fun {a b} hn e => hn (atM_inj e)) (asc_apart h)
theorem mountT_apart {dir : ByteArray} {l s : List Entry} (hl : l.Pairwise ltE) (hs : s.Pairwise ltE) : Apart (mountT l dir s) :=
  List.pairwise_append.2 ⟨map_apart hs, asc_apart (hl.filter _), fun _ hx _ hy => mount_cross hx hy⟩
theorem mount_eq {dir : ByteArray} {l s : List Entry} (hl : l.Pairwise ltE) (hs : s.Pairwise ltE) : foldM' dir (keepM dir l) s = sortE (mountT l dir s) := by
  refine asc_unique _ _ (foldM_asc dir s _ (hl.filter _)) (sortE_asc _ (mountT_apart hl hs)) (fun x => ?_)
  rw [foldM_mem dir s _ x (map_apart hs), (sortE_perm _).mem_iff, mountT, List.mem_append]
  constructor
  · rintro (h | ⟨h, _⟩)
    · exact .inl h
    · exact .inr h
  · rintro (h | h)
    · exact .inl h
    · exact .inr ⟨h, fun y hy => (mount_cross hy h).symm⟩
theorem badSub_cons (dir : ByteArray) (e : Entry) (r : List Entry) : badSub dir (e :: r) = (!pathOk (atM dir e).f0 false || badSub dir r) := rfl
section
variable (l s : List Entry) (hl : l.length ≤ 100) (hs : s.length ≤ 100) (dir : ByteArray) (hd0 : dir.size ≤ 126) (hz : ∀ e ∈ s, e.f0.size ≤ 126)
include hs hd0 hz
theorem spec_M2 : ∀ (d i : Nat) (acc : List Entry), i + d = s.length → acc.length ≤ 100 + i → Ev (fun k => spec_Mount.l2 k dir (i : Int) s acc) (finM (foldM' dir acc (s.drop i)))
  | 0, i, acc, hd, ha => by
    rw [List.drop_of_length_le (by omega)]
    refine Ev.step (fun k => spec_Mount.l2.eq_2 ..) (Ev.neg (by omega) ?_)
    exact Ev.both (fun _ => Ev.now _) (fun _ => Ev.now _)
  | d + 1, i, acc, hd, ha => by
    have hi : i < s.length := by omega
    have hzi := hz s[i] (List.getElem_mem hi)
    have h1 := sz1 dir
    refine Ev.step (fun k => spec_Mount.l2.eq_2 ..) (Ev.pos (by omega) (Ev.pos (by omega) (Ev.pos (by omega) ?_)))
    rw [rdE_eq hi, w64 (n := (i : Int) + 1) (by omega) (by omega), show (i : Int) + 1 = ((i + 1 : Nat) : Int) from by omega, List.drop_eq_getElem_cons hi]
    refine Ev.pos (by omega) (Ev.bind (spec_set_ev acc (by omega) _ _ _) ?_)
    have := setR_len (atM dir s[i]) acc
    exact spec_M2 d (i + 1) (setR (atM dir s[i]) acc) (by omega) (by omega)
include hl
theorem spec_M1 : ∀ (d i : Nat) (acc : List Entry), i + d = l.length → acc.length ≤ i → Ev (fun k => spec_Mount.l1 k dir (i : Int) l s acc) (if (l.drop i).any (blocks dir) = true then ([], 3) else finM (foldM' dir (acc ++ keepM dir (l.drop i)) s))
  | 0, i, acc, hd, ha => by
    rw [List.drop_of_length_le (by omega)]
    refine Ev.step (fun k => spec_Mount.l1.eq_2 ..) (Ev.neg (by omega) ?_)
    rw [if_neg (by simp)]
    show Ev _ (finM (foldM' dir (acc ++ []) s))
    rw [List.append_nil]
    exact spec_M2 s hs dir hd0 hz s.length 0 acc (by omega) (by omega)
  | d + 1, i, acc, hd, ha => by
    have hi : i < l.length := by omega
    refine Ev.step (fun k => spec_Mount.l1.eq_2 ..) (Ev.pos (by omega) (Ev.pos (by omega) ?_))
    rw [rdE_eq hi, List.drop_eq_getElem_cons hi, List.any_cons, spec_begins_eq]
    by_cases h1 : l[i].f0.toList = dir.toList
    · rw [if_pos (by simp [blocks, h1])]
      exact Ev.pos h1 (Ev.step (fun k => spec_Mount.j3.eq_2 ..) (Ev.pos rfl (Ev.now _)))
    · refine Ev.neg h1 (Ev.sb (Ev.step (fun k => spec_Mount.j3.eq_2 ..) ?_))
      by_cases h2 : begins l[i].f0 dir = true
      · rw [if_pos (by simp [blocks, h2])]
        exact Ev.pos h2 (Ev.now _)
      · rw [show blocks dir l[i] = false from by simp [blocks, h1, h2], Bool.false_or, spec_begins_eq, rdE_eq hi, w64 (n := (i : Int) + 1) (by omega) (by omega), show (i : Int) + 1 = ((i + 1 : Nat) : Int) from by omega]
        refine Ev.neg h2 (Ev.sb ?_)
        by_cases h3 : begins dir l[i].f0 = true
        · rw [show keepM dir (l[i] :: l.drop (i + 1)) = keepM dir (l.drop (i + 1)) from List.filter_cons_of_neg (by simp [h3])]
          exact Ev.pos h3 (spec_M1 d (i + 1) acc (by omega) (by omega))
        · rw [show acc ++ keepM dir (l[i] :: l.drop (i + 1)) = (acc ++ [l[i]]) ++ keepM dir (l.drop (i + 1)) from by rw [show keepM dir (l[i] :: l.drop (i + 1)) = l[i] :: keepM dir (l.drop (i + 1)) from List.filter_cons_of_pos (by simp [h3])]; exact List.append_cons ..]
          exact Ev.neg h3 (Ev.pos (by omega) (Ev.pos (by omega) (Ev.pos (by omega) (spec_M1 d (i + 1) (acc ++ [l[i]]) (by omega) (by rw [List.length_append, List.length_singleton]; omega)))))
theorem spec_M0 : ∀ (d i : Nat), i + d = s.length → Ev (fun k => spec_Mount.l0 k dir (i : Int) l s) (if badSub dir (s.drop i) = true then ([], 2) else if l.any (blocks dir) = true then ([], 3) else finM (foldM' dir (keepM dir l) s))
  | 0, i, hd => by
    rw [List.drop_of_length_le (by omega)]
    refine Ev.step (fun k => spec_Mount.l0.eq_2 ..) (Ev.neg (by omega) ?_)
    rw [if_neg (by simp [badSub])]
    exact spec_M1 l s hl hs dir hd0 hz l.length 0 [] (by omega) (by simp)
  | d + 1, i, hd => by
    have hi : i < s.length := by omega
    have hzi := hz s[i] (List.getElem_mem hi)
    have h1 := sz1 dir
    refine Ev.step (fun k => spec_Mount.l0.eq_2 ..) (Ev.pos (by omega) (Ev.pos (by omega) (Ev.pos (by omega) ?_)))
    rw [rdE_eq hi, w64 (n := (i : Int) + 1) (by omega) (by omega), show (i : Int) + 1 = ((i + 1 : Nat) : Int) from by omega, List.drop_eq_getElem_cons hi, badSub_cons]
    refine Ev.pos (by omega) (Ev.bind (spec_path_ev _) ?_)
    by_cases h2 : pathOk (atM dir s[i]).f0 false = true
    · rw [h2, Bool.not_true, Bool.false_or]
      exact Ev.pos h2 (spec_M0 d (i + 1) (by omega))
    · rw [Bool.eq_false_iff.2 h2, Bool.not_false, Bool.true_or, if_pos rfl]
      exact Ev.neg h2 (Ev.now _)
omit hs hz in
theorem impl_M1 (hzl : ∀ e ∈ l, e.f0.size ≤ 126) (T : List Entry) (hT : Apart T) : ∀ (d i : Nat) (acc : List Entry), i + d = l.length → acc.length ≤ 100 + i → acc ++ keepM dir (l.drop i) = T →
    Ev (fun k => impl_Mount.l1 k dir acc l (l.length : Int) (i : Int)) (if (l.drop i).any (blocks dir) = true then ([], 3) else if (T.length : Int) > 100 then ([], 4) else (sortE T, 0))
  | 0, i, acc, hd, ha, h => by
    rw [List.drop_of_length_le (by omega)] at h ⊢
    obtain rfl : acc = T := by rw [← h]; exact (List.append_nil acc).symm
    refine Ev.step (fun k => impl_Mount.l1.eq_2 ..) (Ev.neg (by omega) ?_)
    rw [List.any_nil, if_neg (show ¬ (false = true) by simp)]
    refine Ev.both (fun _ => Ev.now _) (fun h => ?_)
    rw [impl_sorted_eq (by omega) hT]
    exact Ev.now _
  | d + 1, i, acc, hd, ha, h => by
    have hi : i < l.length := by omega
    have hzi := hzl l[i] (List.getElem_mem hi)
    refine Ev.step (fun k => impl_Mount.l1.eq_2 ..) (Ev.pos (by omega) (Ev.pos (by omega) (Ev.pos (by omega) ?_)))
    rw [List.drop_eq_getElem_cons hi] at h
    rw [rdE_eq hi, List.drop_eq_getElem_cons hi, List.any_cons, impl_over_eq _ _ (by omega)]
    by_cases h1 : l[i].f0.toList = dir.toList
    · rw [if_pos (by simp [blocks, h1])]
      exact Ev.pos h1 (Ev.step (fun k => impl_Mount.j3.eq_2 ..) (Ev.pos rfl (Ev.now _)))
    · refine Ev.neg h1 (Ev.sb (Ev.step (fun k => impl_Mount.j3.eq_2 ..) ?_))
      by_cases h2 : begins l[i].f0 dir = true
      · rw [if_pos (by simp [blocks, h2])]
        exact Ev.pos h2 (Ev.now _)
      · rw [show blocks dir l[i] = false from by simp [blocks, h1, h2], Bool.false_or, impl_over_eq _ _ (by omega), w64 (n := (i : Int) + 1) (by omega) (by omega), show (i : Int) + 1 = ((i + 1 : Nat) : Int) from by omega]
        refine Ev.neg h2 (Ev.sb ?_)
        by_cases h3 : begins dir l[i].f0 = true
        · rw [show keepM dir (l[i] :: l.drop (i + 1)) = keepM dir (l.drop (i + 1)) from List.filter_cons_of_neg (by simp [h3])] at h
          exact Ev.pos h3 (impl_M1 hzl T hT d (i + 1) acc (by omega) (by omega) h)
        · rw [show acc ++ keepM dir (l[i] :: l.drop (i + 1)) = (acc ++ [l[i]]) ++ keepM dir (l.drop (i + 1)) from by rw [show keepM dir (l[i] :: l.drop (i + 1)) = l[i] :: keepM dir (l.drop (i + 1)) from List.filter_cons_of_pos (by simp [h3])]; exact List.append_cons ..] at h
          exact Ev.neg h3 (Ev.pos (by omega) (impl_M1 hzl T hT d (i + 1) (acc ++ [l[i]]) (by omega) (by rw [List.length_append, List.length_singleton]; omega) h))
omit hl in
theorem impl_M0 (R : List Entry × Int) (hR : Ev (fun k => impl_Mount.l1 k dir (s.map (atM dir)) l (l.length : Int) 0) R) : ∀ (d i : Nat) (acc : List Entry), i + d = s.length → acc.length ≤ i → acc ++ (s.drop i).map (atM dir) = s.map (atM dir) →
    Ev (fun k => impl_Mount.l0 k dir acc s (s.length : Int) (i : Int) l) (if badSub dir (s.drop i) = true then ([], 2) else R)
  | 0, i, acc, hd, ha, h => by
    rw [List.drop_of_length_le (by omega)] at h ⊢
    obtain rfl : acc = s.map (atM dir) := by rw [← h]; exact (List.append_nil acc).symm
    refine Ev.step (fun k => impl_Mount.l0.eq_2 ..) (Ev.neg (by omega) ?_)
    rw [if_neg (by simp [badSub])]
    exact hR
  | d + 1, i, acc, hd, ha, h => by
    have hi : i < s.length := by omega
    have hzi := hz s[i] (List.getElem_mem hi)
    have h1 := sz1 dir
    have hsz : (atM dir s[i]).f0.size = dir.size + 1 + s[i].f0.size := by
      show (dir ++ (⟨#[47]⟩ : ByteArray) ++ s[i].f0).size = _
      rw [ByteArray.size_append, h1]
    refine Ev.step (fun k => impl_Mount.l0.eq_2 ..) (Ev.pos (by omega) (Ev.pos (by omega) (Ev.pos (by omega) (Ev.pos (by omega) ?_))))
    rw [List.drop_eq_getElem_cons hi, List.map_cons, List.append_cons] at h
    rw [rdE_eq hi, w64 (n := (i : Int) + 1) (by omega) (by omega), show (i : Int) + 1 = ((i + 1 : Nat) : Int) from by omega, List.drop_eq_getElem_cons hi, badSub_cons]
    refine Ev.pos (by omega) (Ev.bind (impl_path_ev (atM dir s[i]).f0 (by omega)) ?_)
    by_cases h2 : pathOk (atM dir s[i]).f0 false = true
    · rw [h2, Bool.not_true, Bool.false_or]
      exact Ev.pos rfl (Ev.pos (by omega) (impl_M0 R hR d (i + 1) (acc ++ [atM dir s[i]]) (by omega) (by rw [List.length_append, List.length_singleton]; omega) h))
    · rw [Bool.eq_false_iff.2 h2, Bool.not_false, Bool.true_or, if_pos rfl]
      exact Ev.neg (by simp) (Ev.now _)
end
theorem spec_Mount_ev (l s : List Entry) (dir : ByteArray) : Ev (fun k => spec_Mount.f k l dir s) (mount l dir s) := by
  unfold spec_Mount.f mount
  refine Ev.bind (spec_ValidTree_ev l) ?_
  by_cases h : treeOk l = true
  · rw [if_pos h]
    refine Ev.pos h (Ev.bind (spec_ValidTree_ev s) ?_)
    by_cases h2 : treeOk s = true
    · rw [if_pos h2]
      refine Ev.pos h2 (Ev.bind (spec_path_ev dir) (Ev.step (fun k => spec_Mount.j0.eq_2 ..) ?_))
      by_cases h3 : pathOk dir false = true
      · rw [if_pos h3, h3]
        refine Ev.neg (by simp) ?_
        have := spec_M0 l s (treeOk_len100 h) (treeOk_len100 h2) dir (pathOk_size h3) (treeOk_size' h2) s.length 0 (by omega)
        rw [mount_eq (treeOk_pair h) (treeOk_pair h2)] at this
        unfold finM at this
        rw [(sortE_perm _).length_eq] at this
        exact this
      · rw [if_neg h3, Bool.eq_false_iff.2 h3]
        exact Ev.pos rfl (Ev.now _)
    · rw [if_neg h2]
      exact Ev.neg h2 (Ev.step (fun k => spec_Mount.j0.eq_2 ..) (Ev.pos rfl (Ev.now _)))
  · rw [if_neg h]
    exact Ev.neg h (Ev.step (fun k => spec_Mount.j0.eq_2 ..) (Ev.pos rfl (Ev.now _)))
theorem impl_Mount_ev (l s : List Entry) (hzl : ∀ e ∈ l, e.f0.size ≤ 1048576) (hzs : ∀ e ∈ s, e.f0.size ≤ 1048576) (dir : ByteArray) (hd : dir.size ≤ 1048576) : Ev (fun k => impl_Mount.f k l dir s) (mount l dir s) := by
  unfold impl_Mount.f mount
  refine Ev.bind (impl_ValidTree_ev l hzl) ?_
  by_cases h : treeOk l = true
  · rw [if_pos h]
    refine Ev.pos h (Ev.bind (impl_ValidTree_ev s hzs) ?_)
    by_cases h2 : treeOk s = true
    · rw [if_pos h2]
      refine Ev.pos h2 (Ev.bind (impl_path_ev dir hd) (Ev.step (fun k => impl_Mount.j0.eq_2 ..) ?_))
      by_cases h3 : pathOk dir false = true
      · rw [if_pos h3, h3]
        refine Ev.neg (by simp) ?_
        refine impl_M0 l s (treeOk_len100 h2) dir (pathOk_size h3) (treeOk_size' h2) _ ?_ s.length 0 [] (by omega) (by simp) rfl
        exact impl_M1 l (treeOk_len100 h) dir (pathOk_size h3) (treeOk_size' h) (mountT l dir s) (mountT_apart (treeOk_pair h) (treeOk_pair h2)) l.length 0 _ (by omega) (by rw [List.length_map]; have := treeOk_len100 h2; omega) rfl
      · rw [if_neg h3, Bool.eq_false_iff.2 h3]
        exact Ev.pos rfl (Ev.now _)
    · rw [if_neg h2]
      exact Ev.neg h2 (Ev.step (fun k => impl_Mount.j0.eq_2 ..) (Ev.pos rfl (Ev.now _)))
  · rw [if_neg h]
    exact Ev.neg h (Ev.step (fun k => impl_Mount.j0.eq_2 ..) (Ev.pos rfl (Ev.now _)))
theorem mount_len (l s : List Entry) (dir : ByteArray) : (mount l dir s).1.length ≤ 100 := by
  unfold mount mountR
  split
  · split
    · split
      · split
        · simp
        · split
          · simp
          · split
            · simp
            · show (sortE (mountT l dir s)).length ≤ 100
              rw [(sortE_perm _).length_eq]
              omega
      · simp
    · simp
  · simp

end Go.Proofs.YtkdghhkpmkfjhaaDoor.Pure


namespace Go.Proofs.YtkdghhkpmkfjhaaDoor.Pure
open Go Go.RowKit Go.Proofs.YtkdghhkpmkfjhaaDoor.P Go.Proofs.YtkdghhkpmkfjhaaDoorW.PrintWords Go.Proofs.YtkdghhkpmkfjhaaDoorW.PrintLast
set_option linter.unusedVariables false
set_option linter.unusedSimpArgs false

/-- Marks that begin behind others. -/
theorem marksFrom_ev : ∀ (d i m : Nat) (l : List Entry), i + d = l.length → m + d ≤ 2200000 → l.length ≤ 2200000 → Evs (fun k => laws_markEntryS.l0 k l ((1 + 3 * m : Nat) : Int) (i : Int)) (fun r => r.1 = ((1 + 3 * (m + d) : Nat) : Int))
  | 0, i, m, l, hd, hm, hl => Evs.step (fun k => laws_markEntryS.l0.eq_2 ..) (Evs.neg (by omega) (Evs.ret (by show ((1 + 3 * m : Nat) : Int) = _; omega)))
  | d + 1, i, m, l, hd, hm, hl => by
    have hi : i < l.length := by omega
    refine Evs.step (fun k => laws_markEntryS.l0.eq_2 ..) (Evs.pos (by omega) (Evs.bind (Evs.of (mark_spec (1 + 3 * m) (by omega)) (Q := fun t => t = mark (1 + 3 * m)) rfl) (fun t ht => Evs.pos (by omega) ?_)))
    subst ht
    rw [Int.toNat_natCast, w64 (n := ((1 + 3 * m : Nat) : Int) + 1) (by omega) (by omega), show ((1 + 3 * m : Nat) : Int) + 1 = ((2 + 3 * m : Nat) : Int) from by omega, w64 (n := ((2 + 3 * m : Nat) : Int) + 1) (by omega) (by omega), show ((2 + 3 * m : Nat) : Int) + 1 = ((3 + 3 * m : Nat) : Int) from by omega, w64 (n := ((3 + 3 * m : Nat) : Int) + 1) (by omega) (by omega), show ((3 + 3 * m : Nat) : Int) + 1 = ((1 + 3 * (m + 1) : Nat) : Int) from by omega, w64 (n := (i : Int) + 1) (by omega) (by omega), show (i : Int) + 1 = ((i + 1 : Nat) : Int) from by omega]
    refine Evs.sb (Evs.bind (Evs.of (mark_spec (2 + 3 * m) (by omega)) (Q := fun t => t = mark (2 + 3 * m)) rfl) (fun t ht => ?_))
    subst ht
    refine Evs.sb ?_
    simp only [rdE_set hi, List.set_set]
    have e2 : ∀ a : Entry, rd_T45 (l.set i a) (i : Int) = a := rdE_set hi
    refine (marksFrom_ev d (i + 1) (m + 1) (l.set i _) (by rw [List.length_set]; omega) (by omega) (by rw [List.length_set]; omega)).mono (fun r hr => ?_)
    rw [hr]
    omega
theorem ofE_smallM {l : List LEntry} {left : Int} (h1 : left ≤ 1048576) (h : ∀ s ∈ l, (s.f0.size : Int) ≤ left ∧ (s.f1.size : Int) ≤ left) : ∀ e ∈ l.map ofE, e.f0.size ≤ 1048576 := by
  intro e he
  obtain ⟨s, hs, rfl⟩ := List.mem_map.1 he
  have := (h s hs).1
  show s.f0.size ≤ 1048576
  omega
theorem FnExactMount (l : List LEntry) (dir : ByteArray) (s : List LEntry) (h : l.length * 40 ≤ 140737488351232 ∧ ∀ x ∈ l, Small62 x) (_hb : dir.size ≤ 140737488351232) (hh : s.length * 40 ≤ 140737488351232 ∧ ∀ x ∈ s, Small62 x) : ∃ k, laws_FnExactMount.f k l dir s = some true := by
  apply Ev.rounds
  unfold laws_FnExactMount.f
  by_cases hb : (dir.size : Int) > 1048576
  · exact Ev.pos hb (Ev.now _)
  refine Ev.neg hb ?_
  obtain ⟨r, hr, hR⟩ := szTree_ev l (by omega) (fun x hx => ⟨(h.2 x hx).1, (h.2 x hx).2.1⟩) 1048576 (by omega) (by omega)
  refine Ev.bind hr ?_
  rcases hR with rfl | ⟨a, b, c, d⟩
  · exact Ev.pos (by omega) (Ev.now _)
  refine Ev.neg (by omega) ?_
  obtain ⟨r2, hr2, hR2⟩ := szTree_ev s (by omega) (fun x hx => ⟨(hh.2 x hx).1, (hh.2 x hx).2.1⟩) r a b
  refine Ev.bind hr2 ?_
  rcases hR2 with rfl | ⟨a2, b2, c2, d2⟩
  · exact Ev.pos (by omega) (Ev.now _)
  have T := toTree_ev l (by omega)
  have T2 := toTree_ev s (by omega)
  have hl : (l.map ofE).length ≤ 1048576 := by rw [List.length_map]; omega
  have hl2 : (s.map ofE).length ≤ 1048576 := by rw [List.length_map]; omega
  have hs := ofE_smallM (l := l) (left := 1048576) (by omega) d
  have hs2 := ofE_smallM (l := s) (left := r) (by omega) d2
  generalize l.map ofE = X at T hl hs
  generalize s.map ofE = Y at T2 hl2 hs2
  have S := spec_Mount_ev X Y dir
  have I := impl_Mount_ev X Y hs hs2 dir (by omega)
  have hu := mount_len X Y dir
  generalize mount X dir Y = R at S I hu
  have Q := eqTree_ev R.1 (by omega)
  obtain ⟨L, _, m1, _⟩ := markedTree_ev X (by omega)
  obtain ⟨p, p1, hp⟩ := marksFrom_ev Y.length 0 X.length Y (by omega) (by omega) (by omega)
  obtain ⟨L2, _, m2, h2⟩ := markedTree_ev R.1 (by omega)
  have m3 : Ev (fun k => laws_markTree.f k Y ((1 + 3 * X.length : Nat) : Int)) p := by
    unfold laws_markTree.f laws_markEntryS.f
    exact Ev.bind hp (Ev.now _)
  have J2 : Ev (fun k => laws_FnExactMount.j2 k ((1 + 3 * R.1.length : Nat) : Int) (R.2 != R.2) L2) true := by
    refine Ev.step (fun k => laws_FnExactMount.j2.eq_2 ..) (Ev.neg (by simp) (Ev.bind h2 (Ev.neg (by omega) (Ev.pos rfl (Ev.now _)))))
  have J1 : Ev (fun k => laws_FnExactMount.j1 k dir R.2 (R.2 != R.2) l s R.1 R.1) true := by
    refine Ev.step (fun k => laws_FnExactMount.j1.eq_2 ..) (Ev.neg (by simp) (Ev.bind m2 (Ev.bind h2 (Ev.neg (by omega) (Ev.pos rfl ?_)))))
    exact Ev.bind T (Ev.bind T2 (Ev.bind I (Ev.bind Q (Ev.pos rfl J2))))
  have J0 : Ev (fun k => laws_FnExactMount.j0 k dir R.2 R.2 (R.2 != R.2) l s R.1 X Y R.1) true := by
    refine Ev.step (fun k => laws_FnExactMount.j0.eq_2 ..) (Ev.neg (by simp) (Ev.bind T (Ev.bind (eqTree_ev X (by omega)) (Ev.pos rfl (Ev.bind T2 (Ev.bind (eqTree_ev Y (by omega)) (Ev.pos rfl (Ev.bind m1 (Ev.bind m3 (Ev.neg (by omega) (Ev.bind Q (Ev.pos rfl J1))))))))))))
  exact Ev.neg (by omega) (Ev.bind T (Ev.bind T2 (Ev.bind S (Ev.bind T (Ev.bind T2 (Ev.bind I (Ev.bind Q (Ev.pos rfl J0))))))))

end Go.Proofs.YtkdghhkpmkfjhaaDoor.Pure

