/- Several texts of this claim in one file: YtgnmledjkamojaaDoorApply, YtgnmledjkamojaaDoorPureFnExactApply. -/
import Derived.Test.YtgnmledjkamojaaDoorM8
import Derived.Test.YtgnmledjkamojaaDoorM6
import Derived.Test.YtgnmledjkamojaaDoorM7
import Derived.Test.YtgnmledjkamojaaDoorM3
namespace Go.Proofs.YtgnmledjkamojaaDoor.Pure
open Go Go.RowKit Go.Proofs.YtgnmledjkamojaaDoor.P Go.Proofs.YtgnmledjkamojaaDoorW.PrintWords Go.Proofs.YtgnmledjkamojaaDoorW.PrintLast
set_option linter.unusedVariables false
set_option linter.unusedSimpArgs false

theorem mget_mput {α : Type} (z v : α) (k q : ByteArray) : ∀ M : List (ByteArray × α), mget z q (mput k v M) = if k.toList = q.toList then v else mget z q M
  | [] => by
    unfold mput mget
    split
    · rfl
    · rfl
  | p :: r => by
    by_cases hp : p.1.toList = k.toList
    · rw [mput, if_pos hp]
      by_cases hk : k.toList = q.toList
      · rw [if_pos hk, mget, if_pos hk]
      · rw [if_neg hk, mget, if_neg hk, mget, if_neg (by rw [hp]; exact hk)]
    · rw [mput, if_neg hp]
      by_cases hq : p.1.toList = q.toList
      · rw [mget, if_pos hq, if_neg (by rw [← hq]; exact fun e => hp e.symm), mget, if_pos hq]
      · rw [mget, if_neg hq, mget_mput z v k q r]
        by_cases hk : k.toList = q.toList
        · rw [if_pos hk, if_pos hk]
        · rw [if_neg hk, if_neg hk, mget, if_neg hq]
theorem mhas_key {α : Type} (k : ByteArray) : ∀ M : List (ByteArray × α), mhas k M = true → k ∈ M.map (·.1)
  | [], h => by cases h
  | p :: r, h => by
    unfold mhas at h
    split at h
    · rename_i e
      rw [List.map_cons, str_eq e]
      exact List.mem_cons_self
    · rw [List.map_cons]
      exact List.mem_cons_of_mem _ (mhas_key k r h)
/-- What lies under a path. -/
def fileAt (l : List Entry) (p : ByteArray) : FileT := match l.find? (fun e => decide (e.f0.toList = p.toList)) with
  | some e => fileE e
  | none => noF
theorem fileAt_cons (e : Entry) (r : List Entry) (p : ByteArray) : fileAt (e :: r) p = if e.f0.toList = p.toList then fileE e else fileAt r p := by
  unfold fileAt
  rw [List.find?_cons]
  by_cases h : e.f0.toList = p.toList
  · rw [decide_eq_true h, if_pos h]
  · rw [decide_eq_false h, if_neg h]
theorem fileAt_none {p : ByteArray} : ∀ {l : List Entry}, (∀ e ∈ l, e.f0.toList ≠ p.toList) → fileAt l p = noF
  | [], _ => rfl
  | e :: r, h => by
    rw [fileAt_cons, if_neg (h e List.mem_cons_self)]
    exact fileAt_none (fun x hx => h x (List.mem_cons_of_mem _ hx))
theorem fileAt_some {p : ByteArray} {e : Entry} : ∀ {l : List Entry}, Apart l → e ∈ l → e.f0.toList = p.toList → fileAt l p = fileE e
  | [], _, h, _ => by cases h
  | x :: r, ha, h, he => by
    obtain ⟨h1, h2⟩ := List.pairwise_cons.1 ha
    rw [fileAt_cons]
    rcases List.mem_cons.1 h with rfl | h
    · rw [if_pos he]
    · rw [if_neg (by rw [← he]; exact h1 e h)]
      exact fileAt_some h2 h he
theorem fileAt_there {p : ByteArray} : ∀ {l : List Entry}, (fileAt l p).1 = true → ∃ e ∈ l, e.f0.toList = p.toList ∧ fileAt l p = fileE e
  | [], h => by cases h
  | x :: r, h => by
    rw [fileAt_cons] at h ⊢
    by_cases hx : x.f0.toList = p.toList
    · rw [if_pos hx]
      exact ⟨x, List.mem_cons_self, hx, rfl⟩
    · rw [if_neg hx] at h ⊢
      obtain ⟨e, he, h1, h2⟩ := fileAt_there h
      exact ⟨e, List.mem_cons_of_mem _ he, h1, h2⟩
theorem files_at (p : ByteArray) : ∀ (l : List Entry) (M : List (ByteArray × FileT)), Apart l → mget noF p (filesFrom M l) = if (∃ e ∈ l, e.f0.toList = p.toList) then fileAt l p else mget noF p M
  | [], M, _ => by
    rw [if_neg (by simp)]
    rfl
  | e :: r, M, ha => by
    obtain ⟨h1, h2⟩ := List.pairwise_cons.1 ha
    show mget noF p (filesFrom (mput e.f0 (fileE e) M) r) = _
    rw [files_at p r _ h2, mget_mput, fileAt_cons]
    by_cases he : e.f0.toList = p.toList
    · rw [if_neg (fun ⟨x, hx, hp⟩ => h1 x hx (by rw [he, hp])), if_pos he, if_pos ⟨e, List.mem_cons_self, he⟩, if_pos he]
    · rw [if_neg he, if_neg he]
      by_cases hr : ∃ x ∈ r, x.f0.toList = p.toList
      · obtain ⟨x, hx, hp⟩ := hr
        rw [if_pos ⟨x, hx, hp⟩, if_pos ⟨x, List.mem_cons_of_mem _ hx, hp⟩]
      · rw [if_neg hr, if_neg (fun ⟨x, hx, hp⟩ => by
          rcases List.mem_cons.1 hx with rfl | hx
          · exact he hp
          · exact hr ⟨x, hx, hp⟩)]
theorem filesM_at {l : List Entry} (ha : Apart l) (p : ByteArray) : mget noF p (filesM l) = fileAt l p := by
  unfold filesM
  rw [files_at p l [] ha]
  split
  · rfl
  · rename_i h
    exact (fileAt_none (fun e he hp => h ⟨e, he, hp⟩)).symm
def lay (l : List Entry) (p : ByteArray) (f : S122) : List Entry := if f.f0 = true then setR ⟨p, f.f1, f.f2⟩ (l.filter (notAt p)) else l.filter (notAt p)
def layAll (l : List Entry) (cs : List Change) : List Entry := cs.foldl (fun T c => lay T c.f0 c.f2) l
def agreesS (l : List Entry) : List Change → Bool
  | [] => true
  | c :: r => sameF (fileAt l c.f0) (toF c.f1) && agreesS l r
def applyR (l : List Entry) (cs : List Change) : List Entry × Int := if agreesS l cs = true then (if treeOk (layAll l cs) = true then (layAll l cs, 0) else ([], 3)) else ([], 2)
def apply (l : List Entry) (cs : List Change) : List Entry × Int := if treeOk l = true then (if patchOk cs = true then applyR l cs else ([], 1)) else ([], 1)
/-- A map that tells what a tree has. -/
def Corr (M : List (ByteArray × FileT)) (T : List Entry) : Prop := T.Pairwise ltE ∧ ∀ p, mget noF p M = fileAt T p
/-- A file that is not there is nothing. -/
def goodF (f : S122) : Prop := f.f0 = false → toF f = noF
theorem lay_asc {l : List Entry} (p : ByteArray) (f : S122) (h : l.Pairwise ltE) : (lay l p f).Pairwise ltE := by
  unfold lay
  split
  · exact setR_asc _ _ (h.filter _)
  · exact h.filter _
theorem lay_at {l : List Entry} (p : ByteArray) (f : S122) (h : l.Pairwise ltE) (hf : goodF f) (q : ByteArray) : fileAt (lay l p f) q = if p.toList = q.toList then toF f else fileAt l q := by
  have ha := asc_apart (lay_asc p f h)
  by_cases hq : p.toList = q.toList
  · rw [if_pos hq]
    by_cases h0 : f.f0 = true
    · have hm : (⟨p, f.f1, f.f2⟩ : Entry) ∈ lay l p f := by
        unfold lay
        rw [if_pos h0]
        exact (setR_mem _ _ _).2 (.inl rfl)
      rw [fileAt_some ha hm hq]
      unfold fileE toF
      rw [h0]
    · rw [hf (Bool.eq_false_iff.2 h0)]
      unfold lay
      rw [if_neg h0]
      refine fileAt_none (fun e he hp => ?_)
      exact (notAt_iff.1 (List.mem_filter.1 he).2) (hp.trans hq.symm)
  · rw [if_neg hq]
    have hin : ∀ e : Entry, e.f0.toList = q.toList → (e ∈ lay l p f ↔ e ∈ l) := by
      intro e he
      have hne : e.f0.toList ≠ p.toList := fun h' => hq (h'.symm.trans he)
      unfold lay
      split
      · rw [setR_mem, List.mem_filter, notAt_iff]
        constructor
        · rintro (rfl | ⟨⟨h1, _⟩, _⟩)
          · exact absurd rfl hne
          · exact h1
        · exact fun h1 => .inr ⟨⟨h1, hne⟩, hne⟩
      · rw [List.mem_filter, notAt_iff]
        exact ⟨fun h1 => h1.1, fun h1 => ⟨h1, hne⟩⟩
    by_cases hx : ∃ e ∈ l, e.f0.toList = q.toList
    · obtain ⟨e, he, hp⟩ := hx
      rw [fileAt_some ha ((hin e hp).2 he) hp, fileAt_some (asc_apart h) he hp]
    · rw [fileAt_none (fun e he hp => hx ⟨e, (hin e hp).1 he, hp⟩), fileAt_none (fun e he hp => hx ⟨e, he, hp⟩)]
theorem corr_all : ∀ (cs : List Change) (M : List (ByteArray × FileT)) (T : List Entry), (∀ c ∈ cs, goodF c.f2) → Corr M T → Corr (applyM M cs) (layAll T cs)
  | [], _, _, _, h => h
  | c :: r, M, T, hg, h => by
    refine corr_all r (mput c.f0 (toF c.f2) M) (lay T c.f0 c.f2) (fun x hx => hg x (List.mem_cons_of_mem _ hx)) ⟨lay_asc _ _ h.1, fun p => ?_⟩
    rw [mget_mput, lay_at _ _ h.1 (hg c List.mem_cons_self), h.2]
theorem treeG_some {M : List (ByteArray × FileT)} {k : ByteArray} {e : Entry} (h : treeG M k = some e) : e.f0 = k ∧ mget noF k M = fileE e := by
  unfold treeG at h
  split at h
  · rename_i h0
    obtain rfl := Option.some.inj h
    refine ⟨rfl, ?_⟩
    unfold fileE
    rw [← h0]
  · cases h
theorem treeM_asc (M : List (ByteArray × FileT)) : (treeM M).Pairwise ltE := by
  unfold treeM
  refine List.Pairwise.filterMap (treeG M) (fun a b hab x hx y hy => ?_) (keysS_asc _)
  rw [← (treeG_some hx).1, ← (treeG_some hy).1] at hab
  exact hab
theorem treeM_corr {M : List (ByteArray × FileT)} {T : List Entry} (h : Corr M T) : treeM M = T := by
  refine asc_unique _ _ (treeM_asc M) h.1 (fun e => ?_)
  unfold treeM
  rw [List.mem_filterMap]
  constructor
  · rintro ⟨k, _, hk⟩
    obtain ⟨rfl, h2⟩ := treeG_some hk
    rw [h.2] at h2
    obtain ⟨x, hx, hp, h3⟩ := fileAt_there (l := T) (p := e.f0) (by rw [h2]; rfl)
    rw [h2] at h3
    have e1 := str_eq hp
    unfold fileE at h3
    simp only [Prod.mk.injEq, true_and] at h3
    have : x = e := by
      cases x
      cases e
      simp only at e1 h3
      rw [e1, h3.1, h3.2]
    rw [← this]
    exact hx
  · intro he
    have h2 : mget noF e.f0 M = fileE e := by rw [h.2]; exact fileAt_some (asc_apart h.1) he rfl
    refine ⟨e.f0, (keysS_mem _ _).2 (mhas_key _ _ ?_), ?_⟩
    · cases hh : mhas e.f0 M with
      | true => rfl
      | false =>
        rw [mget_not noF _ _ hh] at h2
        cases h2
    · unfold treeG
      rw [h2]
      rfl
theorem agrees_eq {l : List Entry} (ha : Apart l) : ∀ cs : List Change, agreesM (filesM l) cs = agreesS l cs
  | [] => rfl
  | c :: r => by
    unfold agreesM agreesS
    rw [filesM_at ha, agrees_eq ha r]
theorem at_ev (p : ByteArray) (l : List Entry) (hl : l.length ≤ 1000) : ∀ (d i : Nat), i + d = l.length → Ev (fun k => spec_l6At.l0 k p (i : Int) l) (fileAt (l.drop i) p)
  | 0, i, hd => by
    rw [List.drop_of_length_le (by omega)]
    exact Ev.step (fun k => spec_l6At.l0.eq_2 ..) (Ev.neg (by omega) (Ev.now _))
  | d + 1, i, hd => by
    have hi : i < l.length := by omega
    refine Ev.step (fun k => spec_l6At.l0.eq_2 ..) (Ev.pos (by omega) (Ev.pos (by omega) ?_))
    rw [rdE_eq hi, w64 (n := (i : Int) + 1) (by omega) (by omega), show (i : Int) + 1 = ((i + 1 : Nat) : Int) from by omega, List.drop_eq_getElem_cons hi, fileAt_cons]
    exact Ev.both (fun _ => Ev.now _) (fun _ => at_ev p l hl d (i + 1) (by omega))
theorem lay0_ev (p : ByteArray) (f : S122) (l : List Entry) (hl : l.length ≤ 900) : ∀ (d i : Nat) (acc : List Entry), i + d = l.length → acc.length ≤ i → acc ++ (l.drop i).filter (notAt p) = l.filter (notAt p) →
    Ev (fun k => spec_l6Lay.l0 k p (i : Int) l f.f0 f.f1 f.f2 acc) (lay l p f)
  | 0, i, acc, hd, ha, hT => by
    rw [List.drop_of_length_le (by omega), List.filter_nil, List.append_nil] at hT
    subst hT
    unfold lay
    exact Ev.step (fun k => spec_l6Lay.l0.eq_2 ..) (Ev.neg (by omega) (Ev.both (fun _ => Ev.bind (spec_set_ev _ (by omega) _ _ _) (Ev.now _)) (fun _ => Ev.now _)))
  | d + 1, i, acc, hd, ha, hT => by
    have hi : i < l.length := by omega
    refine Ev.step (fun k => spec_l6Lay.l0.eq_2 ..) (Ev.pos (by omega) (Ev.pos (by omega) ?_))
    rw [List.drop_eq_getElem_cons hi] at hT
    rw [rdE_eq hi, w64 (n := (i : Int) + 1) (by omega) (by omega), show (i : Int) + 1 = ((i + 1 : Nat) : Int) from by omega]
    by_cases h : l[i].f0.toList = p.toList
    · rw [List.filter_cons_of_neg (by simp [notAt, h])] at hT
      exact Ev.pos h (lay0_ev p f l hl d (i + 1) acc (by omega) (by omega) hT)
    · rw [List.filter_cons_of_pos (by simp [notAt, h]), List.append_cons acc l[i] (List.filter (notAt p) (l.drop (i + 1)))] at hT
      exact Ev.neg h (Ev.pos (by omega) (lay0_ev p f l hl d (i + 1) (acc ++ [l[i]]) (by omega) (by rw [List.length_append, List.length_singleton]; omega) hT))
theorem lay_ev (l : List Entry) (hl : l.length ≤ 900) (p : ByteArray) (f : S122) : Ev (fun k => spec_l6Lay.f k l p f.f0 f.f1 f.f2) (lay l p f) := by
  unfold spec_l6Lay.f
  exact lay0_ev p f l hl l.length 0 [] (by omega) (by simp) rfl
theorem lay_len (l : List Entry) (p : ByteArray) (f : S122) : (lay l p f).length ≤ l.length + 1 := by
  have h1 := List.length_filter_le (notAt p) l
  unfold lay
  split
  · have := setR_len ⟨p, f.f1, f.f2⟩ (l.filter (notAt p))
    omega
  · omega
theorem lay_mem {l : List Entry} {p : ByteArray} {f : S122} {e : Entry} (h : e ∈ lay l p f) : e.f0 = p ∨ e ∈ l := by
  unfold lay at h
  split at h
  · rcases (setR_mem _ _ _).1 h with rfl | ⟨h, _⟩
    · exact .inl rfl
    · exact .inr (List.mem_filter.1 h).1
  · exact .inr (List.mem_filter.1 h).1
theorem layAll_mem : ∀ (cs : List Change) (l : List Entry) (e : Entry), e ∈ layAll l cs → (∃ c ∈ cs, e.f0 = c.f0) ∨ e ∈ l
  | [], _, _, h => .inr h
  | c :: r, l, e, h => by
    rcases layAll_mem r (lay l c.f0 c.f2) e h with ⟨x, hx, he⟩ | h
    · exact .inl ⟨x, List.mem_cons_of_mem _ hx, he⟩
    · rcases lay_mem h with h | h
      · exact .inl ⟨c, List.mem_cons_self, h⟩
      · exact .inr h
def finA (T : List Entry) : List Entry × Int := if treeOk T = true then (T, 0) else ([], 3)
theorem spec_A1 (cs : List Change) (hc : cs.length ≤ 200) : ∀ (d i : Nat) (T : List Entry), i + d = cs.length → T.length ≤ 100 + i → Ev (fun k => spec_Apply.l1 k (i : Int) cs T) (finA (layAll T (cs.drop i)))
  | 0, i, T, hd, hT => by
    rw [List.drop_of_length_le (by omega)]
    refine Ev.step (fun k => spec_Apply.l1.eq_2 ..) (Ev.neg (by omega) (Ev.bind (spec_ValidTree_ev T) ?_))
    exact Ev.both (fun _ => Ev.now _) (fun _ => Ev.now _)
  | d + 1, i, T, hd, hT => by
    have hi : i < cs.length := by omega
    have hlen := lay_len T cs[i].f0 cs[i].f2
    refine Ev.step (fun k => spec_Apply.l1.eq_2 ..) (Ev.pos (by omega) (Ev.pos (by omega) ?_))
    rw [rdC_eq hi, w64 (n := (i : Int) + 1) (by omega) (by omega), show (i : Int) + 1 = ((i + 1 : Nat) : Int) from by omega, List.drop_eq_getElem_cons hi]
    exact Ev.bind (lay_ev T (by omega) _ _) (spec_A1 cs hc d (i + 1) (lay T cs[i].f0 cs[i].f2) (by omega) (by omega))
theorem diff_same (x : FileT) (f : S122) : ((!(x.1 == f.f0)) || ((!(x.2.1.toList == f.f1.toList)) || (!(x.2.2 == f.f2)))) = !sameF x (toF f) := by
  unfold sameF toF
  cases (x.1 == f.f0) <;> cases (x.2.1.toList == f.f1.toList) <;> cases (x.2.2 == f.f2) <;> rfl
theorem copy_eqA (l : List Entry) (hl : l.length ≤ 1000) : spec_l5Copy.f l = some l := by
  unfold spec_l5Copy.f
  show (if ([] : List Entry).length + l.length < 3518437208883 then some (([] : List Entry) ++ l) else none) = some l
  rw [if_pos (by simp; omega), List.nil_append]
theorem spec_A0 (l : List Entry) (hl : l.length ≤ 100) (cs : List Change) (hc : cs.length ≤ 200) : ∀ (d i : Nat), i + d = cs.length → Ev (fun k => spec_Apply.l0 k (i : Int) l cs) (if agreesS l (cs.drop i) = true then finA (layAll l cs) else ([], 2))
  | 0, i, hd => by
    rw [List.drop_of_length_le (by omega)]
    refine Ev.step (fun k => spec_Apply.l0.eq_2 ..) (Ev.neg (by omega) ?_)
    rw [copy_eqA l (by omega), show agreesS l [] = true from rfl, if_pos rfl]
    refine Ev.sb ?_
    have := spec_A1 cs hc cs.length 0 l (by omega) (by omega)
    rw [List.drop_zero] at this
    exact this
  | d + 1, i, hd => by
    have hi : i < cs.length := by omega
    refine Ev.step (fun k => spec_Apply.l0.eq_2 ..) (Ev.pos (by omega) (Ev.pos (by omega) ?_))
    rw [rdC_eq hi, w64 (n := (i : Int) + 1) (by omega) (by omega), show (i : Int) + 1 = ((i + 1 : Nat) : Int) from by omega, List.drop_eq_getElem_cons hi]
    refine Ev.bind (at_ev cs[i].f0 l (by omega) l.length 0 (by omega)) ?_
    rw [List.drop_zero, diff_same]
    by_cases h : sameF (fileAt l cs[i].f0) (toF cs[i].f1) = true
    · rw [agreesS, h, Bool.true_and]
      exact Ev.neg (by simp) (spec_A0 l hl cs hc d (i + 1) (by omega))
    · rw [agreesS, Bool.eq_false_iff.2 h, Bool.false_and, if_neg (by simp)]
      exact Ev.pos rfl (Ev.now _)
theorem patchOk_len200 {l : List Change} (h : patchOk l = true) : l.length ≤ 200 := by
  unfold patchOk at h
  split at h
  · cases h
  · omega
theorem spec_Apply_ev (l : List Entry) (cs : List Change) : Ev (fun k => spec_Apply.f k l cs) (apply l cs) := by
  unfold spec_Apply.f apply
  refine Ev.bind (spec_ValidTree_ev l) ?_
  by_cases h : treeOk l = true
  · rw [if_pos h]
    refine Ev.pos h (Ev.bind (spec_ValidPatch_ev cs) (Ev.step (fun k => spec_Apply.j0.eq_2 ..) ?_))
    by_cases h2 : patchOk cs = true
    · rw [if_pos h2, h2]
      exact Ev.neg (by simp) (spec_A0 l (treeOk_len100 h) cs (patchOk_len200 h2) cs.length 0 (by omega))
    · rw [if_neg h2, Bool.eq_false_iff.2 h2]
      exact Ev.pos rfl (Ev.now _)
  · rw [if_neg h]
    exact Ev.neg h (Ev.step (fun k => spec_Apply.j0.eq_2 ..) (Ev.pos rfl (Ev.now _)))
theorem patchFrom_rows (l : List Change) : ∀ (d i : Nat), patchFrom l d i = true → ∀ j, i ≤ j → j < i + d → rowC l j = true
  | 0, i, _, j, h1, h2 => by omega
  | d + 1, i, h, j, h1, h2 => by
    unfold patchFrom at h
    split at h
    · rename_i hr
      rcases Nat.lt_or_ge i j with h' | h'
      · exact patchFrom_rows l d (i + 1) h j (by omega) (by omega)
      · obtain rfl : j = i := by omega
        exact hr
    · cases h
theorem fileOk_good {f : S122} (h : fileOk f.f0 f.f1 f.f2 = true) : goodF f := by
  intro h0
  unfold fileOk at h
  rw [h0] at h
  split at h
  · rw [if_neg (by simp)] at h
    split at h
    · rename_i he
      have : f.f2 = false := by simpa using h
      unfold toF noF
      rw [h0, this, str_eq (a := f.f1) (b := ByteArray.empty) (by rw [he, Lib.toList_data]; rfl)]
    · cases h
  · cases h
theorem patchOk_good {cs : List Change} (h : patchOk cs = true) : ∀ c ∈ cs, goodF c.f2 := by
  intro c hc
  obtain ⟨i, hi, rfl⟩ := List.getElem_of_mem hc
  have hl := patchOk_len200 h
  unfold patchOk at h
  rw [if_neg (by omega)] at h
  have := patchFrom_rows cs cs.length 0 h i (by omega) (by omega)
  unfold rowC at this
  simp only [rdC, rdC_eq hi] at this
  refine fileOk_good ?_
  by_cases hf : fileOk cs[i].f2.f0 cs[i].f2.f1 cs[i].f2.f2 = true
  · exact hf
  · exfalso
    rw [Bool.eq_false_iff.2 hf] at this
    repeat (split at this)
    all_goals (first | (cases this; done) | contradiction | simp at this)
theorem impl_Apply_ev (l : List Entry) (cs : List Change) (hz : ∀ e ∈ l, e.f0.size ≤ 1048576) (hc : ∀ c ∈ cs, c.f0.size ≤ 1048576) : Ev (fun k => impl_Apply.f k l cs) (apply l cs) := by
  unfold impl_Apply.f apply
  refine Ev.bind (impl_ValidTree_ev l hz) ?_
  by_cases h : treeOk l = true
  · rw [if_pos h]
    refine Ev.pos h (Ev.bind (impl_ValidPatch_ev cs hc) ?_)
    by_cases h2 : patchOk cs = true
    · rw [if_pos h2]
      have hl := treeOk_len100 h
      have hl2 := patchOk_len200 h2
      have ha := asc_apart (treeOk_pair h)
      have hT : treeM (applyM (filesM l) cs) = layAll l cs := treeM_corr (corr_all cs _ _ (patchOk_good h2) ⟨treeOk_pair h, filesM_at ha⟩)
      refine Ev.pos h2 (Ev.pos (by omega) ?_)
      rw [hT, agrees_eq ha]
      unfold applyR
      refine Ev.both (fun _ => ?_) (fun _ => Ev.now _)
      unfold impl_Apply.fin
      refine Ev.bind (impl_ValidTree_ev _ (fun e he => ?_)) (Ev.both (fun _ => Ev.now _) (fun _ => Ev.now _))
      rcases layAll_mem cs l e he with ⟨c, hcm, h3⟩ | h3
      · rw [h3]
        exact hc c hcm
      · exact hz e h3
    · rw [if_neg h2]
      exact Ev.neg h2 (Ev.now _)
  · rw [if_neg h]
    exact Ev.neg h (Ev.now _)
theorem apply_len (l : List Entry) (cs : List Change) : (apply l cs).1.length ≤ 100 := by
  unfold apply applyR
  split
  · split
    · split
      · split
        · rename_i h
          exact treeOk_len100 h
        · simp
      · simp
    · simp
  · simp

end Go.Proofs.YtgnmledjkamojaaDoor.Pure


namespace Go.Proofs.YtgnmledjkamojaaDoor.Pure
open Go Go.RowKit Go.Proofs.YtgnmledjkamojaaDoor.P Go.Proofs.YtgnmledjkamojaaDoorW.PrintWords Go.Proofs.YtgnmledjkamojaaDoorW.PrintLast
set_option linter.unusedVariables false
set_option linter.unusedSimpArgs false

/-- Marks from any number on. -/
theorem marksFromC_ev : ∀ (d i c : Nat) (l : List Change), i + d = l.length → l.length ≤ 1100000 → c + 7 * d ≤ 11000000 → ∃ r : Int × List Change, r.1 = ((c + 7 * d : Nat) : Int) ∧ Ev (fun k => laws_markChangeS.l0 k l (c : Int) (i : Int)) r
  | 0, i, c, l, hd, hi', hl => ⟨((c : Int), l), by simp, Ev.step (fun k => markC_end k l _ i (by omega)) (Ev.now _)⟩
  | d + 1, i, c, l, hd, hi', hl => by
    have hi : i < l.length := by omega
    have wc : c ≤ 999999990 := by omega
    have wi : i ≤ 1000000000 := by omega
    obtain ⟨r, q1, K4, m4⟩ := marksFromC_ev d (i + 1) (c + 1 + 1 + 1 + 1 + 1 + 1 + 1) (l.set i (CM c)) (by rw [List.length_set]; omega) (by rw [List.length_set]; exact hi') (by omega)
    obtain ⟨K1, m1⟩ := mark_spec c (by omega)
    obtain ⟨K2, m2⟩ := mark_spec (c + 1 + 1) (by omega)
    obtain ⟨K3, m3⟩ := mark_spec (c + 1 + 1 + 1 + 1 + 1) (by omega)
    refine ⟨r, by rw [q1]; omega, K1 + K2 + K3 + K4 + 1, fun k hk => ?_⟩
    obtain ⟨k', rfl⟩ : ∃ k', k = k' + 1 := ⟨k - 1, by omega⟩
    have a1 := m1 k' (by omega)
    have a2 := m2 k' (by omega)
    have a3 := m3 k' (by omega)
    have a4 := m4 k' (by omega)
    dsimp only at a1 a2 a3 a4
    have b := markC_eq k' l (c : Int) i hi
    obtain ⟨w1, w2, w3, w4, w5, w6, w7⟩ := wns c wc
    have w8 := wn i wi
    rw [w1, w2, w3, w4, w5, w6, w7, w8, a1, Option.bind_some, a2, Option.bind_some, a3, Option.bind_some] at b
    exact b.trans a4
theorem ofE_smallA {l : List LEntry} {left : Int} (h1 : left ≤ 1048576) (h : ∀ s ∈ l, (s.f0.size : Int) ≤ left ∧ (s.f1.size : Int) ≤ left) : ∀ e ∈ l.map ofE, e.f0.size ≤ 1048576 := by
  intro e he
  obtain ⟨s, hs, rfl⟩ := List.mem_map.1 he
  have := (h s hs).1
  show s.f0.size ≤ 1048576
  omega
theorem ofC_smallA {l : List LChange} {left : Int} (h1 : left ≤ 1048576) (h : ∀ s ∈ l, (cw s : Int) ≤ left) : ∀ e ∈ l.map ofC, e.f0.size ≤ 1048576 := by
  intro e he
  obtain ⟨s, hs, rfl⟩ := List.mem_map.1 he
  have := h s hs
  unfold cw at this
  show s.f0.size ≤ 1048576
  omega
theorem FnExactApply (l : List LEntry) (s : List LChange) (h : l.length * 40 ≤ 140737488351232 ∧ ∀ x ∈ l, Small172 x) (hh : s.length * 80 ≤ 140737488351232 ∧ ∀ x ∈ s, Small190 x) : ∃ k, laws_FnExactApply.f k l s = some true := by
  apply Ev.rounds
  unfold laws_FnExactApply.f
  obtain ⟨r, hr, hR⟩ := szTree_ev l (by omega) (fun x hx => ⟨(h.2 x hx).1, (h.2 x hx).2.1⟩) 1048576 (by omega) (by omega)
  refine Ev.bind hr ?_
  rcases hR with rfl | ⟨a, b, c, d⟩
  · exact Ev.pos (by omega) (Ev.now _)
  refine Ev.neg (by omega) ?_
  obtain ⟨r2, hr2, hR2⟩ := szPatch_ev s (by omega) (fun x hx => by
    have := hh.2 x hx
    simp only [Small190, Small188] at this
    omega) r a b
  refine Ev.bind hr2 ?_
  rcases hR2 with rfl | ⟨a2, b2, c2, d2⟩
  · exact Ev.pos (by omega) (Ev.now _)
  have T := toTree_ev l (by omega)
  have T2 := toPatch_ev s (by omega)
  have hl : (l.map ofE).length ≤ 1048576 := by rw [List.length_map]; omega
  have hl2 : (s.map ofC).length ≤ 1048576 := by rw [List.length_map]; omega
  have hs := ofE_smallA (l := l) (left := 1048576) (by omega) d
  have hs2 := ofC_smallA (l := s) (left := r) (by omega) d2
  generalize l.map ofE = X at T hl hs
  generalize s.map ofC = Y at T2 hl2 hs2
  have S := spec_Apply_ev X Y
  have I := impl_Apply_ev X Y hs hs2
  have hu := apply_len X Y
  generalize apply X Y = R at S I hu
  have Q := eqTree_ev R.1 (by omega)
  obtain ⟨L, _, m1, _⟩ := markedTree_ev X (by omega)
  obtain ⟨p, p1, hp⟩ := marksFromC_ev Y.length 0 (1 + 3 * X.length) Y (by omega) (by omega) (by omega)
  obtain ⟨L2, _, m2, h2⟩ := markedTree_ev R.1 (by omega)
  have m3 : Ev (fun k => laws_markPatch.f k Y ((1 + 3 * X.length : Nat) : Int)) p := by
    unfold laws_markPatch.f laws_markChangeS.f
    exact Ev.bind hp (Ev.now _)
  have J2 : Ev (fun k => laws_FnExactApply.j2 k ((1 + 3 * R.1.length : Nat) : Int) (R.2 != R.2) L2) true := by
    refine Ev.step (fun k => laws_FnExactApply.j2.eq_2 ..) (Ev.neg (by simp) (Ev.bind h2 (Ev.neg (by omega) (Ev.pos rfl (Ev.now _)))))
  have J1 : Ev (fun k => laws_FnExactApply.j1 k R.2 (R.2 != R.2) l s R.1 R.1) true := by
    refine Ev.step (fun k => laws_FnExactApply.j1.eq_2 ..) (Ev.neg (by simp) (Ev.bind m2 (Ev.bind h2 (Ev.neg (by omega) (Ev.pos rfl ?_)))))
    exact Ev.bind T (Ev.bind T2 (Ev.bind I (Ev.bind Q (Ev.pos rfl J2))))
  have J0 : Ev (fun k => laws_FnExactApply.j0 k R.2 R.2 (R.2 != R.2) l s R.1 X Y R.1) true := by
    refine Ev.step (fun k => laws_FnExactApply.j0.eq_2 ..) (Ev.neg (by simp) (Ev.bind T (Ev.bind (eqTree_ev X (by omega)) (Ev.pos rfl (Ev.bind T2 (Ev.bind (eqPatch_ev Y (by omega)) (Ev.pos rfl (Ev.bind m1 (Ev.bind m3 (Ev.neg (by omega) (Ev.bind Q (Ev.pos rfl J1))))))))))))
  exact Ev.neg (by omega) (Ev.bind T (Ev.bind T2 (Ev.bind S (Ev.bind T (Ev.bind T2 (Ev.bind I (Ev.bind Q (Ev.pos rfl J0))))))))

end Go.Proofs.YtgnmledjkamojaaDoor.Pure

