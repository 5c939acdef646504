/- Several texts of this claim in one file: YtkmfnmeilooogaaDoorMaps, YtkmfnmeilooogaaDoorIMaps, YtkmfnmeilooogaaDoorStores, YtkmfnmeilooogaaDoorOpens. -/
import Derived.Maps.RangeWalk
import Derived.Maps.OwnOps
import Derived.Below
import Derived.Lib.Strings
import Derived.Test.YtkmfnmeilooogaaDoorM3
import Derived.Test.YtkmfnmeilooogaaDoorM4
import Derived.Test.YtkmfnmeilooogaaDoorM1
import Derived.Deep.Slices
import Derived.SizedLaws
import Derived.ChangeArms
import Derived.WideShapes
import Derived.Handed
namespace Go.Proofs.YtkmfnmeilooogaaDoor.P
open Go Go.MapKept Go.ChangeMaps Go.RowKit
section
variable {α : Type}

def mget (z : α) (k : ByteArray) : List (ByteArray × α) → α
  | [] => z
  | p :: r => if p.1.toList = k.toList then p.2 else mget z k r
def mhas (k : ByteArray) : List (ByteArray × α) → Bool
  | [] => false
  | p :: r => if p.1.toList = k.toList then true else mhas k r
def mput (k : ByteArray) (v : α) : List (ByteArray × α) → List (ByteArray × α)
  | [] => [(k, v)]
  | p :: r => if p.1.toList = k.toList then (k, v) :: r else p :: mput k v r

theorem str_eq {a b : ByteArray} (h : a.toList = b.toList) : a = b := by
  rw [Lib.toList_data, Lib.toList_data] at h
  cases a with
  | mk a => cases b with
    | mk b => exact congrArg ByteArray.mk (Array.toList_inj.1 h)
theorem mget_not (z : α) (k : ByteArray) : ∀ M : List (ByteArray × α), mhas k M = false → mget z k M = z
  | [], _ => rfl
  | p :: r, h => by
    unfold mhas at h
    unfold mget
    split
    · rename_i e
      rw [if_pos e] at h
      cases h
    · rename_i e
      rw [if_neg e] at h
      exact mget_not z k r h
theorem mput_mem (k : ByteArray) (v : α) : ∀ (M : List (ByteArray × α)) (p : ByteArray × α), p ∈ mput k v M → p = (k, v) ∨ p ∈ M
  | [], p, h => by
    simp [mput] at h
    exact .inl h
  | q :: r, p, h => by
    unfold mput at h
    split at h
    · rcases List.mem_cons.1 h with rfl | h
      · exact .inl rfl
      · exact .inr (List.mem_cons_of_mem _ h)
    · rcases List.mem_cons.1 h with rfl | h
      · exact .inr List.mem_cons_self
      · rcases mput_mem k v r p h with h | h
        · exact .inl h
        · exact .inr (List.mem_cons_of_mem _ h)
theorem mput_keys (k : ByteArray) (v : α) : ∀ M : List (ByteArray × α), M.Pairwise (fun p q => p.1 ≠ q.1) → (mput k v M).Pairwise (fun p q => p.1 ≠ q.1)
  | [], _ => List.pairwise_singleton _ _
  | p :: r, h => by
    obtain ⟨h1, h2⟩ := List.pairwise_cons.1 h
    unfold mput
    split
    · rename_i e
      exact List.pairwise_cons.2 ⟨fun q hq => by rw [← str_eq e]; exact h1 q hq, h2⟩
    · rename_i e
      refine List.pairwise_cons.2 ⟨fun q hq => ?_, mput_keys k v r h2⟩
      rcases mput_mem k v r q hq with rfl | hq
      · exact fun e2 => e (by rw [e2])
      · exact h1 q hq
theorem mput_len (k : ByteArray) (v : α) : ∀ M : List (ByteArray × α), (mput k v M).length ≤ M.length + 1
  | [] => by simp [mput]
  | p :: r => by
    unfold mput
    split
    · simp
    · have := mput_len k v r
      simp only [List.length_cons]
      omega

variable (enc : α → Value)
def pairs_ (M : List (ByteArray × α)) : List (Value × Value) := M.map fun p => (Value.string p.1, enc p.2)
/-- What is found at a key, and what a store leaves. -/
theorem find_pairs (k : ByteArray) : ∀ (es : List MapEntry) (M : List (ByteArray × α)) (i : Nat), es.map (fun e => (e.key, e.val)) = pairs_ enc M →
    (mhas k M = false ∧ Instr.findNow .string (.string k) es i = some none ∧ ∀ v, mput k v M = M ++ [(k, v)]) ∨
    ∃ j v, mhas k M = true ∧ (∀ z, mget z k M = v) ∧ Instr.findNow .string (.string k) es i = some (some (i + j, enc v)) ∧ (∃ e, es[j]? = some e ∧ e.key = .string k) ∧
      ∀ v', (es.modify j fun e => { e with key := .string k, val := enc v' }).map (fun e => (e.key, e.val)) = pairs_ enc (mput k v' M)
  | [], [], i, _ => .inl ⟨rfl, rfl, fun _ => rfl⟩
  | [], _ :: _, _, h => by simp [pairs_] at h
  | _ :: _, [], _, h => by simp [pairs_] at h
  | e :: es, p :: M, i, h => by
    simp only [pairs_, List.map_cons, List.cons.injEq, Prod.mk.injEq] at h
    obtain ⟨⟨hk, hv⟩, hr⟩ := h
    have ih := find_pairs k es M (i + 1) hr
    by_cases hp : p.1.toList = k.toList
    · obtain rfl := str_eq hp
      refine .inr ⟨0, p.2, by simp [mhas], fun z => by simp [mget], ?_, ⟨e, rfl, hk⟩, fun v' => ?_⟩
      · rcases sameNow_of_keys (d := .string) (a := .string p.1) trivial (show IsKey .string e.key by rw [hk]; trivial) with ⟨r, hr', hi⟩
        have : r = true := hi.2 hk.symm
        subst this
        simp [Instr.findNow, hr', hv]
      · simp only [List.modify_zero_cons, List.map_cons, pairs_, mput, if_true, List.cons.injEq, true_and]
        exact hr
    · have hne : p.1 ≠ k := fun e => hp (by rw [e])
      have hs : Instr.findNow .string (.string k) (e :: es) i = Instr.findNow .string (.string k) es (i + 1) := by
        rcases sameNow_of_keys (d := .string) (a := .string k) trivial (show IsKey .string e.key by rw [hk]; trivial) with ⟨r, hr', hi⟩
        cases r with
        | true =>
          have h2 := hi.1 rfl
          rw [hk] at h2
          injection h2 with h2
          exact absurd h2.symm hne
        | false => simp [Instr.findNow, hr']
      rcases ih with ⟨h1, h2, h3⟩ | ⟨j, v, h1, h2, h3, h4, h5⟩
      · exact .inl ⟨by simp [mhas, hp, h1], by rw [hs, h2], fun v => by simp [mput, hp, h3]⟩
      · refine .inr ⟨j + 1, v, by simp [mhas, hp, h1], fun z => by simp [mget, hp, h2], ?_, by simpa using h4, fun v' => ?_⟩
        · rw [hs, h3, Nat.add_right_comm, Nat.add_assoc]
        · simp only [List.modify_succ_cons, List.map_cons, h5 v', pairs_, mput, if_neg hp, hk, hv]

/-- BLOCK b OF w IS THE MAP OF M. -/
def MapAt (w : World) (b : Nat) (M : List (ByteArray × α)) : Prop :=
  ∃ es clock, w.heap[b]? = some (.map es clock) ∧ es.toList.map (fun e => (e.key, e.val)) = pairs_ enc M ∧ (es.toList.map (·.born)).Nodup ∧ (∀ e ∈ es.toList, e.born < clock) ∧ M.Pairwise (fun p q => p.1 ≠ q.1)
variable {enc} {P : Program} {w : World} {b : Nat} {M : List (ByteArray × α)}
theorem MapAt.made (w : World) : MapAt enc (w.alloc (.map #[] 0)) w.heap.size ([] : List (ByteArray × α)) :=
  ⟨#[], 0, (MapKept.heap_alloc w _).1, rfl, by simp, by simp, List.Pairwise.nil⟩
theorem MapAt.lt (h : MapAt enc w b M) : b < w.heap.size := by
  obtain ⟨es, clock, hb, _⟩ := h
  exact (Array.getElem?_eq_some_iff.1 hb).1
theorem MapAt.kept {w' : World} {row : Option Nat} (h : MapAt enc w b M) (hg : w.grownBy w' row) (hne : some b ≠ row) : MapAt enc w' b M := by
  have hlt := h.lt
  obtain ⟨es, clock, hb, rest⟩ := h
  exact ⟨es, clock, (hg.block b hlt hne).trans hb, rest⟩
theorem MapAt.below {w' : World} {n : Nat} (h : MapAt enc w b M) (hb : Below n w w') (hlt : b < n) : MapAt enc w' b M := by
  obtain ⟨es, clock, hb', rest⟩ := h
  exact ⟨es, clock, (hb.block b hlt).trans hb', rest⟩
theorem MapAt.alloc (h : MapAt enc w b M) (o : Obj) : MapAt enc (w.alloc o) b M := h.kept (World.grownBy_alloc w o none) (by simp)
theorem MapAt.look {t kt e : TypeId} (h : MapAt enc w b M) (ht : P.underlying t = some (.map kt e)) (hk : P.underlying kt = some .string) (z : α) (hz : (zeroValue e).run P w = .ok (enc z) w) (k : ByteArray) (ok : Bool) :
    (Instr.lookup t (.map (some b)) (.string k) ok).run P w = .ok (if ok = true then .tuple #[enc (mget z k M), .bool (mhas k M)] else enc (mget z k M)) w := by
  obtain ⟨es, clock, hb, hes, _⟩ := h
  rcases find_pairs enc k es.toList M 0 hes with ⟨h1, h2, _⟩ | ⟨j, v, h1, h2, h3, _⟩
  · cases ok <;> simp [Instr.lookup, run_underlying ht, MapKept.run_getObj_map hb, run_checkKey (k := .string k) hk trivial, run_findKey hk h2, hz, Result.andThen, h1, mget_not z k M h1]
  · cases ok <;> simp [Instr.lookup, run_underlying ht, MapKept.run_getObj_map hb, run_checkKey (k := .string k) hk trivial, run_findKey hk h3, Result.andThen, h1, h2]
theorem map_born (es : List MapEntry) (j : Nat) (key val : Value) : (es.modify j fun e => { e with key := key, val := val }).map (·.born) = es.map (·.born) := by
  induction es generalizing j with
  | nil => simp
  | cons e es ih => cases j <;> simp [ih]
theorem MapAt.store {t kt e : TypeId} (h : MapAt enc w b M) (ht : P.underlying t = some (.map kt e)) (hk : P.underlying kt = some .string) (k : ByteArray) (v : α) :
    ∃ w', (Instr.mapUpdate t (.map (some b)) (.string k) (enc v)).run P w = .ok () w' ∧ MapAt enc w' b (mput k v M) ∧ w.grownBy w' (some b) ∧ w'.heap.size = w.heap.size := by
  obtain ⟨es, clock, hb, hes, hn, hc, hd⟩ := h
  rcases find_pairs enc k es.toList M 0 hes with ⟨h1, h2, h3⟩ | ⟨j, v0, h1, _, h3, ⟨e0, h4, h4'⟩, h5⟩
  · refine ⟨setBlock w b (.map (es.push { key := .string k, val := enc v, born := clock }) (clock + 1)), ?_, ⟨_, _, heap_setBlock_same hb _, ?_, ?_, ?_, mput_keys k v M hd⟩, ⟨rfl, rfl, rfl, by simp [setBlock], fun i _ hi => heap_setBlock_other hb _ (fun e => hi (by rw [e]))⟩, by simp [setBlock]⟩
    · simp [Instr.mapUpdate, run_underlying ht, MapKept.run_getObj_map hb, run_checkKey (k := .string k) hk trivial, run_findKey hk h2, MapKept.run_setObj_map _ hb, Result.andThen, setBlock]
    · rw [h3]
      simp [pairs_, hes]
    · rw [Array.toList_push, List.map_append, List.nodup_append]
      refine ⟨hn, by simp, fun a ha b' hb' => ?_⟩
      obtain ⟨x, hx, rfl⟩ := List.mem_map.1 ha
      simp at hb'
      have := hc x hx
      omega
    · intro x hx
      rw [Array.toList_push, List.mem_append] at hx
      rcases hx with hx | hx
      · have := hc x hx
        omega
      · simp at hx
        rw [hx]
        exact Nat.lt_succ_self _
  · rw [Nat.zero_add] at h3
    have e1 : (((es[j]?).map (·.key)).getD (.string k)) = .string k := by
      rw [← Array.getElem?_toList, h4]
      exact h4'
    refine ⟨setBlock w b (.map (es.modify j fun e => { e with key := .string k, val := enc v }) clock), ?_, ⟨_, _, heap_setBlock_same hb _, ?_, ?_, ?_, mput_keys k v M hd⟩, ⟨rfl, rfl, rfl, by simp [setBlock], fun i _ hi => heap_setBlock_other hb _ (fun e => hi (by rw [e]))⟩, by simp [setBlock]⟩
    · simp [Instr.mapUpdate, run_underlying ht, MapKept.run_getObj_map hb, run_checkKey (k := .string k) hk trivial, run_findKey hk h3, e1, run_keyThatStays (d := .string) (k := .string k) trivial, MapKept.run_setObj_map _ hb, Result.andThen, setBlock]
    · rw [Array.toList_modify]
      exact h5 v
    · rw [Array.toList_modify, map_born]
      exact hn
    · intro x hx
      have hm : x.born ∈ (es.toList.modify j fun e => { e with key := .string k, val := enc v }).map (·.born) := by
        rw [Array.toList_modify] at hx
        exact List.mem_map.2 ⟨x, hx, rfl⟩
      rw [map_born] at hm
      obtain ⟨y, hy, e2⟩ := List.mem_map.1 hm
      rw [← e2]
      exact hc y hy

/-- A RANGE OVER IT UNDER WAY: r is the iterator's block, L what is still to come. -/
def RngAt (enc : α → Value) (w : World) (b r : Nat) (M L : List (ByteArray × α)) : Prop :=
  ∃ es clock since seen c0, w.heap[b]? = some (.map es clock) ∧ es.toList.map (fun e => (e.key, e.val)) = pairs_ enc M ∧ (es.toList.map (·.born)).Nodup ∧ (∀ e ∈ es.toList, e.born < clock) ∧ M.Pairwise (fun p q => p.1 ≠ q.1) ∧
    w.heap[r]? = some (.mapIter (some b) since seen c0) ∧ (∀ x ∈ es.toList, x.born < since) ∧ since ≤ c0 ∧ since ≤ clock ∧ (leftOf es seen).toList.map (fun e => (e.key, e.val)) = pairs_ enc L
variable {r : Nat} {L : List (ByteArray × α)}
theorem RngAt.map (h : RngAt enc w b r M L) : MapAt enc w b M := by
  obtain ⟨es, clock, _, _, _, h1, h2, h3, h4, h5, _⟩ := h
  exact ⟨es, clock, h1, h2, h3, h4, h5⟩
theorem RngAt.lt (h : RngAt enc w b r M L) : r < w.heap.size := by
  obtain ⟨es, clock, since, seen, c0, _, _, _, _, _, hr, _⟩ := h
  exact (Array.getElem?_eq_some_iff.1 hr).1
theorem RngAt.ne (h : RngAt enc w b r M L) : r ≠ b := by
  obtain ⟨es, clock, since, seen, c0, hb, _, _, _, _, hr, _⟩ := h
  intro e
  rw [e, hb] at hr
  cases hr
theorem RngAt.kept {w' : World} {row : Option Nat} (h : RngAt enc w b r M L) (hg : w.grownBy w' row) (hb' : some b ≠ row) (hr' : some r ≠ row) : RngAt enc w' b r M L := by
  have h1 := h.map.lt
  have h2 := h.lt
  obtain ⟨es, clock, since, seen, c0, hb, a1, a2, a3, a4, hr, rest⟩ := h
  exact ⟨es, clock, since, seen, c0, (hg.block b h1 hb').trans hb, a1, a2, a3, a4, (hg.block r h2 hr').trans hr, rest⟩
def strV : Value → ByteArray
  | .string s => s
  | _ => ByteArray.empty
theorem RngAt.keys (h : RngAt enc w b r M L) : (L.map (·.1)).Sublist (M.map (·.1)) := by
  obtain ⟨es, clock, since, seen, c0, _, hM, _, _, _, _, _, _, _, hL⟩ := h
  have h1 : ((leftOf es seen).toList.map (·.key)).Sublist (es.toList.map (·.key)) := by
    unfold leftOf
    rw [Array.toList_filter]
    exact List.Sublist.map _ List.filter_sublist
  have e1 := congrArg (fun l : List (Value × Value) => l.map (fun x => strV x.1)) hM
  have e2 := congrArg (fun l : List (Value × Value) => l.map (fun x => strV x.1)) hL
  have h2 := h1.map strV
  simp only [pairs_, List.map_map] at e1 e2 h2
  have e3 : ∀ N : List (ByteArray × α), N.map ((fun x : Value × Value => strV x.1) ∘ fun p => (Value.string p.1, enc p.2)) = N.map (·.1) := fun N => rfl
  rw [e3] at e1 e2
  rw [← e1, ← e2]
  exact h2
theorem MapAt.nodup (h : MapAt enc w b M) : (M.map (·.1)).Nodup := by
  obtain ⟨_, _, _, _, _, _, hd⟩ := h
  rw [List.nodup_iff_pairwise_ne, List.pairwise_map]
  exact hd
theorem mput_map (k : ByteArray) (v : α) : ∀ (M : List (ByteArray × α)) (x : ByteArray), x ∈ (mput k v M).map (·.1) ↔ x = k ∨ x ∈ M.map (·.1)
  | [], x => by simp [mput]
  | p :: q, x => by
    unfold mput
    split
    · rename_i e
      have e' := str_eq e
      rw [List.map_cons, List.map_cons, List.mem_cons, List.mem_cons, e']
      constructor
      · rintro (h | h)
        · exact .inl h
        · exact .inr (.inr h)
      · rintro (h | h | h)
        · exact .inl h
        · exact .inl h
        · exact .inr h
    · rw [List.map_cons, List.mem_cons, mput_map k v q x, List.map_cons, List.mem_cons]
      constructor
      · rintro (h | h | h)
        · exact .inr (.inl h)
        · exact .inl h
        · exact .inr (.inr h)
      · rintro (h | h | h)
        · exact .inr (.inl h)
        · exact .inl h
        · exact .inr (.inr h)
theorem MapAt.range {t kt e : TypeId} (h : MapAt enc w b M) (ht : P.underlying t = some (.map kt e)) :
    ∃ w', (Instr.range t (.map (some b))).run P w = .ok (.pointer (some ⟨w.heap.size, 0, none⟩)) w' ∧ RngAt enc w' b w.heap.size M M ∧ w.grownBy w' none ∧ w'.heap.size = w.heap.size + 1 := by
  have hlt := h.lt
  obtain ⟨es, clock, hb, h1, h2, h3, h4⟩ := h
  refine ⟨_, run_range_map w t kt e b es clock ht hb, ⟨es, clock, clock, #[], clock, ((MapKept.heap_alloc w _).2 b hlt).trans hb, h1, h2, h3, h4, (MapKept.heap_alloc w _).1, h3, Nat.le_refl _, Nat.le_refl _, ?_⟩, World.grownBy_alloc w _ none, by simp⟩
  rw [← h1]
  congr 1
  unfold leftOf
  rw [Array.toList_filter]
  exact List.filter_eq_self.2 (fun x _ => by simp)
theorem left_push {es : Array MapEntry} {seen : Array Nat} {e : MapEntry} {E1 E2 : List MapEntry} (hn : (es.toList.map (·.born)).Nodup) (h : (leftOf es seen).toList = E1 ++ e :: E2) : (leftOf es (seen.push e.born)).toList = E1 ++ E2 := by
  have h1 : (leftOf es (seen.push e.born)).toList = (leftOf es seen).toList.filter (fun x => !(x.born == e.born)) := by
    unfold leftOf
    rw [Array.toList_filter, Array.toList_filter, List.filter_filter]
    congr 1
    funext x
    rw [contains_push]
    cases seen.contains x.born <;> cases (x.born == e.born) <;> rfl
  have h2 : ((leftOf es seen).toList.map (·.born)).Nodup := by
    unfold leftOf
    rw [Array.toList_filter]
    exact hn.sublist (List.Sublist.map _ List.filter_sublist)
  rw [h1, h]
  rw [h, List.map_append, List.map_cons, List.nodup_append] at h2
  obtain ⟨_, n2, n3⟩ := h2
  obtain ⟨n4, _⟩ := List.nodup_cons.1 n2
  rw [List.filter_append, List.filter_cons_of_neg (by simp), List.filter_eq_self.2 (fun x hx => ?_), List.filter_eq_self.2 (fun x hx => ?_)]
  · simp only [Bool.not_eq_true', beq_eq_false_iff_ne]
    exact fun e1 => n4 (by rw [← e1]; exact List.mem_map.2 ⟨x, hx, rfl⟩)
  · simp only [Bool.not_eq_true', beq_eq_false_iff_ne]
    exact n3 _ (List.mem_map.2 ⟨x, hx, rfl⟩) _ List.mem_cons_self
theorem RngAt.next (h : RngAt enc w b r M L) (ty : TypeId) :
    (L = [] ∧ (Instr.next (.pointer (some ⟨r, 0, none⟩)) false ty).run P w = .ok (.tuple #[.bool false]) w) ∨
    ∃ L1 p L2 w', L = L1 ++ p :: L2 ∧ (Instr.next (.pointer (some ⟨r, 0, none⟩)) false ty).run P w = .ok (.tuple #[.bool true, .string p.1, enc p.2]) w' ∧ RngAt enc w' b r M (L1 ++ L2) ∧ w.grownBy w' (some r) ∧ w'.heap.size = w.heap.size ∧
      (Instr.entry (.pointer (some ⟨r, 0, none⟩))).run P w' = .ok (.tuple #[.string p.1, enc p.2]) w' := by
  have hne := h.ne
  obtain ⟨es, clock, since, seen, c0, hb, h1, h2, h3, h4, hr, hold, hsc, hsk, hL⟩ := h
  rcases run_next_at (P := P) w ty r b since c0 seen es clock hr hb hold hsc with ⟨h0, hrun⟩ | ⟨e, he, w1, hal, hrun⟩
  · refine Or.inl ⟨?_, hrun⟩
    have : leftOf es seen = #[] := Array.eq_empty_of_size_eq_zero h0
    rw [this] at hL
    simpa [pairs_] using hL.symm
  · have hem := (mem_left he).1
    obtain ⟨E1, E2, hE⟩ := List.append_of_mem he
    rw [hE, List.map_append, List.map_cons] at hL
    obtain ⟨L1, L', rfl, e1, e2⟩ := List.map_eq_append_iff.1 (show L.map (fun p => (Value.string p.1, enc p.2)) = _ from hL.symm)
    obtain ⟨p, L2, rfl, e3, e4⟩ := List.map_eq_cons_iff.1 e2
    have hk : e.key = .string p.1 := (congrArg Prod.fst e3).symm
    have hv : e.val = enc p.2 := (congrArg Prod.snd e3).symm
    have hr1 : w1.heap[r]? = some (.mapIter (some b) since seen c0) := by rcases hal with rfl | rfl <;> exact hr
    have hb1 : w1.heap[b]? = some (.map es clock) := by rcases hal with rfl | rfl <;> exact hb
    have hset := heap_set (o' := .mapIter (some b) since (seen.push e.born) clock) hr1
    have hb' : (setBlock w1 r (.mapIter (some b) since (seen.push e.born) clock)).heap[b]? = some (.map es clock) := (hset.2 b (fun e1 => hne e1.symm)).trans hb1
    have hen := run_entry_at (P := P) _ r b since seen es clock e hset.1 hb' hem h2
    rw [hk, hv] at hrun hen
    refine Or.inr ⟨L1, p, L2, _, rfl, hrun, ⟨es, clock, since, seen.push e.born, clock, hb', h1, h2, h3, h4, hset.1, hold, hsk, hsk, ?_⟩, ?_, ?_, hen⟩
    · rw [left_push h2 hE, List.map_append, pairs_, List.map_append, e1, e4]
    · rcases hal with rfl | rfl <;> exact ⟨rfl, rfl, rfl, by simp [setBlock], fun i _ hi => hset.2 i (fun e1 => hi (by rw [e1]))⟩
    · rcases hal with rfl | rfl <;> simp [setBlock]

/-! ### at the operations -/
variable {ops : Array Oper} {rest : List Oper} {o : Oper} {a : Act} {Q : Exit → Act → World → Prop}
theorem wpList_make_M (enc : α → Value) (w : World) (hg : o.guard = none) (t : TypeId) (hop : o.op = Op.makeMap t none)
    (hK : ∀ b w', b = w.heap.size → MapAt enc w' b ([] : List (ByteArray × α)) → Below w.heap.size w w' → wpList P ops Q rest (a.put o.dst (.map (some b))) w') : wpList P ops Q (o :: rest) a w := by
  refine wpList_plain hg fun K' hK' => ?_
  have hrun : (Instr.makeMap t none).run P w = .ok (.map (some w.heap.size)) (w.alloc (.map #[] 0)) := rfl
  unfold Oper.wp
  simp [execOp, hop, hrun, Result.andThen]
  exact hK' _ _ (hK _ _ rfl (MapAt.made w) ((Below.refl _ w).alloc (Nat.le_refl _) _))
theorem wpList_look_M (w : World) (hg : o.guard = none) (m x : Operand) (t : TypeId) (hop : o.op = Op.lookup t m x false) (kt e : TypeId) (ht : P.underlying t = some (.map kt e)) (hk : P.underlying kt = some .string) (z : α) (hz : (zeroValue e).run P w = .ok (enc z) w)
    (b : Nat) (M : List (ByteArray × α)) (hm : a.eval m = .map (some b)) (h : MapAt enc w b M) (k : ByteArray) (hx : a.eval x = .string k) (u : Value) (hu : enc (mget z k M) = u)
    (hK : wpList P ops Q rest (a.put o.dst u) w) : wpList P ops Q (o :: rest) a w := by
  subst hu
  refine wpList_plain hg fun K' hK' => ?_
  have hrun := h.look ht hk z hz k false
  rw [if_neg (by simp)] at hrun
  unfold Oper.wp
  simp [execOp, hop, hm, hx, hrun, Result.andThen]
  exact hK' _ _ hK
theorem wpList_look_ok_M (w : World) (hg : o.guard = none) (m x : Operand) (t : TypeId) (hop : o.op = Op.lookup t m x true) (kt e : TypeId) (ht : P.underlying t = some (.map kt e)) (hk : P.underlying kt = some .string) (z : α) (hz : (zeroValue e).run P w = .ok (enc z) w)
    (b : Nat) (M : List (ByteArray × α)) (hm : a.eval m = .map (some b)) (h : MapAt enc w b M) (k : ByteArray) (hx : a.eval x = .string k) (u : Value) (hu : enc (mget z k M) = u) (ok : Bool) (hok : mhas k M = ok)
    (hK : wpList P ops Q rest (a.put o.dst (.tuple #[u, .bool ok])) w) : wpList P ops Q (o :: rest) a w := by
  subst hu
  subst hok
  refine wpList_plain hg fun K' hK' => ?_
  have hrun := h.look ht hk z hz k true
  rw [if_pos rfl] at hrun
  unfold Oper.wp
  simp [execOp, hop, hm, hx, hrun, Result.andThen]
  exact hK' _ _ hK
theorem wpList_store_M (w : World) (hg : o.guard = none) (m x v : Operand) (t : TypeId) (hop : o.op = Op.mapUpdate t m x v) (kt e : TypeId) (ht : P.underlying t = some (.map kt e)) (hk : P.underlying kt = some .string)
    (b : Nat) (M : List (ByteArray × α)) (hm : a.eval m = .map (some b)) (h : MapAt enc w b M) (k : ByteArray) (hx : a.eval x = .string k) (y : α) (hv : a.eval v = enc y)
    (hK : ∀ w', MapAt enc w' b (mput k y M) → w.grownBy w' (some b) → w'.heap.size = w.heap.size → wpList P ops Q rest (a.put o.dst undef) w') : wpList P ops Q (o :: rest) a w := by
  refine wpList_plain hg fun K' hK' => ?_
  obtain ⟨w', hrun, r1, r2, r3⟩ := h.store ht hk k y
  unfold Oper.wp
  simp [execOp, hop, hm, hx, hv, hrun, Result.andThen]
  exact hK' _ _ (hK w' r1 r2 r3)
theorem wpList_range_M (w : World) (hg : o.guard = none) (m : Operand) (t : TypeId) (hop : o.op = Op.range t m) (kt e : TypeId) (ht : P.underlying t = some (.map kt e)) (b : Nat) (M : List (ByteArray × α)) (hm : a.eval m = .map (some b)) (h : MapAt enc w b M)
    (hK : ∀ r w', r = w.heap.size → RngAt enc w' b r M M → w.grownBy w' none → wpList P ops Q rest (a.put o.dst (.pointer (some ⟨r, 0, none⟩))) w') :
    wpList P ops Q (o :: rest) a w := by
  refine wpList_plain hg fun K' hK' => ?_
  obtain ⟨w', hrun, r1, r2, _⟩ := h.range ht
  unfold Oper.wp
  simp [execOp, hop, hm, hrun, Result.andThen]
  exact hK' _ _ (hK _ w' rfl r1 r2)
/-- What the range's step has brought. -/
structure Came (enc : α → Value) (P : Program) (w w' : World) (b r : Nat) (M L : List (ByteArray × α)) where
  L1 : List (ByteArray × α)
  k : ByteArray
  x : α
  L2 : List (ByteArray × α)
  hL : L = L1 ++ (k, x) :: L2
  hR : RngAt enc w' b r M (L1 ++ L2)
  hg : w.grownBy w' (some r)
  hen : (Instr.entry (.pointer (some ⟨r, 0, none⟩))).run P w' = .ok (.tuple #[.string k, enc x]) w'
theorem wpList_next_M (w : World) (hg : o.guard = none) (it : Operand) (hop : o.op = Op.next it false) (b r : Nat) (M L : List (ByteArray × α)) (hit : a.eval it = .pointer (some ⟨r, 0, none⟩)) (h : RngAt enc w b r M L)
    (hDone : L = [] → wpList P ops Q rest (a.put o.dst (.tuple #[.bool false])) w)
    (hMore : ∀ w' (cm : Came enc P w w' b r M L), wpList P ops Q rest (a.put o.dst (.tuple #[.bool true, .string cm.k, enc cm.x])) w') :
    wpList P ops Q (o :: rest) a w := by
  refine wpList_plain hg fun K' hK' => ?_
  unfold Oper.wp
  rcases h.next (P := P) o.type with ⟨h0, hrun⟩ | ⟨L1, p, L2, w', h0, hrun, hrg, hgr, hsz, hen⟩
  · simp [execOp, hop, hit, hrun, Result.andThen]
    exact hK' _ _ (hDone h0)
  · simp [execOp, hop, hit, hrun, Result.andThen]
    exact hK' _ _ (hMore w' ⟨L1, p.1, p.2, L2, h0, hrg, hgr, hen⟩)
end
theorem MapAt.over {α : Type} {enc : α → Value} {w W w' : World} {b : Nat} {M : List (ByteArray × α)} (h : MapAt enc w b M) (hb : Below W.heap.size W w') (e : W.heap = w.heap) : MapAt enc w' b M := by
  have hlt := h.lt
  obtain ⟨es, clock, hb', rest⟩ := h
  exact ⟨es, clock, (hb.block b (by rw [e]; exact hlt)).trans (by rw [e]; exact hb'), rest⟩
theorem MapAt.heap {α : Type} {enc : α → Value} {w W : World} {b : Nat} {M : List (ByteArray × α)} (h : MapAt enc w b M) (e : W.heap = w.heap) : MapAt enc W b M := by
  obtain ⟨es, clock, hb', rest⟩ := h
  exact ⟨es, clock, by rw [e]; exact hb', rest⟩
def allK {α : Type} (Ms : List (Nat × List (ByteArray × α))) : List ByteArray := Ms.flatMap fun p => p.2.map (·.1)
def sizeK {α : Type} (Ms : List (Nat × List (ByteArray × α))) : Nat := (Ms.map fun p => p.2.length).sum
theorem maps_two {α : Type} {enc : α → Value} {w : World} {b c : Nat} {M N : List (ByteArray × α)} (h1 : MapAt enc w b M) (h2 : MapAt enc w c N) : ∀ i, (h : i < [(b, M), (c, N)].length) → MapAt enc w [(b, M), (c, N)][i].1 [(b, M), (c, N)][i].2 := by
  intro i h
  match i, h with
  | 0, _ => exact h1
  | 1, _ => exact h2
  | j + 2, h => exact absurd h (by simp)
theorem allK_two {α : Type} (b c : Nat) (M N : List (ByteArray × α)) : allK [(b, M), (c, N)] = M.map (·.1) ++ N.map (·.1) := by simp [allK]
theorem cell_two {α : Type} (b c t : Nat) (M N : List (ByteArray × α)) (W : World) : ∀ i, (h : i < [(b, M), (c, N)].length) → (W.alloc (.cells #[.map (some b), .map (some c)] t)).cell? (Addr.add ⟨W.heap.size, 0, none⟩ i) = some (.map (some [(b, M), (c, N)][i].1)) := by
  intro i h
  match i, h with
  | 0, _ => simp [Addr.add]
  | 1, _ => simp [Addr.add]
  | j + 2, h => exact absurd h (by simp)
end Go.Proofs.YtkmfnmeilooogaaDoor.P


namespace Go.Proofs.YtkmfnmeilooogaaDoor.P
open Go Go.MapKept Go.ChangeMaps Go.RowKit
section

def imget (k : Int) : List (Int × Int) → Int
  | [] => 0
  | p :: r => if p.1 = k then p.2 else imget k r
def imhas (k : Int) : List (Int × Int) → Bool
  | [] => false
  | p :: r => if p.1 = k then true else imhas k r
def imput (k : Int) (v : Int) : List (Int × Int) → List (Int × Int)
  | [] => [(k, v)]
  | p :: r => if p.1 = k then (k, v) :: r else p :: imput k v r
theorem imget_not (k : Int) : ∀ M : List (Int × Int), imhas k M = false → imget k M = 0
  | [], _ => rfl
  | p :: r, h => by
    unfold imhas at h
    unfold imget
    split
    · rename_i e
      rw [if_pos e] at h
      cases h
    · rename_i e
      rw [if_neg e] at h
      exact imget_not k r h
theorem imput_mem (k : Int) (v : Int) : ∀ (M : List (Int × Int)) (p : Int × Int), p ∈ imput k v M → p = (k, v) ∨ p ∈ M
  | [], p, h => by
    simp [imput] at h
    exact .inl h
  | q :: r, p, h => by
    unfold imput at h
    split at h
    · rcases List.mem_cons.1 h with rfl | h
      · exact .inl rfl
      · exact .inr (List.mem_cons_of_mem _ h)
    · rcases List.mem_cons.1 h with rfl | h
      · exact .inr List.mem_cons_self
      · rcases imput_mem k v r p h with h | h
        · exact .inl h
        · exact .inr (List.mem_cons_of_mem _ h)
theorem imput_keys (k : Int) (v : Int) : ∀ M : List (Int × Int), M.Pairwise (fun p q => p.1 ≠ q.1) → (imput k v M).Pairwise (fun p q => p.1 ≠ q.1)
  | [], _ => List.pairwise_singleton _ _
  | p :: r, h => by
    obtain ⟨h1, h2⟩ := List.pairwise_cons.1 h
    unfold imput
    split
    · rename_i e
      exact List.pairwise_cons.2 ⟨fun q hq => by rw [← e]; exact h1 q hq, h2⟩
    · rename_i e
      refine List.pairwise_cons.2 ⟨fun q hq => ?_, imput_keys k v r h2⟩
      rcases imput_mem k v r q hq with rfl | hq
      · exact e
      · exact h1 q hq
theorem imput_len (k : Int) (v : Int) : ∀ M : List (Int × Int), (imput k v M).length ≤ M.length + 1
  | [] => by simp [imput]
  | p :: r => by
    unfold imput
    split
    · simp
    · have := imput_len k v r
      simp only [List.length_cons]
      omega
def ipairs_ (M : List (Int × Int)) : List (Value × Value) := M.map fun p => (Value.int .i64 p.1, Value.int .i64 p.2)
/-- What is found at a key, and what a store leaves. -/
theorem ifind_pairs (k : Int) : ∀ (es : List MapEntry) (M : List (Int × Int)) (i : Nat), es.map (fun e => (e.key, e.val)) = ipairs_ M →
    (imhas k M = false ∧ Instr.findNow (.int .i64) (.int .i64 k) es i = some none ∧ ∀ v, imput k v M = M ++ [(k, v)]) ∨
    ∃ j v, imhas k M = true ∧ imget k M = v ∧ Instr.findNow (.int .i64) (.int .i64 k) es i = some (some (i + j, .int .i64 v)) ∧ (∃ e, es[j]? = some e ∧ e.key = .int .i64 k) ∧
      ∀ v', (es.modify j fun e => { e with key := .int .i64 k, val := .int .i64 v' }).map (fun e => (e.key, e.val)) = ipairs_ (imput k v' M)
  | [], [], i, _ => .inl ⟨rfl, rfl, fun _ => rfl⟩
  | [], _ :: _, _, h => by simp [ipairs_] at h
  | _ :: _, [], _, h => by simp [ipairs_] at h
  | e :: es, p :: M, i, h => by
    simp only [ipairs_, List.map_cons, List.cons.injEq, Prod.mk.injEq] at h
    obtain ⟨⟨hk, hv⟩, hr⟩ := h
    have ih := ifind_pairs k es M (i + 1) hr
    by_cases hp : p.1 = k
    · subst hp
      refine .inr ⟨0, p.2, by simp [imhas], by simp [imget], ?_, ⟨e, rfl, hk⟩, fun v' => ?_⟩
      · rcases sameNow_of_keys (d := .int .i64) (a := .int .i64 p.1) (show IsKey (.int .i64) (.int .i64 p.1) from rfl) (show IsKey (.int .i64) e.key by rw [hk]; exact rfl) with ⟨r, hr', hi⟩
        have : r = true := hi.2 hk.symm
        subst this
        simp [Instr.findNow, hr', hv]
      · simp only [List.modify_zero_cons, List.map_cons, ipairs_, imput, if_true, List.cons.injEq, true_and]
        exact hr
    · have hs : Instr.findNow (.int .i64) (.int .i64 k) (e :: es) i = Instr.findNow (.int .i64) (.int .i64 k) es (i + 1) := by
        rcases sameNow_of_keys (d := .int .i64) (a := .int .i64 k) (show IsKey (.int .i64) (.int .i64 k) from rfl) (show IsKey (.int .i64) e.key by rw [hk]; exact rfl) with ⟨r, hr', hi⟩
        cases r with
        | true =>
          have h2 := hi.1 rfl
          rw [hk] at h2
          injection h2 with _ h2
          exact absurd h2.symm hp
        | false => simp [Instr.findNow, hr']
      rcases ih with ⟨h1, h2, h3⟩ | ⟨j, v, h1, h2, h3, h4, h5⟩
      · exact .inl ⟨by simp [imhas, hp, h1], by rw [hs, h2], fun v => by simp [imput, hp, h3]⟩
      · refine .inr ⟨j + 1, v, by simp [imhas, hp, h1], by simp [imget, hp, h2], ?_, by simpa using h4, fun v' => ?_⟩
        · rw [hs, h3, Nat.add_right_comm, Nat.add_assoc]
        · simp only [List.modify_succ_cons, List.map_cons, h5 v', ipairs_, imput, if_neg hp, hk, hv]

/-- BLOCK b OF w IS THE MAP OF M. -/
def IMapAt (w : World) (b : Nat) (M : List (Int × Int)) : Prop :=
  ∃ es clock, w.heap[b]? = some (.map es clock) ∧ es.toList.map (fun e => (e.key, e.val)) = ipairs_ M ∧ (es.toList.map (·.born)).Nodup ∧ (∀ e ∈ es.toList, e.born < clock) ∧ M.Pairwise (fun p q => p.1 ≠ q.1)
variable {P : Program} {w : World} {b : Nat} {M : List (Int × Int)}
theorem IMapAt.made (w : World) : IMapAt (w.alloc (.map #[] 0)) w.heap.size [] :=
  ⟨#[], 0, (MapKept.heap_alloc w _).1, rfl, by simp, by simp, List.Pairwise.nil⟩
theorem IMapAt.lt (h : IMapAt w b M) : b < w.heap.size := by
  obtain ⟨es, clock, hb, _⟩ := h
  exact (Array.getElem?_eq_some_iff.1 hb).1
theorem IMapAt.kept {w' : World} {row : Option Nat} (h : IMapAt w b M) (hg : w.grownBy w' row) (hne : some b ≠ row) : IMapAt w' b M := by
  have hlt := h.lt
  obtain ⟨es, clock, hb, rest⟩ := h
  exact ⟨es, clock, (hg.block b hlt hne).trans hb, rest⟩
theorem IMapAt.over {W w' : World} (h : IMapAt w b M) (hb : Below W.heap.size W w') (e : W.heap = w.heap) : IMapAt w' b M := by
  have hlt := h.lt
  obtain ⟨es, clock, hb', rest⟩ := h
  exact ⟨es, clock, (hb.block b (by rw [e]; exact hlt)).trans (by rw [e]; exact hb'), rest⟩
theorem IMapAt.heap {W : World} (h : IMapAt w b M) (e : W.heap = w.heap) : IMapAt W b M := by
  obtain ⟨es, clock, hb', rest⟩ := h
  exact ⟨es, clock, by rw [e]; exact hb', rest⟩
theorem IMapAt.look {t kt e : TypeId} (h : IMapAt w b M) (ht : P.underlying t = some (.map kt e)) (hk : P.underlying kt = some (.int .i64)) (hz : (zeroValue e).run P w = .ok (.int .i64 0) w) (k : Int) (ok : Bool) :
    (Instr.lookup t (.map (some b)) (.int .i64 k) ok).run P w = .ok (if ok = true then .tuple #[.int .i64 (imget k M), .bool (imhas k M)] else .int .i64 (imget k M)) w := by
  obtain ⟨es, clock, hb, hes, _⟩ := h
  rcases ifind_pairs k es.toList M 0 hes with ⟨h1, h2, _⟩ | ⟨j, v, h1, h2, h3, _⟩
  · cases ok <;> simp [Instr.lookup, run_underlying ht, MapKept.run_getObj_map hb, run_checkKey (k := .int .i64 k) hk rfl, run_findKey hk h2, hz, Result.andThen, h1, imget_not k M h1]
  · cases ok <;> simp [Instr.lookup, run_underlying ht, MapKept.run_getObj_map hb, run_checkKey (k := .int .i64 k) hk rfl, run_findKey hk h3, Result.andThen, h1, h2]
theorem IMapAt.store {t kt e : TypeId} (h : IMapAt w b M) (ht : P.underlying t = some (.map kt e)) (hk : P.underlying kt = some (.int .i64)) (k : Int) (v : Int) :
    ∃ w', (Instr.mapUpdate t (.map (some b)) (.int .i64 k) (.int .i64 v)).run P w = .ok () w' ∧ IMapAt w' b (imput k v M) ∧ w.grownBy w' (some b) ∧ w'.heap.size = w.heap.size := by
  obtain ⟨es, clock, hb, hes, hn, hc, hd⟩ := h
  rcases ifind_pairs k es.toList M 0 hes with ⟨h1, h2, h3⟩ | ⟨j, v0, h1, _, h3, ⟨e0, h4, h4'⟩, h5⟩
  · refine ⟨setBlock w b (.map (es.push { key := .int .i64 k, val := .int .i64 v, born := clock }) (clock + 1)), ?_, ⟨_, _, heap_setBlock_same hb _, ?_, ?_, ?_, imput_keys k v M hd⟩, ⟨rfl, rfl, rfl, by simp [setBlock], fun i _ hi => heap_setBlock_other hb _ (fun e => hi (by rw [e]))⟩, by simp [setBlock]⟩
    · simp [Instr.mapUpdate, run_underlying ht, MapKept.run_getObj_map hb, run_checkKey (k := .int .i64 k) hk rfl, run_findKey hk h2, MapKept.run_setObj_map _ hb, Result.andThen, setBlock]
    · rw [h3]
      simp [ipairs_, hes]
    · rw [Array.toList_push, List.map_append, List.nodup_append]
      refine ⟨hn, by simp, fun a ha b' hb' => ?_⟩
      obtain ⟨x, hx, rfl⟩ := List.mem_map.1 ha
      simp at hb'
      have := hc x hx
      omega
    · intro x hx
      rw [Array.toList_push, List.mem_append] at hx
      rcases hx with hx | hx
      · have := hc x hx
        omega
      · simp at hx
        rw [hx]
        exact Nat.lt_succ_self _
  · rw [Nat.zero_add] at h3
    have e1 : (((es[j]?).map (·.key)).getD (.int .i64 k)) = .int .i64 k := by
      rw [← Array.getElem?_toList, h4]
      exact h4'
    refine ⟨setBlock w b (.map (es.modify j fun e => { e with key := .int .i64 k, val := .int .i64 v }) clock), ?_, ⟨_, _, heap_setBlock_same hb _, ?_, ?_, ?_, imput_keys k v M hd⟩, ⟨rfl, rfl, rfl, by simp [setBlock], fun i _ hi => heap_setBlock_other hb _ (fun e => hi (by rw [e]))⟩, by simp [setBlock]⟩
    · simp [Instr.mapUpdate, run_underlying ht, MapKept.run_getObj_map hb, run_checkKey (k := .int .i64 k) hk rfl, run_findKey hk h3, e1, run_keyThatStays (d := .int .i64) (k := .int .i64 k) rfl, MapKept.run_setObj_map _ hb, Result.andThen, setBlock]
    · rw [Array.toList_modify]
      exact h5 v
    · rw [Array.toList_modify, map_born]
      exact hn
    · intro x hx
      have hm : x.born ∈ (es.toList.modify j fun e => { e with key := .int .i64 k, val := .int .i64 v }).map (·.born) := by
        rw [Array.toList_modify] at hx
        exact List.mem_map.2 ⟨x, hx, rfl⟩
      rw [map_born] at hm
      obtain ⟨y, hy, e2⟩ := List.mem_map.1 hm
      rw [← e2]
      exact hc y hy

/-! ### at the operations -/
variable {ops : Array Oper} {rest : List Oper} {o : Oper} {a : Act} {Q : Exit → Act → World → Prop}
theorem wpList_make_I (w : World) (hg : o.guard = none) (t : TypeId) (hop : o.op = Op.makeMap t none)
    (hK : ∀ b w', b = w.heap.size → IMapAt w' b [] → Below w.heap.size w w' → wpList P ops Q rest (a.put o.dst (.map (some b))) w') : wpList P ops Q (o :: rest) a w := by
  refine wpList_plain hg fun K' hK' => ?_
  have hrun : (Instr.makeMap t none).run P w = .ok (.map (some w.heap.size)) (w.alloc (.map #[] 0)) := rfl
  unfold Oper.wp
  simp [execOp, hop, hrun, Result.andThen]
  exact hK' _ _ (hK _ _ rfl (IMapAt.made w) ((Below.refl _ w).alloc (Nat.le_refl _) _))
theorem wpList_look_I (w : World) (hg : o.guard = none) (m x : Operand) (t : TypeId) (hop : o.op = Op.lookup t m x false) (kt e : TypeId) (ht : P.underlying t = some (.map kt e)) (hk : P.underlying kt = some (.int .i64)) (hz : (zeroValue e).run P w = .ok (.int .i64 0) w)
    (b : Nat) (M : List (Int × Int)) (hm : a.eval m = .map (some b)) (h : IMapAt w b M) (k : Int) (hx : a.eval x = .int .i64 k)
    (hK : wpList P ops Q rest (a.put o.dst (.int .i64 (imget k M))) w) : wpList P ops Q (o :: rest) a w := by
  refine wpList_plain hg fun K' hK' => ?_
  have hrun := h.look ht hk hz k false
  rw [if_neg (by simp)] at hrun
  unfold Oper.wp
  simp [execOp, hop, hm, hx, hrun, Result.andThen]
  exact hK' _ _ hK
theorem wpList_look_ok_I (w : World) (hg : o.guard = none) (m x : Operand) (t : TypeId) (hop : o.op = Op.lookup t m x true) (kt e : TypeId) (ht : P.underlying t = some (.map kt e)) (hk : P.underlying kt = some (.int .i64)) (hz : (zeroValue e).run P w = .ok (.int .i64 0) w)
    (b : Nat) (M : List (Int × Int)) (hm : a.eval m = .map (some b)) (h : IMapAt w b M) (k : Int) (hx : a.eval x = .int .i64 k) (u : Int) (hu : imget k M = u) (ok : Bool) (hok : imhas k M = ok)
    (hK : wpList P ops Q rest (a.put o.dst (.tuple #[.int .i64 u, .bool ok])) w) : wpList P ops Q (o :: rest) a w := by
  subst hu
  subst hok
  refine wpList_plain hg fun K' hK' => ?_
  have hrun := h.look ht hk hz k true
  rw [if_pos rfl] at hrun
  unfold Oper.wp
  simp [execOp, hop, hm, hx, hrun, Result.andThen]
  exact hK' _ _ hK
theorem wpList_store_I (w : World) (hg : o.guard = none) (m x v : Operand) (t : TypeId) (hop : o.op = Op.mapUpdate t m x v) (kt e : TypeId) (ht : P.underlying t = some (.map kt e)) (hk : P.underlying kt = some (.int .i64))
    (b : Nat) (M : List (Int × Int)) (hm : a.eval m = .map (some b)) (h : IMapAt w b M) (k : Int) (hx : a.eval x = .int .i64 k) (y : Int) (hv : a.eval v = .int .i64 y)
    (hK : ∀ w', IMapAt w' b (imput k y M) → w.grownBy w' (some b) → w'.heap.size = w.heap.size → wpList P ops Q rest (a.put o.dst undef) w') : wpList P ops Q (o :: rest) a w := by
  refine wpList_plain hg fun K' hK' => ?_
  obtain ⟨w', hrun, r1, r2, r3⟩ := h.store ht hk k y
  unfold Oper.wp
  simp [execOp, hop, hm, hx, hv, hrun, Result.andThen]
  exact hK' _ _ (hK w' r1 r2 r3)
end
end Go.Proofs.YtkmfnmeilooogaaDoor.P


namespace Go.Proofs.YtkmfnmeilooogaaDoor.P
open Go Go.RowKit Go.Proofs.YtkmfnmeilooogaaDoorW.PrintWords Go.Proofs.YtkmfnmeilooogaaDoorW.PrintLast Go.Proofs.YtkmfnmeilooogaaDoorW.PrintMore
theorem grown_set (W : World) (b i : Nat) (v : Value) : W.grownBy (W.setCell ⟨b, i, none⟩ v) (some b) :=
  ⟨rfl, rfl, rfl, by simp, fun k _ hne => Below.heap_setCell W ⟨b, i, none⟩ v k (fun e => hne (by rw [e]))⟩
theorem size_set (W : World) (b i : Nat) (v : Value) : (W.setCell ⟨b, i, none⟩ v).heap.size = W.heap.size := by simp
theorem grown_then {a w w' : World} {row : Option Nat} (h : a.grownBy w row) (k : w.grownBy w' row) : a.grownBy w' row :=
  ⟨k.os.trans h.os, k.tape.trans h.tape, k.output.trans h.output, Nat.le_trans h.size k.size, fun i hi hr => (k.block i (Nat.lt_of_lt_of_le hi h.size) hr).trans (h.block i hi hr)⟩
section
variable {W w' : World} {b : Nat} {t : TypeId}
theorem set1 {c0 x0 : Value} (h : W.heap[b]? = some (.cells #[c0] t (0, 0))) (hw : w' = W.setCell ⟨b, 0, none⟩ x0) : w'.heap[b]? = some (.cells #[x0] t (0, 0)) ∧ W.grownBy w' (some b) ∧ w'.heap.size = W.heap.size := by
  subst hw
  exact ⟨blk_put h 0 x0 rfl, grown_set _ _ _ _, size_set _ _ _ _⟩
theorem set3 {c0 c1 c2 x0 x1 x2 : Value} (h : W.heap[b]? = some (.cells #[c0, c1, c2] t (0, 0))) (hw : w' = ((W.setCell ⟨b, 0, none⟩ x0).setCell ⟨b, 1, none⟩ x1).setCell ⟨b, 2, none⟩ x2) :
    w'.heap[b]? = some (.cells #[x0, x1, x2] t (0, 0)) ∧ W.grownBy w' (some b) ∧ w'.heap.size = W.heap.size := by
  subst hw
  exact ⟨blk_put (blk_put (blk_put h 0 x0 rfl) 1 x1 rfl) 2 x2 rfl, grown_then (grown_then (grown_set _ _ _ _) (grown_set _ _ _ _)) (grown_set _ _ _ _), by simp only [size_set]⟩
theorem set7 {c0 c1 c2 c3 c4 c5 c6 x0 x1 x2 x3 x4 x5 x6 : Value} (h : W.heap[b]? = some (.cells #[c0, c1, c2, c3, c4, c5, c6] t (0, 0)))
    (hw : w' = ((((((W.setCell ⟨b, 0, none⟩ x0).setCell ⟨b, 1, none⟩ x1).setCell ⟨b, 2, none⟩ x2).setCell ⟨b, 3, none⟩ x3).setCell ⟨b, 4, none⟩ x4).setCell ⟨b, 5, none⟩ x5).setCell ⟨b, 6, none⟩ x6) :
    w'.heap[b]? = some (.cells #[x0, x1, x2, x3, x4, x5, x6] t (0, 0)) ∧ W.grownBy w' (some b) ∧ w'.heap.size = W.heap.size := by
  have h0 := blk_put (cs' := #[x0, c1, c2, c3, c4, c5, c6]) h 0 x0 rfl
  have h1 := blk_put (cs' := #[x0, x1, c2, c3, c4, c5, c6]) h0 1 x1 rfl
  have h2 := blk_put (cs' := #[x0, x1, x2, c3, c4, c5, c6]) h1 2 x2 rfl
  have h3 := blk_put (cs' := #[x0, x1, x2, x3, c4, c5, c6]) h2 3 x3 rfl
  have h4 := blk_put (cs' := #[x0, x1, x2, x3, x4, c5, c6]) h3 4 x4 rfl
  have h5 := blk_put (cs' := #[x0, x1, x2, x3, x4, x5, c6]) h4 5 x5 rfl
  have h6 := blk_put (cs' := #[x0, x1, x2, x3, x4, x5, x6]) h5 6 x6 rfl
  have g1 := grown_then (grown_set W b 0 x0) (grown_set _ b 1 x1)
  have g2 := grown_then g1 (grown_set _ b 2 x2)
  have g3 := grown_then g2 (grown_set _ b 3 x3)
  have g4 := grown_then g3 (grown_set _ b 4 x4)
  have g5 := grown_then g4 (grown_set _ b 5 x5)
  have g6 := grown_then g5 (grown_set _ b 6 x6)
  have s6 : w'.heap.size = W.heap.size := by rw [hw]; simp only [size_set]
  rw [← hw] at h6 g6
  exact ⟨h6, g6, s6⟩
end
/-- A step that writes a block of one's own, or none: what lies below stays. -/
theorem below_own {w W w' : World} {b : Nat} (h : Below w.heap.size w W) (hg : W.grownBy w' (some b)) (hb : w.heap.size ≤ b) : Below w.heap.size w w' := pw_below_grown h (some b) h.size hg (fun k e => by cases e; exact hb)
theorem below_none {w W w' : World} (h : Below w.heap.size w W) (hg : W.grownBy w' none) : Below w.heap.size w w' := pw_below_grown h none h.size hg (fun k e => by cases e)
theorem blk_none {w w1 : World} {g : Nat} {o : Obj} (h : w.heap[g]? = some o) (hg : w.grownBy w1 none) : w1.heap[g]? = some o := blk_grown h hg (by simp)
theorem ne_some {a b : Nat} (h : a ≠ b) : some a ≠ some b := fun e => h (Option.some.inj e)
/-- But for one box all that was there stands. -/
def FrameBut (w0 : World) (b : Nat) (w : World) : Prop := w0.heap.size ≤ w.heap.size ∧ ∀ k, k < w0.heap.size → k ≠ b → w.heap[k]? = w0.heap[k]?
theorem FrameBut.refl (w0 : World) (b : Nat) : FrameBut w0 b w0 := ⟨Nat.le_refl _, fun _ _ _ => rfl⟩
theorem FrameBut.below {w0 w w' : World} {b : Nat} (h : FrameBut w0 b w) (hb : Below w.heap.size w w') : FrameBut w0 b w' := ⟨Nat.le_trans h.1 hb.size, fun k hk hn => (hb.block k (Nat.lt_of_lt_of_le hk h.1)).trans (h.2 k hk hn)⟩
theorem FrameBut.grown {w0 w w' : World} {b : Nat} {row : Option Nat} (h : FrameBut w0 b w) (hg : w.grownBy w' row) (hr : ∀ k, row = some k → w0.heap.size ≤ k ∨ k = b) : FrameBut w0 b w' :=
  ⟨Nat.le_trans h.1 hg.size, fun k hk hn => (hg.block k (Nat.lt_of_lt_of_le hk h.1) (fun e => by rcases hr k e.symm with h1 | h1 <;> omega)).trans (h.2 k hk hn)⟩
theorem FrameBut.blk {w0 w : World} {b g : Nat} {o : Obj} (h : FrameBut w0 b w) (hb : w0.heap[g]? = some o) (hn : g ≠ b) : w.heap[g]? = some o := (h.2 g (blk_lt hb) hn).trans hb
theorem add_zero_ (g : Nat) : Addr.add ⟨g, 0, none⟩ 0 = ⟨g, 0, none⟩ := rfl
end Go.Proofs.YtkmfnmeilooogaaDoor.P


namespace Go.Proofs.YtkmfnmeilooogaaDoor.Ow
open Go Go.Proofs.YtkmfnmeilooogaaDoorW.PrintWords

/-- A reading at type t is a value of kind d, of which S holds. -/
def Opens (P : Program) (t : TypeId) {α : Type} (d : Kd α) (S : α → Prop) : Prop :=
  ∀ (H : Type) (enc : TypeId × Value → H) (w : World) (fuel : Nat) (cs : List Value) (x : DataW H × List MemPlace),
    DataW.trod enc P w 0 (fun _ => true) true fuel t cs = some x → (∀ n ∈ x.1.weights P t, n ≤ 140737488351232) → ∃ y : α, d.K w y cs ∧ S y

theorem opens_string {P : Program} {t : TypeId} (ht : P.underlying t = some .string) : Opens P t Kd.string (fun s => s.size ≤ 140737488351232) := by
  intro H enc w fuel cs x h hw
  obtain ⟨s, rfl, rfl, _⟩ := DataW.trod_string ht h
  refine ⟨s, rfl, ?_⟩
  have := hw s.data.toList.length (by simp [DataW.weights])
  simpa using this

theorem opens_int {P : Program} {t : TypeId} {k : IntKind} (ht : P.underlying t = some (.int k)) : Opens P t (Kd.int k) (fun n => (Lit.int k n).wf = true) := by
  intro H enc w fuel cs x h _
  obtain ⟨n, rfl, rfl, hn⟩ := DataW.trod_int ht h
  exact ⟨n, rfl, hn⟩

theorem opens_bool {P : Program} {t : TypeId} (ht : P.underlying t = some .bool) : Opens P t Kd.bool (fun _ => True) := by
  intro H enc w fuel cs x h _
  obtain ⟨b, rfl, rfl⟩ := DataW.trod_bool ht h
  exact ⟨b, rfl, trivial⟩

theorem mem_weightsAll {H : Type} {P : Program} {e : TypeId} {d : DataW H} : ∀ {l : List (DataW H)}, d ∈ l → ∀ n ∈ d.weights P e, n ∈ DataW.weightsAll P e l
  | [], h, _, _ => by cases h
  | x :: r, h, n, hn => by
    simp only [DataW.weightsAll, List.mem_append]
    rcases List.mem_cons.1 h with rfl | h
    · exact .inl hn
    · exact .inr (mem_weightsAll h n hn)

theorem opens_slice {P : Program} {t e : TypeId} {α : Type} {d : Kd α} {S : α → Prop} {B : Nat} (ht : P.underlying t = some (.slice e)) (hc : P.cellsOf e = d.sz) (hB : P.bytesOf e = B) (he : Opens P e d S) :
    Opens P t (Kd.slice e d) (fun xs => xs.length * B ≤ 140737488351232 ∧ ∀ x ∈ xs, S x) := by
  intro H enc w fuel cs x h hw
  rcases DataW.trod_slice ht h with ⟨rfl, rfl⟩ | ⟨a, len, cap, elems, rest, n, _, rfl, rfl, _, hl, hm, hlen, hel, _, _⟩
  · refine ⟨[], ⟨none, 0, rfl, Nat.le_refl _, rfl, by simp, fun h => by simp at h⟩, by simp, by simp⟩
  · have hw1 : (elems.length + rest.length) * B ≤ 140737488351232 := by
      have := hw ((elems.length + rest.length) * B) (by simp [DataW.weights, ht, hB])
      exact this
    have key : ∀ i, i < len → ∃ y : α, (∃ c, c.length = d.sz ∧ d.K w y c ∧ ∀ j u, c[j]? = some u → w.cell? (a.add (i * d.sz + j)) = some u) ∧ S y := by
      intro i hi
      have hi' : i < elems.length := by omega
      have hb := hel i hi
      rw [List.getElem?_eq_getElem hi'] at hb
      obtain ⟨c, hc1, hc2⟩ := Option.bind_eq_some_iff.1 hb
      obtain ⟨y, hy, hS⟩ := he H enc w n c _ hc2 (fun m hm => by
        refine hw m ?_
        simp only [DataW.weights, ht, List.mem_cons, List.mem_append]
        refine .inr (.inl (mem_weightsAll (d := elems[i].1) ?_ m hm))
        exact List.mem_map.2 ⟨elems[i], List.getElem_mem hi', rfl⟩)
      obtain ⟨_, hcl, hcell⟩ := World.cells?_some hc1
      refine ⟨y, ⟨c, by rw [hcl, hc], hy, fun j u hu => ?_⟩, hS⟩
      have hj : j < P.cellsOf e := by
        rw [← hcl]
        exact (List.getElem?_eq_some_iff.1 hu).1
      have := hcell j hj
      rw [hu, Go.Deep.add_add, hc] at this
      exact this
    obtain ⟨f, hf⟩ : ∃ f : Fin len → α, ∀ i : Fin len, (∃ c, c.length = d.sz ∧ d.K w (f i) c ∧ ∀ j u, c[j]? = some u → w.cell? (a.add (i.val * d.sz + j)) = some u) ∧ S (f i) :=
      ⟨fun i => Classical.choose (key i.val i.isLt), fun i => Classical.choose_spec (key i.val i.isLt)⟩
    refine ⟨List.ofFn f, ⟨some a, cap, by rw [List.length_ofFn], by rw [List.length_ofFn]; exact hl, rfl, ?_, fun _ => ⟨a, rfl, ?_⟩⟩, ?_, ?_⟩
    · rw [List.length_ofFn]
      unfold maxLen at hm
      omega
    · intro j p hj
      rw [List.getElem?_ofFn] at hj
      split at hj
      · rename_i hlt
        obtain rfl := Option.some.inj hj
        exact (hf ⟨j, hlt⟩).1
      · cases hj
    · rw [List.length_ofFn]
      exact Nat.le_trans (Nat.mul_le_mul_right _ (by omega)) hw1
    · intro x hx
      obtain ⟨i, rfl⟩ := List.mem_ofFn.1 hx
      exact (hf i).2

/-- The fields of a struct, from cell k on. -/
def OpensF (P : Program) (fs : List Field) (k : Nat) {α : Type} (d : Kd α) (S : α → Prop) : Prop :=
  ∀ (H : Type) (enc : TypeId × Value → H) (w : World) (m : Nat) (cs : List Value) (xs : List (DataW H × List MemPlace)),
    cs.length = k + d.sz → xs.length = fs.length →
    (∀ (i : Nat) (f : Field), fs[i]? = some f → DataW.trod enc P w 0 (fun _ => true) true m f.type ((cs.drop f.offset).take (P.cellsOf f.type)) = xs[i]?) →
    (∀ n ∈ DataW.weightsEach P (fs.map (·.type)) (xs.map (·.1)), n ≤ 140737488351232) → ∃ y : α, d.K w y (cs.drop k) ∧ S y

theorem opensF_last {P : Program} {f : Field} {k : Nat} {α : Type} {d : Kd α} {S : α → Prop} (ho : f.offset = k) (hc : P.cellsOf f.type = d.sz) (h : Opens P f.type d S) : OpensF P [f] k d S := by
  intro H enc w m cs xs hl hx hf hw
  match xs, hx with
  | [x], _ =>
    have h0 := hf 0 f rfl
    rw [ho, hc] at h0
    have ht : (cs.drop k).take d.sz = cs.drop k := List.take_of_length_le (by rw [List.length_drop]; omega)
    rw [ht] at h0
    exact h H enc w m _ x (by simpa using h0) (fun n hn => hw n (by simp [DataW.weightsEach, hn]))

theorem opensF_cons {P : Program} {f : Field} {fs : List Field} {k : Nat} {α β : Type} {a : Kd α} {b : Kd β} {Sa : α → Prop} {Sb : β → Prop} (ho : f.offset = k) (hc : P.cellsOf f.type = a.sz) (h : Opens P f.type a Sa) (hr : OpensF P fs (k + a.sz) b Sb) :
    OpensF P (f :: fs) k (Kd.pair a b) (fun y => Sa y.1 ∧ Sb y.2) := by
  intro H enc w m cs xs hl hx hf hw
  match xs, hx with
  | x :: xr, hx =>
    have hl2 : cs.length = k + (a.sz + b.sz) := hl
    have h0 := hf 0 f rfl
    rw [ho, hc] at h0
    obtain ⟨y, hy, hS⟩ := h H enc w m _ x (by simpa using h0) (fun n hn => hw n (by simp only [List.map_cons, DataW.weightsEach, List.mem_append]; exact .inl hn))
    obtain ⟨z, hz, hT⟩ := hr H enc w m cs xr (by omega) (by simpa using hx) (fun i g hg => by simpa using hf (i + 1) g (by simpa using hg)) (fun n hn => hw n (by simp only [List.map_cons, DataW.weightsEach, List.mem_append]; exact .inr hn))
    refine ⟨(y, z), ⟨(cs.drop k).take a.sz, cs.drop (k + a.sz), ?_, hy, hz⟩, hS, hT⟩
    rw [← List.drop_drop, List.take_append_drop]

theorem opens_struct {P : Program} {t : TypeId} {fs : Array Field} {α β : Type} {d : Kd α} {S : α → Prop} {f : β → α} {g : α → β} (ht : P.underlying t = some (.struct fs)) (hc : P.cellsOf t = d.sz) (hg : ∀ y, f (g y) = y) (h : OpensF P fs.toList 0 d S) :
    Opens P t (Kd.iso d f) (fun b => S (f b)) := by
  intro H enc w fuel cs x hx hw
  obtain ⟨xs, n, _, rfl, hl, hxs, hf⟩ := DataW.trod_struct ht hx
  obtain ⟨y, hy, hS⟩ := h H enc w n cs xs (by rw [hl, hc]; omega) (by simpa using hxs) (fun i f0 hi => hf i f0 (by simpa using hi)) (fun n hn => hw n (by simpa [DataW.weights, ht] using hn))
  exact ⟨g y, show d.K w (f (g y)) cs by rw [hg]; simpa using hy, show S (f (g y)) by rw [hg]; exact hS⟩

/-- The weights of one argument out of all. -/
theorem weights_of {H : Type} {P : Program} {ts : List TypeId} {ds : List (DataW H)} (hsz : (DataW.weightsEach P ts ds).all (· ≤ reachBytes) = true) {j : Nat} {t : TypeId} {d : DataW H} (ht : ts[j]? = some t) (hd : ds[j]? = some d) :
    ∀ n ∈ d.weights P t, n ≤ 140737488351232 := fun n hn => by
  have := List.all_eq_true.1 hsz n (DataW.weights_mem_each ht hd n hn)
  exact of_decide_eq_true this

theorem agg_of {P : Program} {W : World} {base : Nat} {t : TypeId} {v : Value} {fs : Array Field} (ht : P.underlying t = some (.struct fs)) (h : Value.okWide P W .any base t v) : ∃ cs, v = .agg cs := by
  simp only [Value.okWide, ht] at h
  obtain ⟨cs, h, _⟩ := h
  exact ⟨cs, h⟩

/-- A struct argument, opened. -/
theorem open_agg {H : Type} {enc : TypeId × Value → H} {P : Program} {W : World} {base : Nat} {t : TypeId} {v : Value} {fs : Array Field} {x : DataW H} {p : List MemPlace} {α : Type} {d : Kd α} {S : α → Prop}
    (ho : Opens P t d S) (ht : P.underlying t = some (.struct fs)) (hv : Value.okWide P W .any base t v) (h : DataW.Trod enc P W 0 (fun _ => true) true t v x p) (hw : ∀ n ∈ x.weights P t, n ≤ 140737488351232) :
    ∃ cs y, v = .agg cs ∧ d.K W y cs.toList ∧ S y := by
  obtain ⟨cs, rfl⟩ := agg_of ht hv
  obtain ⟨fuel, hf⟩ := h
  obtain ⟨y, hy, hS⟩ := ho H enc W fuel _ _ hf hw
  exact ⟨cs, y, rfl, hy, hS⟩

/-- A slice argument, opened. -/
theorem open_row {H : Type} {enc : TypeId × Value → H} {P : Program} {W : World} {base : Nat} {t e : TypeId} {v : Value} {x : DataW H} {p : List MemPlace} {α : Type} {d : Kd α} {S : List α → Prop}
    (ho : Opens P t (Kd.slice e d) S) (ht : P.underlying t = some (.slice e)) (hv : Value.okWide P W .any base t v) (h : DataW.Trod enc P W 0 (fun _ => true) true t v x p) (hw : ∀ n ∈ x.weights P t, n ≤ 140737488351232) :
    ∃ (A : Option Addr) (c : Nat) (xs : List α), v = .slice A xs.length c ∧ xs.length ≤ c ∧ d.C W A xs.length xs ∧ S xs := by
  obtain ⟨a0, len, cap, rfl⟩ := Go.WideShapes.okWide_slice ht hv
  obtain ⟨fuel, hf⟩ := h
  obtain ⟨xs, ⟨A, c, he, hl, hC⟩, hS⟩ := ho H enc W fuel _ _ hf hw
  have he2 : [Value.slice a0 len cap] = [.slice A xs.length c] := by simpa [Value.cells] using he
  simp only [List.cons.injEq, and_true] at he2
  exact ⟨A, c, xs, he2, hl, hC, hS⟩

/-- A row's wrap, with the world's shape and one condition more. -/
theorem returnsInHanded_shaped_and {H : Type} {enc : TypeId × Value → H} {a : Assume} {C : Checked} {os : Os} {f : FuncId} {fn : Func} {s : ChangeSpec} {conds : List PathCond} {apart fresh handsOn again : Bool} {X : World → Array Value → Prop}
    (hX : ∀ (w w' : World) (args : Array Value), w.heap = w'.heap → X w args → X w' args)
    (own : ownKnob C.prog.godebug = none) (started : os.Started) (noInit : C.prog.inits.idxOf? f = none) (hfn : C.prog.funcs[f]? = some fn)
    (witness : ∃ (w : World) (tape : Tape) (i : Input), w.os = os ∧ (w.forCall tape i).Shaped C.prog ∧ i.vars = [] ∧ Input.okWide C.prog (w.forCall tape i) .any w.heap.size f i ∧
      ((s.pre enc C.prog fn conds apart (w.forCall tape i).memory i.args ∧ X (w.forCall tape i).memory i.args) ∧ sizedMet enc C.prog fn (OpenSpec.ofChange s) apart (w.forCall tape i).memory i.args) ∧ a.holds C.prog (lone (Frame.enter C.prog f i.args .normal) [] (w.forCall tape i)))
    (contract : ∀ (W : World) (base : Nat) (args : Array Value) (ds gs : List (DataW H)) (before : List MemPlace),
      (∀ (j : Nat) t v, fn.params[j]? = some t → args[j]? = some v → Value.okWide C.prog W .any base t v) →
      DataW.Whole enc C.prog fn.params.toList s.vars apart W args.toList ds gs before →
      conds.all (PathCond.test C.prog ⟨fn.params.toList, ds, s.plain.varTypes C.prog, gs⟩) = true →
      (DataW.weightsEach C.prog (fn.params.toList ++ s.plain.varTypes C.prog) (ds ++ gs)).all (· ≤ reachBytes) = true → W.ShapedOpen C.prog → X W args →
      a.holds C.prog (lone (Frame.enter C.prog f args .normal) [] W) →
      Calls C.prog f args W fun e W' => ∃ v, e = .returned v ∧ s.post enc C.prog fn apart fresh handsOn again W args v W') :
    ReturnsInHanded a C os f .any (fun w args => (s.pre enc C.prog fn conds apart w args ∧ X w args) ∧ sizedMet enc C.prog fn (OpenSpec.ofChange s) apart w args) (s.post enc C.prog fn apart fresh handsOn again) := by
  refine returnsInHanded_of_calls own started noInit witness ?_
  intro w tape i _ hsh _ hok hpre hholds
  obtain ⟨_, _, _, fn', hfn', _, _, _, _, hval⟩ := hok
  have e : fn' = fn := Option.some.inj (hfn'.symm.trans hfn)
  subst e
  obtain ⟨⟨⟨ds, gs, before, hw, hc⟩, hx⟩, hz⟩ := hpre
  have hw' := DataW.Whole.of_heap (w' := w.forCall tape i) (by rfl) hw
  refine (contract (w.forCall tape i) w.heap.size i.args ds gs before hval hw' hc (hz.weights hw) hsh (hX _ _ _ (by rfl) hx) hholds).mono fun e W' ⟨v, he, hp⟩ => ?_
  subst he
  exact ChangeSpec.post_blind hp

/-- The places of a reading lie in the world. -/
theorem places_lt {H : Type} {enc : TypeId × Value → H} {P : Program} {W : World} {t : TypeId} {v : Value} {x : DataW H} {p : List MemPlace} (h : DataW.Trod enc P W 0 (fun _ => true) true t v x p) : ∀ y ∈ p, y.block < W.heap.size := by
  obtain ⟨m, hm⟩ := h
  exact DataW.trod_lt m _ _ _ hm

end Go.Proofs.YtkmfnmeilooogaaDoor.Ow

