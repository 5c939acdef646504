/- What Evidence computes: Clash of the texts of both proofs. Conditions: sizes. -/
import Derived.Test.YtgaibeckblmbbaaPImplEvidence
import Derived.Test.YtgaibeckblmbbaaPSpecEvidence
import Derived.Test.YtgaibeckblmbbaaClash
namespace Go.Proofs.Ytgaibeckblmbbaa.Pure
open Go Go.RowKit Go.Proofs.Ytgaibeckblmbbaa.P Go.Proofs.YtgaibeckblmbbaaW.PrintWords Go.Proofs.YtgaibeckblmbbaaW.PrintLast
set_option linter.unusedVariables false
set_option linter.unusedSimpArgs false

def fileText : ByteArray := ⟨#[102, 105, 108, 101, 32]⟩
/-- The texts that a proof bears. -/
def bears (l : List ByteArray) (t : Bool) (x : ByteArray) : List ByteArray := l ++ (if t = true then [fileText ++ x] else [])
def evidence (l0 : List ByteArray) (t0 : Bool) (x0 : ByteArray) (l1 : List ByteArray) (t1 : Bool) (x1 : ByteArray) (w : Int) : ByteArray × ByteArray × Bool :=
  if l0.length ≤ 7 ∧ l1.length ≤ 7 then clash (bears l0 t0 x0 ++ bears l1 t1 x1) w else (⟨#[]⟩, ⟨#[]⟩, false)
/-- Texts so small that 'file ' can stand in front. -/
def Small_ (l : List ByteArray) : Prop := ∀ s ∈ l, s.size ≤ 140737488351000
theorem file_size (x : ByteArray) : (fileText ++ x).size = 5 + x.size := by rw [ByteArray.size_append]; rfl
theorem bears_sized {l : List ByteArray} {t : Bool} {x : ByteArray} (hl : Small_ l) (hx : x.size ≤ 140737488351000) : Sized (bears l t x) := by
  intro s hs
  unfold bears at hs
  rcases List.mem_append.1 hs with h | h
  · have := hl s h
    omega
  · split at h
    · obtain rfl := List.mem_singleton.1 h
      rw [file_size]
      omega
    · cases h
theorem bears_length (l : List ByteArray) (t : Bool) (x : ByteArray) : (bears l t x).length ≤ l.length + 1 := by
  unfold bears
  rw [List.length_append]
  split <;> simp
theorem ev_sized {l0 : List ByteArray} {t0 : Bool} {x0 : ByteArray} {l1 : List ByteArray} {t1 : Bool} {x1 : ByteArray} (h0 : Small_ l0) (hx0 : x0.size ≤ 140737488351000) (h1 : Small_ l1) (hx1 : x1.size ≤ 140737488351000) : Sized (bears l0 t0 x0 ++ bears l1 t1 x1) := by
  intro s hs
  rcases List.mem_append.1 hs with h | h
  · exact bears_sized h0 hx0 s h
  · exact bears_sized h1 hx1 s h
theorem clash_bind {f : Nat → Option (ByteArray × ByteArray × Bool)} {r : ByteArray × ByteArray × Bool} (h : Ev f r) : Ev (fun k => (f k).bind fun b => some (b.1, b.2.1, b.2.2)) r :=
  Ev.bind (f := fun _ b => some (b.1, b.2.1, b.2.2)) h (Ev.now _)

theorem spec_Evidence_ev (l0 : List ByteArray) (t0 : Bool) (x0 : ByteArray) (l1 : List ByteArray) (t1 : Bool) (x1 : ByteArray) (w : Int) (h0 : Small_ l0) (hx0 : x0.size ≤ 140737488351000) (h1 : Small_ l1) (hx1 : x1.size ≤ 140737488351000) :
    Ev (fun k => spec_Evidence.f k l0 t0 x0 l1 t1 x1 w) (evidence l0 t0 x0 l1 t1 x1 w) := by
  unfold spec_Evidence.f evidence
  by_cases hl : l0.length ≤ 7 ∧ l1.length ≤ 7
  · have hc := spec_Clash_ev (bears l0 t0 x0 ++ bears l1 t1 x1) w (ev_sized h0 hx0 h1 hx1)
    rw [if_pos hl]
    refine Ev.congr (fun k => by rw [if_neg (by omega), decide_eq_false (by omega)]) ?_
    refine Ev.step (f := fun k => (spec_Clash.f k (bears l0 t0 x0 ++ bears l1 t1 x1) w).bind fun b => some (b.1, b.2.1, b.2.2)) (fun k => ?_) (clash_bind hc)
    simp only [spec_Evidence.j0, Option.bind_some, List.nil_append, List.length_nil, List.length_append]
    rw [if_neg (by simp), if_pos (by omega)]
    cases t0 <;> cases t1 <;> simp only [bears, if_true, if_false, Bool.false_eq_true, List.append_nil, List.length_append, List.length_cons, List.length_nil, fileText, List.append_assoc]
    · rw [if_pos (by omega)]
    · rw [if_pos (by omega), if_pos (by omega), if_pos (by omega)]
    · rw [if_pos (by omega), if_pos (by omega), if_pos (by omega)]
    · rw [if_pos (by omega), if_pos (by omega), if_pos (by omega), if_pos (by omega), if_pos (by omega)]
  · rw [if_neg hl]
    refine Ev.step (f := fun _ => some (⟨#[]⟩, ⟨#[]⟩, false)) (fun k => ?_) (Ev.now _)
    by_cases ha : (l0.length : Int) > 7
    · rw [if_pos ha]
      simp only [spec_Evidence.j0]
      rfl
    · rw [if_neg ha, decide_eq_true (by omega)]
      simp only [spec_Evidence.j0]
      rfl

theorem impl_Ev0 (a b : S41) (w : Int) (r : ByteArray × ByteArray × Bool) (ha : a.f0.length ≤ 7) (hb : b.f0.length ≤ 7) (hxa : a.f2.size ≤ 140737488351000) (hxb : b.f2.size ≤ 140737488351000)
    (hc : Ev (fun k => impl_Clash.f k (bears a.f0 a.f1 a.f2 ++ bears b.f0 b.f1 b.f2) w) r) : Ev (fun k => impl_Evidence.l0 k w [] [a, b] 2 0) r := by
  have la := bears_length a.f0 a.f1 a.f2
  have lb := bears_length b.f0 b.f1 b.f2
  have one : ∀ (k : Nat) (x9 : List ByteArray) (j : Nat) (p : S41), j < 2 → rd_T41 [a, b] (j : Int) = p → p.f0.length ≤ 7 → p.f2.size ≤ 140737488351000 → x9.length ≤ 100 →
      impl_Evidence.l0 (k + 1) w x9 [a, b] 2 (j : Int) = impl_Evidence.l0 k w (x9 ++ bears p.f0 p.f1 p.f2) [a, b] 2 ((j + 1 : Nat) : Int) := by
    intro k x9 j p hj hp h1 h2 h3
    simp only [impl_Evidence.l0]
    rw [if_pos (by omega), if_pos (by omega), if_pos (by simp; omega), hp, if_pos (by omega), Option.bind_some, w64 (by omega) (by omega), show (j : Int) + 1 = ((j + 1 : Nat) : Int) from by omega]
    unfold bears fileText
    by_cases hf : p.f1 = true
    · rw [if_pos hf, if_pos (by omega), if_pos (by rw [List.length_append]; omega), if_pos hf, List.append_assoc]
    · rw [if_neg hf, if_neg hf, List.append_nil]
  refine Ev.step (fun k => one k [] 0 a (by omega) rfl ha hxa (by simp)) (Ev.step (fun k => one k _ 1 b (by omega) rfl hb hxb (by simp; omega)) ?_)
  refine Ev.step (f := fun k => (impl_Clash.f k (bears a.f0 a.f1 a.f2 ++ bears b.f0 b.f1 b.f2) w).bind fun b => some (b.1, b.2.1, b.2.2)) (fun k => ?_) (clash_bind hc)
  simp only [impl_Evidence.l0]
  rw [if_neg (by omega), List.nil_append]
theorem impl_Evidence_ev (l0 : List ByteArray) (t0 : Bool) (x0 : ByteArray) (l1 : List ByteArray) (t1 : Bool) (x1 : ByteArray) (w : Int) (h0 : Small_ l0) (hx0 : x0.size ≤ 140737488351000) (h1 : Small_ l1) (hx1 : x1.size ≤ 140737488351000) :
    Ev (fun k => impl_Evidence.f k l0 t0 x0 l1 t1 x1 w) (evidence l0 t0 x0 l1 t1 x1 w) := by
  unfold impl_Evidence.f evidence
  by_cases hl : l0.length ≤ 7 ∧ l1.length ≤ 7
  · have hc := impl_Clash_ev (bears l0 t0 x0 ++ bears l1 t1 x1) w (ev_sized h0 hx0 h1 hx1)
    rw [if_pos hl]
    refine Ev.congr (fun k => by rw [if_neg (by omega), decide_eq_false (by omega)]) ?_
    refine Ev.step (fun k => ?_) (impl_Ev0 ⟨l0, t0, x0⟩ ⟨l1, t1, x1⟩ w _ hl.1 hl.2 hx0 hx1 hc)
    simp only [impl_Evidence.j0, Option.bind_some]
    rfl
  · rw [if_neg hl]
    refine Ev.step (f := fun _ => some (⟨#[]⟩, ⟨#[]⟩, false)) (fun k => ?_) (Ev.now _)
    by_cases ha : (l0.length : Int) > 7
    · rw [if_pos ha]
      simp only [impl_Evidence.j0]
      rfl
    · rw [if_neg ha, decide_eq_true (by omega)]
      simp only [impl_Evidence.j0]
      rfl

end Go.Proofs.Ytgaibeckblmbbaa.Pure
