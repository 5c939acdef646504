/- The law FnClash of the printed functions: for every code it is true. -/
import Derived.Test.YtgaibeckblmbbaaPLawsFnClash
import Derived.Test.YtgaibeckblmbbaaPSpecDrawClash
import Derived.Test.YtgaibeckblmbbaaClash
import Derived.Test.YtgaibeckblmbbaaDraw1
namespace Go.Proofs.Ytgaibeckblmbbaa.Pure
open Go Go.RowKit Go.Proofs.Ytgaibeckblmbbaa.P Go.Proofs.YtgaibeckblmbbaaW.PrintWords Go.Proofs.YtgaibeckblmbbaaW.PrintLast
set_option linter.unusedVariables false
set_option linter.unusedSimpArgs false

/-- What is drawn: small texts. -/
def Tiny (l : List ByteArray) : Prop := ∀ s ∈ l, s.size ≤ 1000
theorem Tiny.snoc {l : List ByteArray} (h : Tiny l) {s : ByteArray} (hs : s.size ≤ 1000) : Tiny (l ++ [s]) := by
  intro x hx
  rcases List.mem_append.1 hx with h' | h'
  · exact h x h'
  · obtain rfl := List.mem_singleton.1 h'
    exact hs
theorem drawClash_l1 (b : List Int) (hb : Code b) : ∀ (d : Nat) (x5 : List ByteArray) (p : Int), x5.length + d = 3002 → Tiny x5 → 0 ≤ p → p + d * 2 ≤ 100000 →
    Evs (fun k => spec_DrawClash.l1 k x5 b p) (fun x => Tiny x.1)
  | d, x5, p, hd, ht, h0, hp => by
    refine Evs.step (fun k => spec_DrawClash.l1.eq_2 ..) ?_
    refine Evs.bind (pick_evs b hb p 2 h0 (by omega) (by omega)) ?_
    rintro ⟨r, p'⟩ ⟨hr, hp'⟩
    dsimp only at hr hp' ⊢
    subst hp'
    rw [w64 (by omega) (by omega)]
    refine Evs.ite (fun hc => ?_) (fun hc => ?_)
    · refine Evs.pos (by omega) ?_
      match d, hd, hp with
      | 0, hd, _ => exact absurd hc (by omega)
      | d + 1, hd, hp => exact drawClash_l1 b hb d _ (p + 1) (by rw [List.length_append]; simp; omega) (ht.snoc (by decide)) (by omega) (by omega)
    · refine Evs.sb (Evs.bind (pick_evs b hb (p + 1) 5 (by omega) (by omega) (by omega)) ?_)
      rintro ⟨q, p'⟩ ⟨hq, hp'⟩
      dsimp only at hq hp' ⊢
      exact Evs.pos hq.1 (Evs.pos (by simpa using hq.2) (Evs.ret ht))
theorem drawClash_l0 (b : List Int) (hb : Code b) (n : Nat) (hn : n ≤ 100) : ∀ (d : Nat) (x5 : List ByteArray) (i : Nat) (p : Int), i + d = n → x5.length = i → Tiny x5 → 0 ≤ p → p + d * 4 ≤ 1000 →
    Evs (fun k => spec_DrawClash.l0 k x5 (n : Int) (i : Int) b p) (fun x => Tiny x.1)
  | 0, x5, i, p, hd, hx, ht, h0, hp => by
    refine Evs.step (fun k => spec_DrawClash.l0.eq_2 ..) (Evs.neg (by omega) ?_)
    refine Evs.bind (pick_evs b hb p 24 h0 (by omega) (by omega)) ?_
    rintro ⟨r, p'⟩ ⟨hr, hp'⟩
    dsimp only at hr hp' ⊢
    subst hp'
    refine Evs.ite (fun hc => drawClash_l1 b hb (3002 - i) x5 (p + 1) (by omega) ht (by omega) (by omega)) (fun hc => Evs.ite (fun hc2 => ?_) (fun hc2 => ?_))
    · refine Evs.sb (Evs.bind (pick_evs b hb (p + 1) 2 (by omega) (by omega) (by omega)) ?_)
      rintro ⟨q, p'⟩ ⟨hq, hp'⟩
      dsimp only at hq hp' ⊢
      exact Evs.pos hq.1 (Evs.pos (by simpa using hq.2) (Evs.ret ht))
    · refine Evs.sb (Evs.bind (pick_evs b hb (p + 1) 5 (by omega) (by omega) (by omega)) ?_)
      rintro ⟨q, p'⟩ ⟨hq, hp'⟩
      dsimp only at hq hp' ⊢
      exact Evs.pos hq.1 (Evs.pos (by simpa using hq.2) (Evs.ret ht))
  | d + 1, x5, i, p, hd, hx, ht, h0, hp => by
    refine Evs.step (fun k => spec_DrawClash.l0.eq_2 ..) (Evs.pos (by omega) ?_)
    refine Evs.bind (pick_evs b hb p 26 h0 (by omega) (by omega)) ?_
    rintro ⟨r1, p1⟩ ⟨hr1, hp1⟩
    dsimp only at hr1 hp1 ⊢
    refine Evs.bind (pick_evs b hb p1 26 (by omega) (by omega) (by omega)) ?_
    rintro ⟨r2, p2⟩ ⟨hr2, hp2⟩
    dsimp only at hr2 hp2 ⊢
    refine Evs.bind (pick_evs b hb p2 26 (by omega) (by omega) (by omega)) ?_
    rintro ⟨r3, p3⟩ ⟨hr3, hp3⟩
    dsimp only at hr3 hp3 ⊢
    refine Evs.sb (Evs.bind (pick_evs b hb p3 3 (by omega) (by omega) (by omega)) ?_)
    rintro ⟨r4, p4⟩ ⟨hr4, hp4⟩
    dsimp only at hr4 hp4 ⊢
    have hm := tmod_range (a := (i : Int) + r4) (n := 3) (by omega) (by omega)
    rw [w64 (n := (i : Int) + r4) (by omega) (by omega)]
    rw [w64 (n := 1 + Int.tmod ((i : Int) + r4) 3) (by omega) (by omega)]
    refine Evs.pos (by omega) (Evs.pos (by simp; omega) (Evs.pos (by omega) ?_))
    rw [w64 (n := (i : Int) + 1) (by omega) (by omega), show (i : Int) + 1 = ((i + 1 : Nat) : Int) from by omega]
    refine drawClash_l0 b hb n hn d _ (i + 1) p4 (by omega) (by rw [List.length_append, hx]; rfl) (ht.snoc ?_) (by omega) (by omega)
    rw [son_size, List.length_take]
    simp
    omega
theorem drawClash_evs (l : List Int) (h : ∀ x ∈ l, 0 ≤ x ∧ x ≤ 255) : Evs (fun k => spec_DrawClash.f k l) (fun x => Tiny x.1) := by
  unfold spec_DrawClash.f
  obtain ⟨b, hb, he⟩ := open_ev l h
  rw [he]
  refine Evs.sb (Evs.bind (pick_evs b hb 0 40 (by omega) (by omega) (by omega)) ?_)
  rintro ⟨r, p⟩ ⟨hr, hp⟩
  dsimp only at hr hp ⊢
  rw [w64 (by omega) (by omega)]
  obtain ⟨n, hn⟩ := Int.eq_ofNat_of_zero_le (show 0 ≤ 10 + r by omega)
  rw [hn]
  exact drawClash_l0 b hb n (by omega) n [] 0 p (by omega) rfl (fun s hs => by cases hs) (by omega) (by omega)

theorem FnClash (l0 : List Int) (_h0 : l0.length * 1 ≤ 140737488351232 ∧ ∀ x ∈ l0, (Lit.int .u8 x).wf = true) : ∃ k, laws_FnClash.f k l0 = some true := by
  suffices h : Evs (fun k => laws_FnClash.f k l0) (fun r => r = true) by
    obtain ⟨k, r, rfl, hk⟩ := h.rounds
    exact ⟨k, hk⟩
  unfold laws_FnClash.f
  refine Evs.ite (fun _ => Evs.ret rfl) (fun _ => ?_)
  refine Evs.bind (drawClash_evs l0 (bytes_of_wf _h0.2)) ?_
  rintro ⟨l, w⟩ ht
  dsimp only at ht ⊢
  have hz : Sized l := fun s hs => by have := ht s hs; omega
  refine Evs.bind (Evs.of (impl_Clash_ev l w hz) (Q := fun x => x = clash l w) rfl) ?_
  rintro _ rfl
  refine Evs.bind (Evs.of (spec_Clash_ev l w hz) (Q := fun x => x = clash l w) rfl) ?_
  rintro _ rfl
  refine Evs.neg (by simp) (Evs.pos rfl ?_)
  refine Evs.step (fun k => laws_FnClash.j0.eq_2 ..) (Evs.neg (by simp) ?_)
  refine Evs.ite (fun hf => ?_) (fun _ => Evs.ret rfl)
  obtain ⟨hw, i, j, hij, hj, hP, he⟩ := clash_found l w hf
  rw [he]
  refine Evs.neg hP.2 ?_
  have si := hz _ (at_mem (l := l) (i := i) (by omega))
  have sj := hz _ (at_mem (l := l) (i := j) hj)
  refine Evs.bind (Evs.of (ev_of _ (fun k hk => impl_Sum_eq (at_ l i) si w k hk)) (Q := fun x => x = sumOf (at_ l i) w) rfl) ?_
  rintro _ rfl
  refine Evs.bind (Evs.of (ev_of _ (fun k hk => impl_Sum_eq (at_ l j) sj w k hk)) (Q := fun x => x = sumOf (at_ l j) w) rfl) ?_
  rintro _ rfl
  refine Evs.ret ?_
  rw [beq_iff_eq]
  exact hP.1

end Go.Proofs.Ytgaibeckblmbbaa.Pure
