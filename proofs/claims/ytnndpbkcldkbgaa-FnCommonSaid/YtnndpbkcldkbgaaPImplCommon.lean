-- Printed for this claim by a small program of this session (kprint.py), which drives the kit's print program.
import Derived.Test.YtnndpbkcldkbgaaP0
import Derived.Test.YtnndpbkcldkbgaaLongest
import Derived.Deep.QuietTactic
import Derived.Test.YtnndpbkcldkbgaaSqueeze
namespace Go.Proofs.Ytnndpbkcldkbgaa.P
open Go.RowKit Go.Proofs.YtnndpbkcldkbgaaW.PrintWords Go.Proofs.YtnndpbkcldkbgaaW.PrintLast Go.Proofs.YtnndpbkcldkbgaaW.PrintMore
attribute [local go_sem] max2_int min2_int max_two min_two max_three min_three max_four min_four
set_option linter.unusedVariables false
set_option linter.unusedSimpArgs false

/-! ### impl_Common: function 40 -/
/- Walked by hand. -/
open Go.Proofs.Ytnndpbkcldkbgaa.Pure
def impl_Common.f (l0 l1 : List ByteArray) : Option (List S69) := if l0.length > 1500 ∨ l1.length > 1500 then some [] else some ((pairs l0 l1 (lc l0 l1 0 0) 0 0).map fun p => ⟨(p.1 : Int), (p.2 : Int)⟩)
/-- The table's cell (a, b), where all behind (I, J) is done. -/
def impl_Common.T (l0 l1 : List ByteArray) (I J : Int) (a b : Nat) : Int := if I < a ∨ (I = a ∧ J < b) then (lc l0 l1 a b : Int) else 0
/-- The table lies at Br. -/
def impl_Common.Tab (m n : Nat) (t : Nat → Nat → Int) (Br : Nat) (w : World) : Prop := ∃ cs, w.heap[Br]? = some (.cells cs 124 (0, 0)) ∧ ∀ a b, a ≤ n → b ≤ m → cs[a * (m + 1) + b]? = some (.int .i16 (t a b))
theorem impl_Common.Tab.cell {m n Br : Nat} {t : Nat → Nat → Int} {w : World} (h : impl_Common.Tab m n t Br w) {a b : Nat} (ha : a ≤ n) (hb : b ≤ m) : w.cell? ⟨Br, a * (m + 1) + b, none⟩ = some (.int .i16 (t a b)) ∧ w.frozen? ⟨Br, a * (m + 1) + b, none⟩ = false := by
 obtain ⟨cs, h1, h2⟩ := h
 exact ⟨(blk_cell h1 _).trans (h2 a b ha hb), blk_frozen h1 _⟩
theorem impl_Common.Tab.lt {m n Br : Nat} {t : Nat → Nat → Int} {w : World} (h : impl_Common.Tab m n t Br w) : Br < w.heap.size := by
 obtain ⟨cs, h1, _⟩ := h
 exact blk_lt h1
theorem impl_Common.place {m a b a' b' : Nat} (hb : b ≤ m) (hb' : b' ≤ m) (h : a * (m + 1) + b = a' * (m + 1) + b') : a = a' ∧ b = b' := by
 have h1 : (a * (m + 1) + b) / (m + 1) = (a' * (m + 1) + b') / (m + 1) := by rw [h]
 have h2 : (a * (m + 1) + b) % (m + 1) = (a' * (m + 1) + b') % (m + 1) := by rw [h]
 have e1 : ∀ x y : Nat, y ≤ m → (x * (m + 1) + y) / (m + 1) = x := fun x y hy => by
  rw [Nat.mul_comm, Nat.mul_add_div (by omega), Nat.div_eq_of_lt (by omega), Nat.add_zero]
 have e2 : ∀ x y : Nat, y ≤ m → (x * (m + 1) + y) % (m + 1) = y := fun x y hy => by
  rw [Nat.mul_comm, Nat.mul_add_mod, Nat.mod_eq_of_lt (by omega)]
 rw [e1 _ _ hb, e1 _ _ hb'] at h1
 rw [e2 _ _ hb, e2 _ _ hb'] at h2
 exact ⟨h1, h2⟩
theorem impl_Common.Tab.put {m n Br : Nat} {t t' : Nat → Nat → Int} {w : World} (h : impl_Common.Tab m n t Br w) {a b : Nat} (ha : a ≤ n) (hb : b ≤ m) (v : Int) (ht : ∀ x y, x ≤ n → y ≤ m → t' x y = if x = a ∧ y = b then v else t x y) : impl_Common.Tab m n t' Br (w.setCell ⟨Br, a * (m + 1) + b, none⟩ (.int .i16 v)) := by
 obtain ⟨cs, h1, h2⟩ := h
 refine ⟨cs.setIfInBounds (a * (m + 1) + b) (.int .i16 v), blk_put h1 _ _ rfl, fun x y hx hy => ?_⟩
 have hlt := (Array.getElem?_eq_some_iff.1 (h2 a b ha hb)).1
 rw [ht x y hx hy]
 by_cases e : x = a ∧ y = b
 ·obtain ⟨rfl, rfl⟩ := e
  rw [if_pos ⟨rfl, rfl⟩, Array.getElem?_setIfInBounds_self_of_lt hlt]
 ·rw [if_neg e, Array.getElem?_setIfInBounds_ne (fun q => e (impl_Common.place hy hb q.symm))]
  exact h2 x y hx hy
theorem impl_Common.Tab.move {m n Br : Nat} {t : Nat → Nat → Int} {w w1 : World} (h : impl_Common.Tab m n t Br w) (hw : w1.heap[Br]? = w.heap[Br]?) : impl_Common.Tab m n t Br w1 := by
 obtain ⟨cs, h1, h2⟩ := h
 exact ⟨cs, hw.trans h1, h2⟩
set_option maxHeartbeats 1000000 in
set_option maxRecDepth 100000 in
theorem impl_Common.at_calls (m i j N cap P Bt Bm Br : Nat) (x y : Int) (hx : x = (i : Int)) (hy : y = (j : Int)) (W : World) (hi : i ≤ 1500) (hm : m ≤ 1500) (hj : j ≤ m) (hP : P = i * (m + 1) + j) (hN : N ≤ 10000000) (hlt : P < N) (ht : W.cell? ⟨Bt, 0, none⟩ = some (.slice (some ⟨Br, 0, none⟩) N cap)) (hb : W.cell? ⟨Bm, 0, none⟩ = some (.int .i64 (m : Int))) :
  Calls Try.prog 87 #[.int .i64 x, .int .i64 y, .pointer (some ⟨Bt, 0, none⟩), .pointer (some ⟨Bm, 0, none⟩)] W fun e w' => e = .returned (.pointer (some ⟨Br, P, none⟩)) ∧ w' = W := by
 subst hx
 subst hy
 have h0 : ((i * (m + 1) : Nat) : Int) = (i : Int) * ((m : Int) + 1) := by rw [Int.natCast_mul]; rfl
 have e1 : wrap64 ((m : Int) + 1) = (m : Int) + 1 := by unfold wrap64; omega
 have e2 : wrap64 ((i : Int) * ((m : Int) + 1)) = (i : Int) * ((m : Int) + 1) := by
  rw [← h0]
  unfold wrap64
  omega
 have e3 : wrap64 ((i : Int) * ((m : Int) + 1) + (j : Int)) = (P : Int) := by
  rw [← h0]
  unfold wrap64
  omega
 have c1 : decide ((P : Int) < (N : Int)) = true := decide_eq_true (by omega)
 have c2 : decide (P < N) = true := decide_eq_true hlt
 clear h0 hi hm hP hN
 go_enter Try.func87, Try.ntmps87
 go_wp2
 go_ret
 exact ⟨rfl, rfl⟩
theorem impl_Common.Tab.new {m n N : Nat} {W : World} {base : Nat} {ok : Nat → Prop} {v : Value} (h : Kd.R (Kd.int .i16) 124 W base ok v (List.replicate N 0)) (hN : N = (n + 1) * (m + 1)) : ∃ g cap, v = .slice (some ⟨g, 0, none⟩) N cap ∧ base ≤ g ∧ g < W.heap.size ∧ impl_Common.Tab m n (fun _ _ => 0) g W := by
 have hp : 0 < (List.replicate N (0 : Int)).length := by
  rw [List.length_replicate, hN]
  exact Nat.mul_pos (by omega) (by omega)
 obtain ⟨g, cap, rfl, hb, hl, cells, hc⟩ := Kd.R_form h hp
 rw [List.length_replicate] at h
 refine ⟨g, cap, by rw [List.length_replicate], hb, hl, cells, hc, fun a b ha hb => ?_⟩
 have hlt : a * (m + 1) + b < N := by
  rw [hN]
  have : a * (m + 1) ≤ n * (m + 1) := Nat.mul_le_mul_right _ ha
  rw [Nat.add_mul, Nat.one_mul]
  omega
 have := (Kd.R_celln (0 : Int) h ((a * (m + 1) + b : Nat) : Int) (by omega) (by omega)).1
 rw [Int.toNat_natCast] at this
 have e := (blk_cell hc (a * (m + 1) + b)).symm.trans this
 rw [e]
 unfold rdOf
 rw [Int.toNat_natCast, List.getD_eq_getElem?_getD, List.getElem?_replicate, if_pos hlt]
 rfl
/-- What is told of the world all along: the three blocks and what was there. -/
structure impl_Common.At (w : World) (n m N cap Bt Bm Br : Nat) (t : Nat → Nat → Int) (W : World) : Prop where
 tab : impl_Common.Tab m n t Br W
 bt : W.heap[Bt]? = some (.cells #[.slice (some ⟨Br, 0, none⟩) N cap] 122 (0, 0))
 bm : W.heap[Bm]? = some (.cells #[.int .i64 (m : Int)] 3 (0, 0))
 below : Below w.heap.size w W
 base : w.heap.size ≤ Br
theorem impl_Common.At.drewN {w : World} {n m N cap Bt Bm Br : Nat} {t : Nat → Nat → Int} {W : World} (h : impl_Common.At w n m N cap Bt Bm Br t W) (nd : Nat) : impl_Common.At w n m N cap Bt Bm Br t (W.drewN nd) := ⟨h.tab.move rfl, h.bt, h.bm, pw_below_drewN h.below nd, h.base⟩
theorem impl_Common.At.put {w : World} {n m N cap Bt Bm Br : Nat} {t t' : Nat → Nat → Int} {W : World} (h : impl_Common.At w n m N cap Bt Bm Br t W) {a b : Nat} (ha : a ≤ n) (hb : b ≤ m) (v : Int) (ht : ∀ x y, x ≤ n → y ≤ m → t' x y = if x = a ∧ y = b then v else t x y) : impl_Common.At w n m N cap Bt Bm Br t' (W.setCell ⟨Br, a * (m + 1) + b, none⟩ (.int .i16 v)) := by
 obtain ⟨cs, h1, h2⟩ := h.tab
 have n1 : Bt ≠ Br := by
  rintro rfl
  have := h.bt.symm.trans h1
  simp at this
 have n2 : Bm ≠ Br := by
  rintro rfl
  have := h.bm.symm.trans h1
  simp at this
 exact ⟨h.tab.put ha hb v ht, blk_far h.bt n1 _, blk_far h.bm n2 _, below_set h.below h.base, h.base⟩
theorem impl_Common.At.same {w : World} {n m N cap Bt Bm Br : Nat} {t t' : Nat → Nat → Int} {W : World} (h : impl_Common.At w n m N cap Bt Bm Br t W) (e : ∀ a b, a ≤ n → b ≤ m → t' a b = t a b) : impl_Common.At w n m N cap Bt Bm Br t' W := by
 refine ⟨?_, h.bt, h.bm, h.below, h.base⟩
 obtain ⟨cs, h1, h2⟩ := h.tab
 exact ⟨cs, h1, fun a b ha hb => (h2 a b ha hb).trans (by rw [e a b ha hb])⟩
theorem impl_Common.lc_1500 (l0 l1 : List ByteArray) (h : l0.length ≤ 1500) (a b : Nat) : ∃ x : Int, (lc l0 l1 a b : Int) = x ∧ 0 ≤ x ∧ x ≤ 1500 := by
 have := (lc_le l0 l1 _ a b (Nat.le_refl _)).1
 exact ⟨_, rfl, by omega, by omega⟩
theorem impl_Common.idx {m n a b N : Nat} (hN : N = (n + 1) * (m + 1)) (ha : a ≤ n) (hb : b ≤ m) : a * (m + 1) + b < N := by
 rw [hN]
 have : a * (m + 1) ≤ n * (m + 1) := Nat.mul_le_mul_right _ ha
 rw [Nat.add_mul, Nat.one_mul]
 omega
theorem impl_Common.lc_eq {l0 l1 : List ByteArray} {a b : Nat} (ha : a < l0.length) (hb : b < l1.length) {x1 x2 x3 v : Int} (h1 : (lc l0 l1 (a + 1) b : Int) = x1) (h2 : (lc l0 l1 a (b + 1) : Int) = x2) (h3 : (lc l0 l1 (a + 1) (b + 1) : Int) = x3) (hv : (if x1 < x2 then x2 else x1) = v) (he : l0[a].toList = l1[b].toList) :
  (lc l0 l1 a b : Int) = if v < 1 + x3 then 1 + x3 else v := by
 have he' : l0[a] = l1[b] := by
  rw [ByteArray.toList_eq, ByteArray.toList_eq] at he
  exact ba_ext he
 rw [lc_in ha hb, if_pos he']
 subst h1 h2 h3 hv
 by_cases q : lc l0 l1 a (b + 1) > lc l0 l1 (a + 1) b
 ·rw [if_pos q, if_pos (show (lc l0 l1 (a + 1) b : Int) < (lc l0 l1 a (b + 1) : Int) by omega)]
  split <;> split <;> omega
 ·rw [if_neg q, if_neg (show ¬ (lc l0 l1 (a + 1) b : Int) < (lc l0 l1 a (b + 1) : Int) by omega)]
  split <;> split <;> omega
theorem impl_Common.lc_ne {l0 l1 : List ByteArray} {a b : Nat} (ha : a < l0.length) (hb : b < l1.length) {x1 x2 v : Int} (h1 : (lc l0 l1 (a + 1) b : Int) = x1) (h2 : (lc l0 l1 a (b + 1) : Int) = x2) (hv : (if x1 < x2 then x2 else x1) = v) (he : ¬ l0[a].toList = l1[b].toList) :
  (lc l0 l1 a b : Int) = v := by
 have he' : ¬ l0[a] = l1[b] := fun h => he (by rw [h])
 rw [lc_in ha hb, if_neg he']
 subst h1 h2 hv
 by_cases q : lc l0 l1 a (b + 1) > lc l0 l1 (a + 1) b
 ·rw [if_pos q, if_pos (show (lc l0 l1 (a + 1) b : Int) < (lc l0 l1 a (b + 1) : Int) by omega)]
 ·rw [if_neg q, if_neg (show ¬ (lc l0 l1 (a + 1) b : Int) < (lc l0 l1 a (b + 1) : Int) by omega)]
theorem impl_Common.T_put {l0 l1 : List ByteArray} {a b : Nat} {v : Int} (h : (lc l0 l1 a b : Int) = v) (x y : Nat) : impl_Common.T l0 l1 (a : Int) ((b : Int) - 1) x y = if x = a ∧ y = b then v else impl_Common.T l0 l1 (a : Int) (b : Int) x y := by
 unfold impl_Common.T
 by_cases e : x = a ∧ y = b
 ·obtain ⟨rfl, rfl⟩ := e
  rw [if_pos (by omega), if_pos ⟨rfl, rfl⟩]
  exact h
 ·rw [if_neg e]
  by_cases q : (a : Int) < (x : Int) ∨ ((a : Int) = (x : Int) ∧ (b : Int) < (y : Int))
  ·rw [if_pos q, if_pos (by omega)]
  ·rw [if_neg q, if_neg (by omega)]
theorem impl_Common.At.appended {w : World} {n m N cap Bt Bm Br : Nat} {t : Nat → Nat → Int} {W W1 : World} {base : Nat} {ok : Nat → Prop} {v : Value} {xs : List S69} (h : impl_Common.At w n m N cap Bt Bm Br t W) (ho : Kd.R k69 69 W base ok v xs) (hg : W.grownBy W1 v.ownBlock) (hb : Below w.heap.size w W1) : impl_Common.At w n m N cap Bt Bm Br t W1 := by
 obtain ⟨cs, h1, h2⟩ := h.tab
 exact ⟨⟨cs, blk_grown h1 hg (Kd.R_ne ho h1 (by decide)), h2⟩, blk_grown h.bt hg (Kd.R_ne ho h.bt (by decide)), blk_grown h.bm hg (Kd.R_ne ho h.bm (by decide)), hb, h.base⟩
set_option maxHeartbeats 2000000 in
set_option maxRecDepth 100000 in
theorem impl_Common.calls (A0 : Option Addr) (c0 : Nat) (l0 : List ByteArray) (A1 : Option Addr) (c1 : Nat) (l1 : List ByteArray) (r : List S69) (w : World) (hr0 : Kd.C Kd.string w A0 l0.length l0) (hc0 : l0.length ≤ c0) (hr1 : Kd.C Kd.string w A1 l1.length l1) (hc1 : l1.length ≤ c1) (h : impl_Common.f l0 l1 = some r) :
  Calls Try.prog 40 #[.slice A0 l0.length c0, .slice A1 l1.length c1] w fun e w' => ∃ v0_ : Value, e = .returned (v0_) ∧ Kd.R k69 69 w' w.heap.size (fun _ => True) v0_ r ∧ Below w.heap.size w w' := by
 have HR0 := Aside0.mk hr0
 have HR1 := Aside0.mk hr1
 have HB := Aside0.mk (Below.refl w.heap.size w)
 clear hr0 hc0 hr1 hc1
 unfold impl_Common.f at h
 by_cases hbig : l0.length > 1500 ∨ l1.length > 1500
 ·rw [if_pos hbig] at h
  obtain rfl := Option.some.inj h
  by_cases h0 : 1500 < l0.length
  ·have d0 : decide ((1500 : Int) < (l0.length : Int)) = true := decide_eq_true (by omega)
   have d1 : decide (1500 < l0.length) = true := decide_eq_true h0
   clear h hbig h0
   go_enter Try.func40, Try.ntmps40
   go_wp2
   go_ret
   exact ⟨_, rfl, Kd.R_nil _ _ _ _ _, HB.out⟩
  ·have d0 : decide ((1500 : Int) < (l0.length : Int)) = false := decide_eq_false (by omega)
   have d1 : decide (1500 < l0.length) = false := decide_eq_false h0
   have d2 : decide ((1500 : Int) < (l1.length : Int)) = true := decide_eq_true (by omega)
   have d3 : decide (1500 < l1.length) = true := decide_eq_true (by omega)
   clear h hbig h0
   go_enter Try.func40, Try.ntmps40
   go_wp2
   go_ret
   exact ⟨_, rfl, Kd.R_nil _ _ _ _ _, HB.out⟩
 ·rw [if_neg hbig] at h
  obtain rfl := Option.some.inj h
  clear h
  have e0 : l0.length ≤ 1500 := by omega
  have e1 : l1.length ≤ 1500 := by omega
  have d0 : decide ((1500 : Int) < (l0.length : Int)) = false := decide_eq_false (by omega)
  have d1 : decide (1500 < l0.length) = false := decide_eq_false (by omega)
  have d2 : decide ((1500 : Int) < (l1.length : Int)) = false := decide_eq_false (by omega)
  have d3 : decide (1500 < l1.length) = false := decide_eq_false (by omega)
  obtain ⟨N, hN⟩ : ∃ N, N = (l0.length + 1) * (l1.length + 1) := ⟨_, rfl⟩
  have hNb : N ≤ 2253001 := by
   rw [hN]
   exact Nat.le_trans (Nat.mul_le_mul (show l0.length + 1 ≤ 1501 by omega) (show l1.length + 1 ≤ 1501 by omega)) (by omega)
  have hNw : wrap64 (((l0.length : Int) + 1) * ((l1.length : Int) + 1)) = (N : Int) := by
   rw [show ((l0.length : Int) + 1) * ((l1.length : Int) + 1) = (N : Int) from by rw [hN, Int.natCast_mul]; rfl]
   unfold wrap64
   omega
  have HN := Aside0.mk hN
  have HNW := Aside0.mk hNw
  clear hbig hN hNw
  go_enter Try.func40, Try.ntmps40
  go_wp2_with (first | ((with_reducible refine gd 6 rfl ?_); refine bx 6 3 (#[.int .i64 0]) ?_; intro Bm hg w1 hbox hb; refine Ya3 hbox (below_step (be HB.out) hb) (bs hg (be HB.out)) ?_; clear HB; intro BM HB GM; clear hb hbox hg; have ⟨hcz6_0, hfz6_0⟩ := Yc1 BM.out) | ((with_reducible refine gd 35 rfl ?_); refine Kd.R_make (w0 := w) (Kd.int .i16) w.heap.size 124 rfl (N := 35) rfl 122 _ _ rfl (wrap64 (((l0.length : Int) + 1) * ((l1.length : Int) + 1))) rfl rfl Try.underlying122 (.int .i16 0) 2 (by kernel_rfl) rfl (by decide) (by omega) 0 (ok := fun _ => True) (okp := fun _ => True) rfl (fun _ hk => hk) trivial (by rw [HNW.out]; omega) (by rw [HNW.out]; omega) (be1 HB.out GM.out) (below_size (be1 HB.out GM.out)) ?_; intro v1 w2 hR hb hg hnew; rw [HNW.out, Int.toNat_natCast] at hR; obtain ⟨Br, cap, rfl, hbase, hlt, hT⟩ := impl_Common.Tab.new hR HN.out; refine Ya4 (blk_grown (blk_put (cs := #[.int .i64 0]) BM.out 0 (.int .i64 (l1.length : Int)) rfl) hg (by simp)) hb hbase hT ?_; clear BM HB hb hg hnew hR hbase hT hcz6_0 hfz6_0; intro BM HB GR HT) | ((with_reducible refine gd 7 rfl ?_); refine bx 7 122 (#[.slice none 0 0]) ?_; intro Bt hg w3 hbox hb; refine Ya6 hbox (below_step (be HB.out) hb) (bs hg (be HB.out)) (bb BM hb) (HT.out.move (hb.block Br hlt)) (show Bt ≠ Br from by omega) ?_; clear HB BM HT; intro BT HB GT BM HT NR; clear hb hbox hg; have ⟨hcz7_0, hfz7_0⟩ := Yc1 BT.out))
  have HX := Aside0.mk (show impl_Common.At w l0.length l1.length N cap Bt Bm Br (fun _ _ => 0) (w3.setCell ⟨Bt, 0, none⟩ (.slice (some ⟨Br, 0, none⟩) N cap)) from ⟨HT.out.move (Below.heap_setCell _ _ _ _ (Ne.symm NR.out)), blk_put (cs := #[.slice none 0 0]) BT.out 0 _ rfl, blk_far BM.out (by have h1 := BM.out; have h2 := BT.out; rintro rfl; rw [h1] at h2; simp at h2) _, be1 HB.out GT.out, GR.out⟩)
  clear BT HB BM HT hcz7_0 hfz7_0
  generalize w3.setCell ⟨Bt, 0, none⟩ (.slice (some ⟨Br, 0, none⟩) N cap) = W at HX ⊢
  clear hlt w3 GT NR GM
  have HX0 := Aside0.mk (HX.out.same (t' := impl_Common.T l0 l1 ((l0.length : Int) - 1) (l1.length : Int)) fun a b ha hb => by
   unfold impl_Common.T
   split
   ·rw [lc_out1 (by omega)]
    rfl
   ·rfl)
  clear HX
  go_loopg [9] (l0.length) (fun kq v9 w' => ∃ i : Int, v9 = .int .i64 i ∧ Aside0 (i + 1 = (kq : Int)) ∧ Aside0 (i < (l0.length : Int)) ∧ Aside0 (impl_Common.At w l0.length l1.length N cap Bt Bm Br (impl_Common.T l0 l1 i (l1.length : Int)) w'))
  case atStart => exact ⟨(l0.length : Int) - 1, rfl, ⟨by omega⟩, ⟨by omega⟩, HX0⟩
  case round =>
   clear HX0
   obtain ⟨i, rfl, HK, HI, HX⟩ := hrel
   have hin := HI.out
   cases gk with
   | zero =>
    have c1 : decide (0 ≤ i) = false := decide_eq_false (by have := HK.out; omega)
    have HX0 := Aside0.mk (HX.out.same (t' := fun a b => (lc l0 l1 a b : Int)) fun a b ha hb => by
     have := HK.out
     unfold impl_Common.T
     rw [if_pos (by omega)])
    clear HX
    obtain ⟨L, hL, hL0, hL1⟩ := impl_Common.lc_1500 l0 l1 e0 0 0
    obtain ⟨c5, _⟩ := HX0.out.tab.cell (Nat.zero_le l0.length) (Nat.zero_le l1.length)
    rw [hL] at c5
    obtain ⟨p0, hp0⟩ : ∃ p, p = 0 * (l1.length + 1) + 0 := ⟨_, rfl⟩
    rw [← hp0] at c5
    have HP0 := Aside0.mk hp0
    have HP := Aside0.mk (impl_Common.idx HN.out (Nat.zero_le l0.length) (Nat.zero_le l1.length))
    have HL := Aside0.mk hL
    clear hp0 hL
    have ⟨hczm, hfzm⟩ := Yc1 HX0.out.bm
    have ⟨hczt, hfzt⟩ := Yc1 HX0.out.bt
    have CA := Aside0.mk (impl_Common.at_calls l1.length 0 0 N cap p0 Bt Bm Br 0 0 rfl rfl wr (by omega) e1 (by omega) HP0.out (by omega) (by rw [HP0.out]; exact HP.out) hczt hczm)
    go_wp2_with (first | (go_at_call 87; (with_reducible refine CA.out.mono ?_); rintro e w' ⟨rfl, rfl⟩))
    clear c5 CA HP HP0 hczm hczt hfzm hfzt c1
    go_loopg [12, 13, 14, 15] (lc l0 l1 0 0) (fun kq v12 v13 v14 v15 w' => ∃ (i j : Nat) (L : Int) (out : List S69) (vo : Value), vo = v12 ∧ v13 = .int .i64 (i : Int) ∧ v14 = .int .i64 (j : Int) ∧ v15 = .int .i16 L ∧ Aside0 (L = (kq : Int)) ∧ Aside0 (i ≤ l0.length ∧ j ≤ l1.length) ∧ Aside0 (lc l0 l1 i j = kq) ∧ Aside0 (out.length + kq ≤ 1500) ∧ Aside0 (out ++ (pairs l0 l1 kq i j).map (fun p => (⟨(p.1 : Int), (p.2 : Int)⟩ : S69)) = (pairs l0 l1 (lc l0 l1 0 0) 0 0).map fun p => ⟨(p.1 : Int), (p.2 : Int)⟩) ∧ Aside0 (Kd.R k69 69 w' w.heap.size (fun _ => True) vo out) ∧ Aside0 (impl_Common.At w l0.length l1.length N cap Bt Bm Br (fun a b => (lc l0 l1 a b : Int)) w'))
    case atStart => exact ⟨0, 0, L, [], .slice none 0 0, rfl, rfl, rfl, rfl, ⟨HL.out.symm⟩, ⟨by omega⟩, ⟨rfl⟩, ⟨by have := HL.out; simp; omega⟩, ⟨rfl⟩, ⟨Kd.R_nil _ _ _ _ _⟩, HX0⟩
    case round =>
     clear HX0 HL hL0 hL1
     obtain ⟨i, j, L, out, vo, rfl, rfl, rfl, rfl, HL, HIJ, HLC, HOL, HALL, HO, HX⟩ := hrel
     cases gk with
     | zero =>
      have c2 : decide (0 < L) = false := decide_eq_false (by have := HL.out; omega)
      go_wp2
      go_ret
      refine ⟨_, rfl, ?_, HX.out.below⟩
      have := HALL.out
      rw [show pairs l0 l1 0 i j = [] from by unfold pairs; rfl, List.map_nil, List.append_nil] at this
      rw [← this]
      exact HO.out
     | succ g =>
      have c2 : decide (0 < L) = true := decide_eq_true (by have := HL.out; omega)
      obtain ⟨W0, hW0⟩ : ∃ W0, W0 = wr := ⟨_, rfl⟩
      subst hW0
      have hin := HIJ.out.1
      have hjm := HIJ.out.2
      obtain ⟨x0, y0, hx0, hy0, hgo⟩ := lc_goes l0 l1 _ i j (Nat.le_refl _) (by rw [HLC.out]; omega)
      rw [HLC.out] at hgo
      obtain ⟨p, hp⟩ := pairFirst_there hjm (l0.length - i) i (by omega) ⟨x0, y0, hx0, hy0, hgo⟩
      have HP := Aside0.mk hp
      have HP0 := Aside0.mk hp
      clear hp hgo hx0 hy0
      go_wp2
      go_step3
      go_wp2
      go_step3
      have ⟨hczm, hfzm⟩ := Yc1 HX.out.bm
      have ⟨hczt, hfzt⟩ := Yc1 HX.out.bt
      go_wp2
      go_loopg [12, 13, 14, 16] (l0.length - i) (fun kq v12 v13 v14 v16 w' => ∃ x nd : Nat, vo = v12 ∧ v13 = .int .i64 (i : Int) ∧ v14 = .int .i64 (j : Int) ∧ v16 = .int .i64 (x : Int) ∧ Aside0 (x + kq = l0.length) ∧ Aside0 (pairFirst l0 l1 (g + 1) j kq x = some p) ∧ w' = W0.drewN nd)
      case atStart => exact ⟨i, 0, rfl, rfl, rfl, rfl, ⟨by omega⟩, HP, rfl⟩
      case round =>
       clear HP
       obtain ⟨x, nd, rfl, rfl, rfl, rfl, HK, HP, rfl⟩ := hrel
       cases gk with
       | zero => exact absurd HP.out (by simp [pairFirst])
       | succ k =>
        have hx : x < l0.length := by have := HK.out; omega
        have c3 : decide ((x : Int) < (l0.length : Int)) = true := decide_eq_true (by omega)
        have c4 : decide (x < l0.length) = true := decide_eq_true hx
        go_wp2
        go_loopg [12, 13, 14, 17] (l1.length - j) (fun kq v12 v13 v14 v17 w' => ∃ y nd : Nat, vo = v12 ∧ v13 = .int .i64 (i : Int) ∧ v14 = .int .i64 (j : Int) ∧ v17 = .int .i64 (y : Int) ∧ Aside0 (y + kq = l1.length) ∧ Aside0 ((match rowFirst l0 l1 (g + 1) x kq y with
         | some z => some (x, z)
         | none => pairFirst l0 l1 (g + 1) j k (x + 1)) = some p) ∧ w' = W0.drewN nd)
        case atStart => exact ⟨j, nd, rfl, rfl, rfl, rfl, ⟨by omega⟩, HP, rfl⟩
        case round =>
         clear HP
         obtain ⟨y, nd2, rfl, rfl, rfl, rfl, HK2, HP, hw⟩ := hrel
         have HW := Aside0.mk hw
         clear hw
         have hczm' : wr.cell? ⟨Bm, 0, none⟩ = some (.int .i64 (l1.length : Int)) := by rw [HW.out]; exact hczm
         cases gk with
         | zero =>
          have hy : ¬ y < l1.length := by have := HK2.out; omega
          have c5 : decide ((y : Int) < (l1.length : Int)) = false := decide_eq_false (by omega)
          have c6 : decide (y < l1.length) = false := decide_eq_false hy
          go_wp2
          go_roundg k
          case measure => omega
          case rel => exact ⟨x + 1, nd2, rfl, rfl, rfl, by rw [show ((x + 1 : Nat) : Int) = (x : Int) + 1 from rfl], ⟨by have := HK.out; omega⟩, ⟨HP.out⟩, HW.out⟩
         | succ k2 =>
          have hy : y < l1.length := by have := HK2.out; omega
          have c5 : decide ((y : Int) < (l1.length : Int)) = true := decide_eq_true (by omega)
          have c6 : decide (y < l1.length) = true := decide_eq_true hy
          have c7 : decide (0 ≤ (x : Int)) = true := decide_eq_true (by omega)
          have c8 : decide (0 ≤ (y : Int)) = true := decide_eq_true (by omega)
          have hbw : Below w.heap.size w wr := by rw [HW.out]; exact pw_below_drewN HX.out.below nd2
          have hczt' : wr.cell? ⟨Bt, 0, none⟩ = some (.slice (some ⟨Br, 0, none⟩) N cap) := by rw [HW.out]; exact hczt
          obtain ⟨ad0, e0_, s0⟩ := Kd.at_string (Kd.C_below HR0.out hbw) (x : Int) (by omega) (by omega)
          obtain ⟨ad1, e1_, s1⟩ := Kd.at_string (Kd.C_below HR1.out hbw) (y : Int) (by omega) (by omega)
          clear hbw
          cases e0_
          cases e1_
          rw [rd_of hx, Int.toNat_natCast] at s0
          rw [rd_of hy, Int.toNat_natCast] at s1
          have HPq := HP.out
          clear HP
          unfold rowFirst at HPq
          rw [rd_of hx, rd_of hy] at HPq
          by_cases hab : l0[x].toList = l1[y].toList
          ·have t0 : (l0[x].toList == l1[y].toList) = true := beq_iff_eq.mpr hab
           have t1 : (l0[x].toList != l1[y].toList) = false := bne_eq_false_iff_eq.mpr hab
           obtain ⟨x3, hx3, y3, z3⟩ := impl_Common.lc_1500 l0 l1 e0 (x + 1) (y + 1)
           have d1 : wr.cell? ⟨Br, (x + 1) * (l1.length + 1) + (y + 1), none⟩ = some (.int .i16 (lc l0 l1 (x + 1) (y + 1) : Int)) := by rw [HW.out]; exact (HX.out.tab.cell (show x + 1 ≤ l0.length from hx) (show y + 1 ≤ l1.length from hy)).1
           rw [hx3] at d1
           obtain ⟨p3, hp3⟩ : ∃ p, p = (x + 1) * (l1.length + 1) + (y + 1) := ⟨_, rfl⟩
           rw [← hp3] at d1
           have HQ3 := Aside0.mk hp3
           have HP3 := Aside0.mk (impl_Common.idx HN.out (show x + 1 ≤ l0.length from hx) (show y + 1 ≤ l1.length from hy))
           have HV3 := Aside0.mk hx3
           clear hp3 hx3
           have wa : IntKind.i64.wrap ((x : Int) + 1) = (x : Int) + 1 := (i64_w _).trans (by unfold wrap64; omega)
           have wb : IntKind.i64.wrap ((y : Int) + 1) = (y : Int) + 1 := (i64_w _).trans (by unfold wrap64; omega)
           have wc : IntKind.i16.wrap (1 + x3) = 1 + x3 := by simp [IntKind.wrap, IntKind.bits, IntKind.signed]; omega
           have CC := Aside0.mk (fun nd => impl_Common.at_calls l1.length (x + 1) (y + 1) N cap p3 Bt Bm Br ((x : Int) + 1) ((y : Int) + 1) rfl rfl (wr.drewN nd) (by omega) e1 (by omega) HQ3.out (by omega) (by rw [HQ3.out]; exact HP3.out) hczt' hczm')
           clear hczt'
           have hhe : l0[x] = l1[y] := by
            have he := hab
            rw [ByteArray.toList_eq, ByteArray.toList_eq] at he
            exact ba_ext he
           by_cases hl : 1 + x3 = L
           ·have t2 : (1 + x3 == L) = true := beq_iff_eq.mpr hl
            have t3 : decide (1 + x3 = L) = true := decide_eq_true hl
            rw [if_pos ⟨hhe, by have := HV3.out; have := HL.out; omega⟩] at HPq
            have hpe : (x, y) = p := Option.some.inj HPq
            have HE := Aside0.mk hl
            have HPE := Aside0.mk hpe
            clear hl hab HPq hhe hpe
            go_wp2_with fail
            go_quiet (first | (go_at_call 87; with_reducible exact Calls.quiet_of_same (CC.out _)))
            clear wa wb wc
            have HO2 := Aside0.mk (show Kd.R k69 69 (wr.drewN nq) w.heap.size (fun _ => True) vo out from by rw [HW.out]; exact Kd.R_drewN (Kd.R_drewN HO.out _) _)
            have HX2 := Aside0.mk (show impl_Common.At w l0.length l1.length N cap Bt Bm Br (fun a b => (lc l0 l1 a b : Int)) (wr.drewN nq) from by rw [HW.out]; exact (HX.out.drewN _).drewN _)
            clear HO HX HW
            generalize wr.drewN nq = W3 at HO2 HX2 ⊢
            have wd : IntKind.i16.wrap (L - 1) = L - 1 := by simp [IntKind.wrap, IntKind.bits, IntKind.signed]; have := HE.out; omega
            go_wp2_with (first | (at_builtin; refine Kd.R_append k69 (w0 := w) w.heap.size rfl (.tmp 132) (.tmp 136) 60 69 (.agg #[.int .i64 0, .int .i64 0]) 16 rfl Try.underlying60 (by kernel_rfl) rfl (by decide) (by omega) vo out (⟨(x : Int), (y : Int)⟩ : S69) [.int .i64 (x : Int), .int .i64 (y : Int)] (fun _ => True) (fun _ => False) rfl (by first | (go_simp; done) | (go_simp; rfl)) (k69_mkM _ _ _ ⟨(x : Int), (y : Int)⟩) (fun _ hk => hk.elim) (fun _ _ => trivial) HO2.out HX2.out.below (below_size HX2.out.below) (by have := HOL.out; omega) ?_; intro v1 w4 ho hb hg hat; refine Ya2 ho (HX2.out.appended HO2.out hg hb) ?_; clear HO2 HX2 ho hb hg hat; intro HO2 HX2))
            rw [Exit.noGoto_normal]
            go_wp2
            go_roundg g
            case measure => omega
            case rel =>
             refine ⟨x + 1, y + 1, L - 1, out ++ [⟨(x : Int), (y : Int)⟩], v1, rfl, rfl, rfl, rfl, ⟨by have := HL.out; omega⟩, ⟨by omega⟩, ⟨by have := HV3.out; have := HE.out; have := HL.out; omega⟩, ⟨by have := HOL.out; rw [List.length_append, List.length_singleton]; omega⟩, ⟨?_⟩, HO2, HX2⟩
             have h1 := HALL.out
             rw [show pairs l0 l1 (g + 1) i j = (match pairFirst l0 l1 (g + 1) j (l0.length - i) i with
              | some p => p :: pairs l0 l1 g (p.1 + 1) (p.2 + 1)
              | none => []) from rfl, HP0.out, ← HPE.out] at h1
             rw [← h1, List.append_assoc]
             rfl
           ·have t2 : (1 + x3 == L) = false := beq_eq_false_iff_ne.mpr hl
            have t3 : decide (1 + x3 = L) = false := decide_eq_false hl
            rw [if_neg (fun h => hl (by have := HV3.out; have := HL.out; have := h.2; omega))] at HPq
            have HPQ := Aside0.mk HPq
            clear hl hab HPq hhe
            go_wp2_with fail
            go_quiet (first | (go_at_call 87; with_reducible exact Calls.quiet_of_same (CC.out _)))
            clear wa wb wc
            go_wp2
            go_roundg k2
            case measure => omega
            case rel => exact ⟨y + 1, nd2 + nq, rfl, rfl, rfl, rfl, ⟨by have := HK2.out; omega⟩, HPQ, by rw [HW.out, World.drewN_drewN]⟩
          ·have t0 : (l0[x].toList == l1[y].toList) = false := beq_eq_false_iff_ne.mpr hab
           have t1 : (l0[x].toList != l1[y].toList) = true := bne_iff_ne.mpr hab
           rw [if_neg (fun h => hab (by rw [h.1]))] at HPq
           have HPQ := Aside0.mk HPq
           clear hab HPq hczt'
           go_wp2_with fail
           go_quiet (fail)
           go_wp2
           go_roundg k2
           case measure => omega
           case rel => exact ⟨y + 1, nd2 + nq, rfl, rfl, rfl, rfl, ⟨by have := HK2.out; omega⟩, HPQ, by rw [HW.out, World.drewN_drewN]⟩
   | succ g =>
    have hi0 : 0 ≤ i := by have := HK.out; omega
    have c1 : decide (0 ≤ i) = true := decide_eq_true hi0
    have HX0 := Aside0.mk (HX.out.same (t' := impl_Common.T l0 l1 i ((l1.length : Int) - 1)) fun a b ha hb => by
     unfold impl_Common.T
     by_cases h : i < (a : Int) ∨ (i = (a : Int) ∧ (l1.length : Int) < (b : Int))
     ·rw [if_pos h, if_pos (by omega)]
     ·rw [if_neg h]
      split
      ·rw [lc_out2 (by omega)]
       rfl
      ·rfl)
    have ⟨hczm, hfzm⟩ := Yc1 HX.out.bm
    clear HX
    go_wp2
    go_loopg [10] (l1.length) (fun kq v10 w' => ∃ j : Int, v10 = .int .i64 j ∧ Aside0 (j + 1 = (kq : Int)) ∧ Aside0 (j < (l1.length : Int)) ∧ Aside0 (impl_Common.At w l0.length l1.length N cap Bt Bm Br (impl_Common.T l0 l1 i j) w'))
    case atStart => exact ⟨(l1.length : Int) - 1, rfl, ⟨by omega⟩, ⟨by omega⟩, HX0⟩
    case round =>
     clear HX0 hczm hfzm
     obtain ⟨j, rfl, HK2, HJ, HX⟩ := hrel
     have hjm := HJ.out
     cases gk with
     | zero =>
      have c2 : decide (0 ≤ j) = false := decide_eq_false (by have := HK2.out; omega)
      go_wp2
      go_roundg g
      case measure => omega
      case rel => exact ⟨i - 1, rfl, ⟨by have := HK.out; omega⟩, ⟨by omega⟩, ⟨HX.out.same fun a b ha hb => by
       have := HK2.out
       unfold impl_Common.T
       by_cases h : i < (a : Int) ∨ (i = (a : Int) ∧ j < (b : Int))
       ·rw [if_pos h, if_pos (by omega)]
       ·rw [if_neg h, if_neg (by omega)]⟩⟩
     | succ g2 =>
      have hj0 : 0 ≤ j := by have := HK2.out; omega
      have c2 : decide (0 ≤ j) = true := decide_eq_true hj0
      obtain ⟨a, rfl⟩ : ∃ a : Nat, i = (a : Int) := ⟨i.toNat, by have := HK.out; omega⟩
      obtain ⟨b, rfl⟩ : ∃ b : Nat, j = (b : Int) := ⟨j.toNat, by have := HK2.out; omega⟩
      have ha : a < l0.length := by omega
      have hb : b < l1.length := by omega
      obtain ⟨x1, hx1, y1, z1⟩ := impl_Common.lc_1500 l0 l1 e0 (a + 1) b
      obtain ⟨x2, hx2, y2, z2⟩ := impl_Common.lc_1500 l0 l1 e0 a (b + 1)
      obtain ⟨x3, hx3, y3, z3⟩ := impl_Common.lc_1500 l0 l1 e0 (a + 1) (b + 1)
      have c1 := (HX.out.tab.cell (show a + 1 ≤ l0.length from ha) (Nat.le_of_lt hb)).1
      have c2 := (HX.out.tab.cell (Nat.le_of_lt ha) (show b + 1 ≤ l1.length from hb)).1
      have c3 := (HX.out.tab.cell (show a + 1 ≤ l0.length from ha) (show b + 1 ≤ l1.length from hb)).1
      obtain ⟨c5, c4⟩ := HX.out.tab.cell (Nat.le_of_lt ha) (Nat.le_of_lt hb)
      generalize impl_Common.T l0 l1 (a : Int) (b : Int) a b = x0 at c5
      rw [show impl_Common.T l0 l1 (a : Int) (b : Int) (a + 1) b = x1 from by unfold impl_Common.T; rw [if_pos (by omega)]; exact hx1] at c1
      rw [show impl_Common.T l0 l1 (a : Int) (b : Int) a (b + 1) = x2 from by unfold impl_Common.T; rw [if_pos (by omega)]; exact hx2] at c2
      rw [show impl_Common.T l0 l1 (a : Int) (b : Int) (a + 1) (b + 1) = x3 from by unfold impl_Common.T; rw [if_pos (by omega)]; exact hx3] at c3
      have HP1 := Aside0.mk (impl_Common.idx HN.out (show a + 1 ≤ l0.length from ha) (Nat.le_of_lt hb))
      have HP2 := Aside0.mk (impl_Common.idx HN.out (Nat.le_of_lt ha) (show b + 1 ≤ l1.length from hb))
      have HP3 := Aside0.mk (impl_Common.idx HN.out (show a + 1 ≤ l0.length from ha) (show b + 1 ≤ l1.length from hb))
      have HP0 := Aside0.mk (impl_Common.idx HN.out (Nat.le_of_lt ha) (Nat.le_of_lt hb))
      obtain ⟨p1, hp1⟩ : ∃ p, p = (a + 1) * (l1.length + 1) + b := ⟨_, rfl⟩
      obtain ⟨p2, hp2⟩ : ∃ p, p = a * (l1.length + 1) + (b + 1) := ⟨_, rfl⟩
      obtain ⟨p3, hp3⟩ : ∃ p, p = (a + 1) * (l1.length + 1) + (b + 1) := ⟨_, rfl⟩
      obtain ⟨p0, hp0⟩ : ∃ p, p = a * (l1.length + 1) + b := ⟨_, rfl⟩
      rw [← hp1] at c1
      rw [← hp2] at c2
      rw [← hp3] at c3
      rw [← hp0] at c4 c5
      have HQ1 := Aside0.mk hp1
      have HQ2 := Aside0.mk hp2
      have HQ3 := Aside0.mk hp3
      have HQ0 := Aside0.mk hp0
      have HV1 := Aside0.mk hx1
      have HV2 := Aside0.mk hx2
      have HV3 := Aside0.mk hx3
      clear hp1 hp2 hp3 hp0 hx1 hx2 hx3
      have ⟨hczm, hfzm⟩ := Yc1 HX.out.bm
      have ⟨hczt, hfzt⟩ := Yc1 HX.out.bt
      have HM := Aside0.mk hczm
      have HT := Aside0.mk hczt
      have ca := fun nd => impl_Common.at_calls l1.length (a + 1) b N cap p1 Bt Bm Br ((a : Int) + 1) (b : Int) rfl rfl (wr.drewN nd) (by omega) e1 (by omega) HQ1.out (by omega) (by rw [HQ1.out]; exact HP1.out) HT.out HM.out
      have cb := fun nd => impl_Common.at_calls l1.length a (b + 1) N cap p2 Bt Bm Br (a : Int) ((b : Int) + 1) rfl rfl (wr.drewN nd) (by omega) e1 (by omega) HQ2.out (by omega) (by rw [HQ2.out]; exact HP2.out) HT.out HM.out
      have cc := fun nd => impl_Common.at_calls l1.length (a + 1) (b + 1) N cap p3 Bt Bm Br ((a : Int) + 1) ((b : Int) + 1) rfl rfl (wr.drewN nd) (by omega) e1 (by omega) HQ3.out (by omega) (by rw [HQ3.out]; exact HP3.out) HT.out HM.out
      have cd := fun nd => impl_Common.at_calls l1.length a b N cap p0 Bt Bm Br (a : Int) (b : Int) rfl rfl (wr.drewN nd) (by omega) e1 (by omega) HQ0.out (by omega) (by rw [HQ0.out]; exact HP0.out) HT.out HM.out
      have CA := Aside0.mk ca
      have CB := Aside0.mk cb
      have CC := Aside0.mk cc
      have CD := Aside0.mk cd
      clear ca cb cc cd hczm hczt hfzm hfzt
      obtain ⟨ad0, e0_, s0⟩ := Kd.at_string (Kd.C_below HR0.out HX.out.below) (a : Int) (by omega) (by omega)
      obtain ⟨ad1, e1_, s1⟩ := Kd.at_string (Kd.C_below HR1.out HX.out.below) (b : Int) (by omega) (by omega)
      cases e0_
      cases e1_
      rw [rd_of ha, Int.toNat_natCast] at s0
      rw [rd_of hb, Int.toNat_natCast] at s1
      have q0 : decide ((a : Int) < (l0.length : Int)) = true := decide_eq_true (by omega)
      have q1 : decide ((b : Int) < (l1.length : Int)) = true := decide_eq_true (by omega)
      have q2 : decide (a < l0.length) = true := decide_eq_true ha
      have q3 : decide (b < l1.length) = true := decide_eq_true hb
      have wa : IntKind.i64.wrap ((a : Int) + 1) = (a : Int) + 1 := (i64_w _).trans (by unfold wrap64; omega)
      have wb : IntKind.i64.wrap ((b : Int) + 1) = (b : Int) + 1 := (i64_w _).trans (by unfold wrap64; omega)
      go_wp2_with fail
      go_quiet (first | (go_at_call 87; with_reducible exact Calls.quiet_of_same (CA.out _)) | (go_at_call 87; with_reducible exact Calls.quiet_of_same (CB.out _)))
      generalize nq = nq_1
      obtain ⟨v, hv, hv0, hv1⟩ : ∃ v, (if x1 < x2 then x2 else x1) = v ∧ 0 ≤ v ∧ v ≤ 1500 := ⟨_, rfl, by split <;> omega, by split <;> omega⟩
      rw [hv]
      have HV := Aside0.mk hv
      clear hv
      by_cases hab : l0[a].toList = l1[b].toList
      ·have t0 : (l0[a].toList == l1[b].toList) = true := beq_iff_eq.mpr hab
       have t1 : (l0[a].toList != l1[b].toList) = false := bne_eq_false_iff_eq.mpr hab
       have wc : IntKind.i16.wrap (1 + x3) = 1 + x3 := by simp [IntKind.wrap, IntKind.bits, IntKind.signed]; omega
       have HE := Aside0.mk hab
       clear hab
       go_wp2
       go_quiet (fail)
       clear wa wb
       go_wp2_with (first | (go_at_call 87; (with_reducible refine (CC.out _).mono ?_); rintro e w' ⟨rfl, rfl⟩) | (go_at_call 87; (with_reducible refine (CD.out _).mono ?_); rintro e w' ⟨rfl, rfl⟩))
       all_goals
        have hlc := impl_Common.lc_eq ha hb HV1.out HV2.out HV3.out HV.out HE.out
        first
         | (rw [if_pos (by assumption)] at hlc)
         | (rw [if_neg (by omega)] at hlc)
        have hput := (HX.out.drewN (nq_1 + nq)).put (Nat.le_of_lt ha) (Nat.le_of_lt hb) _ (fun x y _ _ => impl_Common.T_put hlc x y)
        rw [← HQ0.out] at hput
        have HY := Aside0.mk hput
        clear hput hlc
        go_roundg g2
        case measure => omega
        case rel => exact ⟨(b : Int) - 1, rfl, ⟨by have := HK2.out; omega⟩, ⟨by omega⟩, HY⟩
      ·have t0 : (l0[a].toList == l1[b].toList) = false := beq_eq_false_iff_ne.mpr hab
       have t1 : (l0[a].toList != l1[b].toList) = true := bne_iff_ne.mpr hab
       have HE := Aside0.mk hab
       clear hab
       go_wp2
       go_quiet (fail)
       clear wa wb
       go_wp2_with (first | (go_at_call 87; (with_reducible refine (CD.out _).mono ?_); rintro e w' ⟨rfl, rfl⟩))
       have hlc := impl_Common.lc_ne ha hb HV1.out HV2.out HV.out HE.out
       have hput := (HX.out.drewN (nq_1 + nq)).put (Nat.le_of_lt ha) (Nat.le_of_lt hb) _ (fun x y _ _ => impl_Common.T_put hlc x y)
       rw [← HQ0.out] at hput
       have HY := Aside0.mk hput
       clear hput hlc
       go_roundg g2
       case measure => omega
       case rel => exact ⟨(b : Int) - 1, rfl, ⟨by have := HK2.out; omega⟩, ⟨by omega⟩, HY⟩


end Go.Proofs.Ytnndpbkcldkbgaa.P
