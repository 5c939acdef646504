/- Several texts of this claim in one file: YtkmfnmeilooogaaDoorPImplCommon, YtkmfnmeilooogaaDoorPStringsSplitAfter, YtkmfnmeilooogaaDoorPImplLines, YtkmfnmeilooogaaDoorPStringsJoin, YtkmfnmeilooogaaDoorPSlicesEqualStringString, YtkmfnmeilooogaaDoorPSpecL7First, YtkmfnmeilooogaaDoorPSpecL7Table, YtkmfnmeilooogaaDoorPSpecCommon. -/
import Derived.Test.YtkmfnmeilooogaaDoorM3
import Derived.Test.YtkmfnmeilooogaaDoorM4
import Derived.Deep.QuietTactic
import Derived.Lib.SplitLaws
import Derived.Lib.Join
namespace Go.Proofs.YtkmfnmeilooogaaDoor.P
open Go.RowKit Go.Proofs.YtkmfnmeilooogaaDoorW.PrintWords Go.Proofs.YtkmfnmeilooogaaDoorW.PrintLast Go.Proofs.YtkmfnmeilooogaaDoorW.PrintMore
attribute [local go_sem] max2_int min2_int max_two min_two max_three min_three max_four min_four
set_option linter.unusedVariables false
set_option linter.unusedSimpArgs false

/-! ### impl_Common: function 29 -/
/- Walked by hand. -/
open Go.Proofs.YtkmfnmeilooogaaDoor.Pure
def impl_Common.f (l0 l1 : List ByteArray) : Option (List S63) := if l0.length > 1500 ∨ l1.length > 1500 then some [] else some ((pairs l0 l1 (lc l0 l1 0 0) 0 0).map fun p => ⟨(p.1 : Int), (p.2 : Int)⟩)
/-- The table's cell (a, b), where all behind (I, J) is done. -/
def impl_Common.T (l0 l1 : List ByteArray) (I J : Int) (a b : Nat) : Int := if I < a ∨ (I = a ∧ J < b) then (lc l0 l1 a b : Int) else 0
/-- The table lies at Br. -/
def impl_Common.Tab (m n : Nat) (t : Nat → Nat → Int) (Br : Nat) (w : World) : Prop := ∃ cs, w.heap[Br]? = some (.cells cs 106 (0, 0)) ∧ ∀ a b, a ≤ n → b ≤ m → cs[a * (m + 1) + b]? = some (.int .i16 (t a b))
theorem impl_Common.Tab.cell {m n Br : Nat} {t : Nat → Nat → Int} {w : World} (h : impl_Common.Tab m n t Br w) {a b : Nat} (ha : a ≤ n) (hb : b ≤ m) : w.cell? ⟨Br, a * (m + 1) + b, none⟩ = some (.int .i16 (t a b)) ∧ w.frozen? ⟨Br, a * (m + 1) + b, none⟩ = false := by
 obtain ⟨cs, h1, h2⟩ := h
 exact ⟨(blk_cell h1 _).trans (h2 a b ha hb), blk_frozen h1 _⟩
theorem impl_Common.Tab.lt {m n Br : Nat} {t : Nat → Nat → Int} {w : World} (h : impl_Common.Tab m n t Br w) : Br < w.heap.size := by
 obtain ⟨cs, h1, _⟩ := h
 exact blk_lt h1
theorem impl_Common.place {m a b a' b' : Nat} (hb : b ≤ m) (hb' : b' ≤ m) (h : a * (m + 1) + b = a' * (m + 1) + b') : a = a' ∧ b = b' := by
 have h1 : (a * (m + 1) + b) / (m + 1) = (a' * (m + 1) + b') / (m + 1) := by rw [h]
 have h2 : (a * (m + 1) + b) % (m + 1) = (a' * (m + 1) + b') % (m + 1) := by rw [h]
 have e1 : ∀ x y : Nat, y ≤ m → (x * (m + 1) + y) / (m + 1) = x := fun x y hy => by
  rw [Nat.mul_comm, Nat.mul_add_div (by omega), Nat.div_eq_of_lt (by omega), Nat.add_zero]
 have e2 : ∀ x y : Nat, y ≤ m → (x * (m + 1) + y) % (m + 1) = y := fun x y hy => by
  rw [Nat.mul_comm, Nat.mul_add_mod, Nat.mod_eq_of_lt (by omega)]
 rw [e1 _ _ hb, e1 _ _ hb'] at h1
 rw [e2 _ _ hb, e2 _ _ hb'] at h2
 exact ⟨h1, h2⟩
theorem impl_Common.Tab.put {m n Br : Nat} {t t' : Nat → Nat → Int} {w : World} (h : impl_Common.Tab m n t Br w) {a b : Nat} (ha : a ≤ n) (hb : b ≤ m) (v : Int) (ht : ∀ x y, x ≤ n → y ≤ m → t' x y = if x = a ∧ y = b then v else t x y) : impl_Common.Tab m n t' Br (w.setCell ⟨Br, a * (m + 1) + b, none⟩ (.int .i16 v)) := by
 obtain ⟨cs, h1, h2⟩ := h
 refine ⟨cs.setIfInBounds (a * (m + 1) + b) (.int .i16 v), blk_put h1 _ _ rfl, fun x y hx hy => ?_⟩
 have hlt := (Array.getElem?_eq_some_iff.1 (h2 a b ha hb)).1
 rw [ht x y hx hy]
 by_cases e : x = a ∧ y = b
 ·obtain ⟨rfl, rfl⟩ := e
  rw [if_pos ⟨rfl, rfl⟩, Array.getElem?_setIfInBounds_self_of_lt hlt]
 ·rw [if_neg e, Array.getElem?_setIfInBounds_ne (fun q => e (impl_Common.place hy hb q.symm))]
  exact h2 x y hx hy
theorem impl_Common.Tab.move {m n Br : Nat} {t : Nat → Nat → Int} {w w1 : World} (h : impl_Common.Tab m n t Br w) (hw : w1.heap[Br]? = w.heap[Br]?) : impl_Common.Tab m n t Br w1 := by
 obtain ⟨cs, h1, h2⟩ := h
 exact ⟨cs, hw.trans h1, h2⟩
set_option maxHeartbeats 1000000 in
set_option maxRecDepth 100000 in
theorem impl_Common.at_calls (m i j N cap P Bt Bm Br : Nat) (x y : Int) (hx : x = (i : Int)) (hy : y = (j : Int)) (W : World) (hi : i ≤ 1500) (hm : m ≤ 1500) (hj : j ≤ m) (hP : P = i * (m + 1) + j) (hN : N ≤ 10000000) (hlt : P < N) (ht : W.cell? ⟨Bt, 0, none⟩ = some (.slice (some ⟨Br, 0, none⟩) N cap)) (hb : W.cell? ⟨Bm, 0, none⟩ = some (.int .i64 (m : Int))) :
  Calls Tryd.prog 65 #[.int .i64 x, .int .i64 y, .pointer (some ⟨Bt, 0, none⟩), .pointer (some ⟨Bm, 0, none⟩)] W fun e w' => e = .returned (.pointer (some ⟨Br, P, none⟩)) ∧ w' = W := by
 subst hx
 subst hy
 have h0 : ((i * (m + 1) : Nat) : Int) = (i : Int) * ((m : Int) + 1) := by rw [Int.natCast_mul]; rfl
 have e1 : wrap64 ((m : Int) + 1) = (m : Int) + 1 := by unfold wrap64; omega
 have e2 : wrap64 ((i : Int) * ((m : Int) + 1)) = (i : Int) * ((m : Int) + 1) := by
  rw [← h0]
  unfold wrap64
  omega
 have e3 : wrap64 ((i : Int) * ((m : Int) + 1) + (j : Int)) = (P : Int) := by
  rw [← h0]
  unfold wrap64
  omega
 have c1 : decide ((P : Int) < (N : Int)) = true := decide_eq_true (by omega)
 have c2 : decide (P < N) = true := decide_eq_true hlt
 clear h0 hi hm hP hN
 go_enter Tryd.func65, Tryd.ntmps65
 go_wp2
 go_ret
 exact ⟨rfl, rfl⟩
theorem impl_Common.Tab.new {m n N : Nat} {W : World} {base : Nat} {ok : Nat → Prop} {v : Value} (h : Kd.R (Kd.int .i16) 106 W base ok v (List.replicate N 0)) (hN : N = (n + 1) * (m + 1)) : ∃ g cap, v = .slice (some ⟨g, 0, none⟩) N cap ∧ base ≤ g ∧ g < W.heap.size ∧ impl_Common.Tab m n (fun _ _ => 0) g W := by
 have hp : 0 < (List.replicate N (0 : Int)).length := by
  rw [List.length_replicate, hN]
  exact Nat.mul_pos (by omega) (by omega)
 obtain ⟨g, cap, rfl, hb, hl, cells, hc⟩ := Kd.R_form h hp
 rw [List.length_replicate] at h
 refine ⟨g, cap, by rw [List.length_replicate], hb, hl, cells, hc, fun a b ha hb => ?_⟩
 have hlt : a * (m + 1) + b < N := by
  rw [hN]
  have : a * (m + 1) ≤ n * (m + 1) := Nat.mul_le_mul_right _ ha
  rw [Nat.add_mul, Nat.one_mul]
  omega
 have := (Kd.R_celln (0 : Int) h ((a * (m + 1) + b : Nat) : Int) (by omega) (by omega)).1
 rw [Int.toNat_natCast] at this
 have e := (blk_cell hc (a * (m + 1) + b)).symm.trans this
 rw [e]
 unfold rdOf
 rw [Int.toNat_natCast, List.getD_eq_getElem?_getD, List.getElem?_replicate, if_pos hlt]
 rfl
/-- What is told of the world all along: the three blocks and what was there. -/
structure impl_Common.At (w : World) (n m N cap Bt Bm Br : Nat) (t : Nat → Nat → Int) (W : World) : Prop where
 tab : impl_Common.Tab m n t Br W
 bt : W.heap[Bt]? = some (.cells #[.slice (some ⟨Br, 0, none⟩) N cap] 104 (0, 0))
 bm : W.heap[Bm]? = some (.cells #[.int .i64 (m : Int)] 3 (0, 0))
 below : Below w.heap.size w W
 base : w.heap.size ≤ Br
theorem impl_Common.At.drewN {w : World} {n m N cap Bt Bm Br : Nat} {t : Nat → Nat → Int} {W : World} (h : impl_Common.At w n m N cap Bt Bm Br t W) (nd : Nat) : impl_Common.At w n m N cap Bt Bm Br t (W.drewN nd) := ⟨h.tab.move rfl, h.bt, h.bm, pw_below_drewN h.below nd, h.base⟩
theorem impl_Common.At.put {w : World} {n m N cap Bt Bm Br : Nat} {t t' : Nat → Nat → Int} {W : World} (h : impl_Common.At w n m N cap Bt Bm Br t W) {a b : Nat} (ha : a ≤ n) (hb : b ≤ m) (v : Int) (ht : ∀ x y, x ≤ n → y ≤ m → t' x y = if x = a ∧ y = b then v else t x y) : impl_Common.At w n m N cap Bt Bm Br t' (W.setCell ⟨Br, a * (m + 1) + b, none⟩ (.int .i16 v)) := by
 obtain ⟨cs, h1, h2⟩ := h.tab
 have n1 : Bt ≠ Br := by
  rintro rfl
  have := h.bt.symm.trans h1
  simp at this
 have n2 : Bm ≠ Br := by
  rintro rfl
  have := h.bm.symm.trans h1
  simp at this
 exact ⟨h.tab.put ha hb v ht, blk_far h.bt n1 _, blk_far h.bm n2 _, below_set h.below h.base, h.base⟩
theorem impl_Common.At.same {w : World} {n m N cap Bt Bm Br : Nat} {t t' : Nat → Nat → Int} {W : World} (h : impl_Common.At w n m N cap Bt Bm Br t W) (e : ∀ a b, a ≤ n → b ≤ m → t' a b = t a b) : impl_Common.At w n m N cap Bt Bm Br t' W := by
 refine ⟨?_, h.bt, h.bm, h.below, h.base⟩
 obtain ⟨cs, h1, h2⟩ := h.tab
 exact ⟨cs, h1, fun a b ha hb => (h2 a b ha hb).trans (by rw [e a b ha hb])⟩
theorem impl_Common.lc_1500 (l0 l1 : List ByteArray) (h : l0.length ≤ 1500) (a b : Nat) : ∃ x : Int, (lc l0 l1 a b : Int) = x ∧ 0 ≤ x ∧ x ≤ 1500 := by
 have := (lc_le l0 l1 _ a b (Nat.le_refl _)).1
 exact ⟨_, rfl, by omega, by omega⟩
theorem impl_Common.idx {m n a b N : Nat} (hN : N = (n + 1) * (m + 1)) (ha : a ≤ n) (hb : b ≤ m) : a * (m + 1) + b < N := by
 rw [hN]
 have : a * (m + 1) ≤ n * (m + 1) := Nat.mul_le_mul_right _ ha
 rw [Nat.add_mul, Nat.one_mul]
 omega
theorem impl_Common.lc_eq {l0 l1 : List ByteArray} {a b : Nat} (ha : a < l0.length) (hb : b < l1.length) {x1 x2 x3 v : Int} (h1 : (lc l0 l1 (a + 1) b : Int) = x1) (h2 : (lc l0 l1 a (b + 1) : Int) = x2) (h3 : (lc l0 l1 (a + 1) (b + 1) : Int) = x3) (hv : (if x1 < x2 then x2 else x1) = v) (he : l0[a].toList = l1[b].toList) :
  (lc l0 l1 a b : Int) = if v < 1 + x3 then 1 + x3 else v := by
 have he' : l0[a] = l1[b] := by
  rw [ByteArray.toList_eq, ByteArray.toList_eq] at he
  exact ba_ext he
 rw [lc_in ha hb, if_pos he']
 subst h1 h2 h3 hv
 by_cases q : lc l0 l1 a (b + 1) > lc l0 l1 (a + 1) b
 ·rw [if_pos q, if_pos (show (lc l0 l1 (a + 1) b : Int) < (lc l0 l1 a (b + 1) : Int) by omega)]
  split <;> split <;> omega
 ·rw [if_neg q, if_neg (show ¬ (lc l0 l1 (a + 1) b : Int) < (lc l0 l1 a (b + 1) : Int) by omega)]
  split <;> split <;> omega
theorem impl_Common.lc_ne {l0 l1 : List ByteArray} {a b : Nat} (ha : a < l0.length) (hb : b < l1.length) {x1 x2 v : Int} (h1 : (lc l0 l1 (a + 1) b : Int) = x1) (h2 : (lc l0 l1 a (b + 1) : Int) = x2) (hv : (if x1 < x2 then x2 else x1) = v) (he : ¬ l0[a].toList = l1[b].toList) :
  (lc l0 l1 a b : Int) = v := by
 have he' : ¬ l0[a] = l1[b] := fun h => he (by rw [h])
 rw [lc_in ha hb, if_neg he']
 subst h1 h2 hv
 by_cases q : lc l0 l1 a (b + 1) > lc l0 l1 (a + 1) b
 ·rw [if_pos q, if_pos (show (lc l0 l1 (a + 1) b : Int) < (lc l0 l1 a (b + 1) : Int) by omega)]
 ·rw [if_neg q, if_neg (show ¬ (lc l0 l1 (a + 1) b : Int) < (lc l0 l1 a (b + 1) : Int) by omega)]
theorem impl_Common.T_put {l0 l1 : List ByteArray} {a b : Nat} {v : Int} (h : (lc l0 l1 a b : Int) = v) (x y : Nat) : impl_Common.T l0 l1 (a : Int) ((b : Int) - 1) x y = if x = a ∧ y = b then v else impl_Common.T l0 l1 (a : Int) (b : Int) x y := by
 unfold impl_Common.T
 by_cases e : x = a ∧ y = b
 ·obtain ⟨rfl, rfl⟩ := e
  rw [if_pos (by omega), if_pos ⟨rfl, rfl⟩]
  exact h
 ·rw [if_neg e]
  by_cases q : (a : Int) < (x : Int) ∨ ((a : Int) = (x : Int) ∧ (b : Int) < (y : Int))
  ·rw [if_pos q, if_pos (by omega)]
  ·rw [if_neg q, if_neg (by omega)]
theorem impl_Common.At.appended {w : World} {n m N cap Bt Bm Br : Nat} {t : Nat → Nat → Int} {W W1 : World} {base : Nat} {ok : Nat → Prop} {v : Value} {xs : List S63} (h : impl_Common.At w n m N cap Bt Bm Br t W) (ho : Kd.R k63 63 W base ok v xs) (hg : W.grownBy W1 v.ownBlock) (hb : Below w.heap.size w W1) : impl_Common.At w n m N cap Bt Bm Br t W1 := by
 obtain ⟨cs, h1, h2⟩ := h.tab
 exact ⟨⟨cs, blk_grown h1 hg (Kd.R_ne ho h1 (by decide)), h2⟩, blk_grown h.bt hg (Kd.R_ne ho h.bt (by decide)), blk_grown h.bm hg (Kd.R_ne ho h.bm (by decide)), hb, h.base⟩
set_option maxHeartbeats 2000000 in
set_option maxRecDepth 100000 in
theorem impl_Common.calls (A0 : Option Addr) (c0 : Nat) (l0 : List ByteArray) (A1 : Option Addr) (c1 : Nat) (l1 : List ByteArray) (r : List S63) (w : World) (hr0 : Kd.C Kd.string w A0 l0.length l0) (hc0 : l0.length ≤ c0) (hr1 : Kd.C Kd.string w A1 l1.length l1) (hc1 : l1.length ≤ c1) (h : impl_Common.f l0 l1 = some r) :
  Calls Tryd.prog 29 #[.slice A0 l0.length c0, .slice A1 l1.length c1] w fun e w' => ∃ v0_ : Value, e = .returned (v0_) ∧ Kd.R k63 63 w' w.heap.size (fun _ => True) v0_ r ∧ Below w.heap.size w w' := by
 have HR0 := Aside0.mk hr0
 have HR1 := Aside0.mk hr1
 have HB := Aside0.mk (Below.refl w.heap.size w)
 clear hr0 hc0 hr1 hc1
 unfold impl_Common.f at h
 by_cases hbig : l0.length > 1500 ∨ l1.length > 1500
 ·rw [if_pos hbig] at h
  obtain rfl := Option.some.inj h
  by_cases h0 : 1500 < l0.length
  ·have d0 : decide ((1500 : Int) < (l0.length : Int)) = true := decide_eq_true (by omega)
   have d1 : decide (1500 < l0.length) = true := decide_eq_true h0
   clear h hbig h0
   go_enter Tryd.func29, Tryd.ntmps29
   go_wp2
   go_ret
   exact ⟨_, rfl, Kd.R_nil _ _ _ _ _, HB.out⟩
  ·have d0 : decide ((1500 : Int) < (l0.length : Int)) = false := decide_eq_false (by omega)
   have d1 : decide (1500 < l0.length) = false := decide_eq_false h0
   have d2 : decide ((1500 : Int) < (l1.length : Int)) = true := decide_eq_true (by omega)
   have d3 : decide (1500 < l1.length) = true := decide_eq_true (by omega)
   clear h hbig h0
   go_enter Tryd.func29, Tryd.ntmps29
   go_wp2
   go_ret
   exact ⟨_, rfl, Kd.R_nil _ _ _ _ _, HB.out⟩
 ·rw [if_neg hbig] at h
  obtain rfl := Option.some.inj h
  clear h
  have e0 : l0.length ≤ 1500 := by omega
  have e1 : l1.length ≤ 1500 := by omega
  have d0 : decide ((1500 : Int) < (l0.length : Int)) = false := decide_eq_false (by omega)
  have d1 : decide (1500 < l0.length) = false := decide_eq_false (by omega)
  have d2 : decide ((1500 : Int) < (l1.length : Int)) = false := decide_eq_false (by omega)
  have d3 : decide (1500 < l1.length) = false := decide_eq_false (by omega)
  obtain ⟨N, hN⟩ : ∃ N, N = (l0.length + 1) * (l1.length + 1) := ⟨_, rfl⟩
  have hNb : N ≤ 2253001 := by
   rw [hN]
   exact Nat.le_trans (Nat.mul_le_mul (show l0.length + 1 ≤ 1501 by omega) (show l1.length + 1 ≤ 1501 by omega)) (by omega)
  have hNw : wrap64 (((l0.length : Int) + 1) * ((l1.length : Int) + 1)) = (N : Int) := by
   rw [show ((l0.length : Int) + 1) * ((l1.length : Int) + 1) = (N : Int) from by rw [hN, Int.natCast_mul]; rfl]
   unfold wrap64
   omega
  have HN := Aside0.mk hN
  have HNW := Aside0.mk hNw
  clear hbig hN hNw
  go_enter Tryd.func29, Tryd.ntmps29
  go_wp2_with (first | ((with_reducible refine gd 6 rfl ?_); refine bx 6 3 (#[.int .i64 0]) ?_; intro Bm hg w1 hbox hb; refine Ya3 hbox (below_step (be HB.out) hb) (bs hg (be HB.out)) ?_; clear HB; intro BM HB GM; clear hb hbox hg; have ⟨hcz6_0, hfz6_0⟩ := Yc1 BM.out) | ((with_reducible refine gd 35 rfl ?_); refine Kd.R_make (w0 := w) (Kd.int .i16) w.heap.size 106 rfl (N := 35) rfl 104 _ _ rfl (wrap64 (((l0.length : Int) + 1) * ((l1.length : Int) + 1))) rfl rfl Tryd.underlying104 (.int .i16 0) 2 (by kernel_rfl) rfl (by decide) (by omega) 0 (ok := fun _ => True) (okp := fun _ => True) rfl (fun _ hk => hk) trivial (by rw [HNW.out]; omega) (by rw [HNW.out]; omega) (be1 HB.out GM.out) (below_size (be1 HB.out GM.out)) ?_; intro v1 w2 hR hb hg hnew; rw [HNW.out, Int.toNat_natCast] at hR; obtain ⟨Br, cap, rfl, hbase, hlt, hT⟩ := impl_Common.Tab.new hR HN.out; refine Ya4 (blk_grown (blk_put (cs := #[.int .i64 0]) BM.out 0 (.int .i64 (l1.length : Int)) rfl) hg (by simp)) hb hbase hT ?_; clear BM HB hb hg hnew hR hbase hT hcz6_0 hfz6_0; intro BM HB GR HT) | ((with_reducible refine gd 7 rfl ?_); refine bx 7 104 (#[.slice none 0 0]) ?_; intro Bt hg w3 hbox hb; refine Ya6 hbox (below_step (be HB.out) hb) (bs hg (be HB.out)) (bb BM hb) (HT.out.move (hb.block Br hlt)) (show Bt ≠ Br from by omega) ?_; clear HB BM HT; intro BT HB GT BM HT NR; clear hb hbox hg; have ⟨hcz7_0, hfz7_0⟩ := Yc1 BT.out))
  have HX := Aside0.mk (show impl_Common.At w l0.length l1.length N cap Bt Bm Br (fun _ _ => 0) (w3.setCell ⟨Bt, 0, none⟩ (.slice (some ⟨Br, 0, none⟩) N cap)) from ⟨HT.out.move (Below.heap_setCell _ _ _ _ (Ne.symm NR.out)), blk_put (cs := #[.slice none 0 0]) BT.out 0 _ rfl, blk_far BM.out (by have h1 := BM.out; have h2 := BT.out; rintro rfl; rw [h1] at h2; simp at h2) _, be1 HB.out GT.out, GR.out⟩)
  clear BT HB BM HT hcz7_0 hfz7_0
  generalize w3.setCell ⟨Bt, 0, none⟩ (.slice (some ⟨Br, 0, none⟩) N cap) = W at HX ⊢
  clear hlt w3 GT NR GM
  have HX0 := Aside0.mk (HX.out.same (t' := impl_Common.T l0 l1 ((l0.length : Int) - 1) (l1.length : Int)) fun a b ha hb => by
   unfold impl_Common.T
   split
   ·rw [lc_out1 (by omega)]
    rfl
   ·rfl)
  clear HX
  go_loopg [9] (l0.length) (fun kq v9 w' => ∃ i : Int, v9 = .int .i64 i ∧ Aside0 (i + 1 = (kq : Int)) ∧ Aside0 (i < (l0.length : Int)) ∧ Aside0 (impl_Common.At w l0.length l1.length N cap Bt Bm Br (impl_Common.T l0 l1 i (l1.length : Int)) w'))
  case atStart => exact ⟨(l0.length : Int) - 1, rfl, ⟨by omega⟩, ⟨by omega⟩, HX0⟩
  case round =>
   clear HX0
   obtain ⟨i, rfl, HK, HI, HX⟩ := hrel
   have hin := HI.out
   cases gk with
   | zero =>
    have c1 : decide (0 ≤ i) = false := decide_eq_false (by have := HK.out; omega)
    have HX0 := Aside0.mk (HX.out.same (t' := fun a b => (lc l0 l1 a b : Int)) fun a b ha hb => by
     have := HK.out
     unfold impl_Common.T
     rw [if_pos (by omega)])
    clear HX
    obtain ⟨L, hL, hL0, hL1⟩ := impl_Common.lc_1500 l0 l1 e0 0 0
    obtain ⟨c5, _⟩ := HX0.out.tab.cell (Nat.zero_le l0.length) (Nat.zero_le l1.length)
    rw [hL] at c5
    obtain ⟨p0, hp0⟩ : ∃ p, p = 0 * (l1.length + 1) + 0 := ⟨_, rfl⟩
    rw [← hp0] at c5
    have HP0 := Aside0.mk hp0
    have HP := Aside0.mk (impl_Common.idx HN.out (Nat.zero_le l0.length) (Nat.zero_le l1.length))
    have HL := Aside0.mk hL
    clear hp0 hL
    have ⟨hczm, hfzm⟩ := Yc1 HX0.out.bm
    have ⟨hczt, hfzt⟩ := Yc1 HX0.out.bt
    have CA := Aside0.mk (impl_Common.at_calls l1.length 0 0 N cap p0 Bt Bm Br 0 0 rfl rfl wr (by omega) e1 (by omega) HP0.out (by omega) (by rw [HP0.out]; exact HP.out) hczt hczm)
    go_wp2_with (first | (go_at_call 65; (with_reducible refine CA.out.mono ?_); rintro e w' ⟨rfl, rfl⟩))
    clear c5 CA HP HP0 hczm hczt hfzm hfzt c1
    go_loopg [12, 13, 14, 15] (lc l0 l1 0 0) (fun kq v12 v13 v14 v15 w' => ∃ (i j : Nat) (L : Int) (out : List S63) (vo : Value), vo = v12 ∧ v13 = .int .i64 (i : Int) ∧ v14 = .int .i64 (j : Int) ∧ v15 = .int .i16 L ∧ Aside0 (L = (kq : Int)) ∧ Aside0 (i ≤ l0.length ∧ j ≤ l1.length) ∧ Aside0 (lc l0 l1 i j = kq) ∧ Aside0 (out.length + kq ≤ 1500) ∧ Aside0 (out ++ (pairs l0 l1 kq i j).map (fun p => (⟨(p.1 : Int), (p.2 : Int)⟩ : S63)) = (pairs l0 l1 (lc l0 l1 0 0) 0 0).map fun p => ⟨(p.1 : Int), (p.2 : Int)⟩) ∧ Aside0 (Kd.R k63 63 w' w.heap.size (fun _ => True) vo out) ∧ Aside0 (impl_Common.At w l0.length l1.length N cap Bt Bm Br (fun a b => (lc l0 l1 a b : Int)) w'))
    case atStart => exact ⟨0, 0, L, [], .slice none 0 0, rfl, rfl, rfl, rfl, ⟨HL.out.symm⟩, ⟨by omega⟩, ⟨rfl⟩, ⟨by have := HL.out; simp; omega⟩, ⟨rfl⟩, ⟨Kd.R_nil _ _ _ _ _⟩, HX0⟩
    case round =>
     clear HX0 HL hL0 hL1
     obtain ⟨i, j, L, out, vo, rfl, rfl, rfl, rfl, HL, HIJ, HLC, HOL, HALL, HO, HX⟩ := hrel
     cases gk with
     | zero =>
      have c2 : decide (0 < L) = false := decide_eq_false (by have := HL.out; omega)
      go_wp2
      go_ret
      refine ⟨_, rfl, ?_, HX.out.below⟩
      have := HALL.out
      rw [show pairs l0 l1 0 i j = [] from by unfold pairs; rfl, List.map_nil, List.append_nil] at this
      rw [← this]
      exact HO.out
     | succ g =>
      have c2 : decide (0 < L) = true := decide_eq_true (by have := HL.out; omega)
      obtain ⟨W0, hW0⟩ : ∃ W0, W0 = wr := ⟨_, rfl⟩
      subst hW0
      have hin := HIJ.out.1
      have hjm := HIJ.out.2
      obtain ⟨x0, y0, hx0, hy0, hgo⟩ := lc_goes l0 l1 _ i j (Nat.le_refl _) (by rw [HLC.out]; omega)
      rw [HLC.out] at hgo
      obtain ⟨p, hp⟩ := pairFirst_there hjm (l0.length - i) i (by omega) ⟨x0, y0, hx0, hy0, hgo⟩
      have HP := Aside0.mk hp
      have HP0 := Aside0.mk hp
      clear hp hgo hx0 hy0
      go_wp2
      go_step3
      go_wp2
      go_step3
      have ⟨hczm, hfzm⟩ := Yc1 HX.out.bm
      have ⟨hczt, hfzt⟩ := Yc1 HX.out.bt
      go_wp2
      go_loopg [12, 13, 14, 16] (l0.length - i) (fun kq v12 v13 v14 v16 w' => ∃ x nd : Nat, vo = v12 ∧ v13 = .int .i64 (i : Int) ∧ v14 = .int .i64 (j : Int) ∧ v16 = .int .i64 (x : Int) ∧ Aside0 (x + kq = l0.length) ∧ Aside0 (pairFirst l0 l1 (g + 1) j kq x = some p) ∧ w' = W0.drewN nd)
      case atStart => exact ⟨i, 0, rfl, rfl, rfl, rfl, ⟨by omega⟩, HP, rfl⟩
      case round =>
       clear HP
       obtain ⟨x, nd, rfl, rfl, rfl, rfl, HK, HP, rfl⟩ := hrel
       cases gk with
       | zero => exact absurd HP.out (by simp [pairFirst])
       | succ k =>
        have hx : x < l0.length := by have := HK.out; omega
        have c3 : decide ((x : Int) < (l0.length : Int)) = true := decide_eq_true (by omega)
        have c4 : decide (x < l0.length) = true := decide_eq_true hx
        go_wp2
        go_loopg [12, 13, 14, 17] (l1.length - j) (fun kq v12 v13 v14 v17 w' => ∃ y nd : Nat, vo = v12 ∧ v13 = .int .i64 (i : Int) ∧ v14 = .int .i64 (j : Int) ∧ v17 = .int .i64 (y : Int) ∧ Aside0 (y + kq = l1.length) ∧ Aside0 ((match rowFirst l0 l1 (g + 1) x kq y with
         | some z => some (x, z)
         | none => pairFirst l0 l1 (g + 1) j k (x + 1)) = some p) ∧ w' = W0.drewN nd)
        case atStart => exact ⟨j, nd, rfl, rfl, rfl, rfl, ⟨by omega⟩, HP, rfl⟩
        case round =>
         clear HP
         obtain ⟨y, nd2, rfl, rfl, rfl, rfl, HK2, HP, hw⟩ := hrel
         have HW := Aside0.mk hw
         clear hw
         have hczm' : wr.cell? ⟨Bm, 0, none⟩ = some (.int .i64 (l1.length : Int)) := by rw [HW.out]; exact hczm
         cases gk with
         | zero =>
          have hy : ¬ y < l1.length := by have := HK2.out; omega
          have c5 : decide ((y : Int) < (l1.length : Int)) = false := decide_eq_false (by omega)
          have c6 : decide (y < l1.length) = false := decide_eq_false hy
          go_wp2
          go_roundg k
          case measure => omega
          case rel => exact ⟨x + 1, nd2, rfl, rfl, rfl, by rw [show ((x + 1 : Nat) : Int) = (x : Int) + 1 from rfl], ⟨by have := HK.out; omega⟩, ⟨HP.out⟩, HW.out⟩
         | succ k2 =>
          have hy : y < l1.length := by have := HK2.out; omega
          have c5 : decide ((y : Int) < (l1.length : Int)) = true := decide_eq_true (by omega)
          have c6 : decide (y < l1.length) = true := decide_eq_true hy
          have c7 : decide (0 ≤ (x : Int)) = true := decide_eq_true (by omega)
          have c8 : decide (0 ≤ (y : Int)) = true := decide_eq_true (by omega)
          have hbw : Below w.heap.size w wr := by rw [HW.out]; exact pw_below_drewN HX.out.below nd2
          have hczt' : wr.cell? ⟨Bt, 0, none⟩ = some (.slice (some ⟨Br, 0, none⟩) N cap) := by rw [HW.out]; exact hczt
          obtain ⟨ad0, e0_, s0⟩ := Kd.at_string (Kd.C_below HR0.out hbw) (x : Int) (by omega) (by omega)
          obtain ⟨ad1, e1_, s1⟩ := Kd.at_string (Kd.C_below HR1.out hbw) (y : Int) (by omega) (by omega)
          clear hbw
          cases e0_
          cases e1_
          rw [rd_of hx, Int.toNat_natCast] at s0
          rw [rd_of hy, Int.toNat_natCast] at s1
          have HPq := HP.out
          clear HP
          unfold rowFirst at HPq
          rw [rd_of hx, rd_of hy] at HPq
          by_cases hab : l0[x].toList = l1[y].toList
          ·have t0 : (l0[x].toList == l1[y].toList) = true := beq_iff_eq.mpr hab
           have t1 : (l0[x].toList != l1[y].toList) = false := bne_eq_false_iff_eq.mpr hab
           obtain ⟨x3, hx3, y3, z3⟩ := impl_Common.lc_1500 l0 l1 e0 (x + 1) (y + 1)
           have d1 : wr.cell? ⟨Br, (x + 1) * (l1.length + 1) + (y + 1), none⟩ = some (.int .i16 (lc l0 l1 (x + 1) (y + 1) : Int)) := by rw [HW.out]; exact (HX.out.tab.cell (show x + 1 ≤ l0.length from hx) (show y + 1 ≤ l1.length from hy)).1
           rw [hx3] at d1
           obtain ⟨p3, hp3⟩ : ∃ p, p = (x + 1) * (l1.length + 1) + (y + 1) := ⟨_, rfl⟩
           rw [← hp3] at d1
           have HQ3 := Aside0.mk hp3
           have HP3 := Aside0.mk (impl_Common.idx HN.out (show x + 1 ≤ l0.length from hx) (show y + 1 ≤ l1.length from hy))
           have HV3 := Aside0.mk hx3
           clear hp3 hx3
           have wa : IntKind.i64.wrap ((x : Int) + 1) = (x : Int) + 1 := (i64_w _).trans (by unfold wrap64; omega)
           have wb : IntKind.i64.wrap ((y : Int) + 1) = (y : Int) + 1 := (i64_w _).trans (by unfold wrap64; omega)
           have wc : IntKind.i16.wrap (1 + x3) = 1 + x3 := by simp [IntKind.wrap, IntKind.bits, IntKind.signed]; omega
           have CC := Aside0.mk (fun nd => impl_Common.at_calls l1.length (x + 1) (y + 1) N cap p3 Bt Bm Br ((x : Int) + 1) ((y : Int) + 1) rfl rfl (wr.drewN nd) (by omega) e1 (by omega) HQ3.out (by omega) (by rw [HQ3.out]; exact HP3.out) hczt' hczm')
           clear hczt'
           have hhe : l0[x] = l1[y] := by
            have he := hab
            rw [ByteArray.toList_eq, ByteArray.toList_eq] at he
            exact ba_ext he
           by_cases hl : 1 + x3 = L
           ·have t2 : (1 + x3 == L) = true := beq_iff_eq.mpr hl
            have t3 : decide (1 + x3 = L) = true := decide_eq_true hl
            rw [if_pos ⟨hhe, by have := HV3.out; have := HL.out; omega⟩] at HPq
            have hpe : (x, y) = p := Option.some.inj HPq
            have HE := Aside0.mk hl
            have HPE := Aside0.mk hpe
            clear hl hab HPq hhe hpe
            go_wp2_with fail
            go_quiet (first | (go_at_call 65; with_reducible exact Calls.quiet_of_same (CC.out _)))
            clear wa wb wc
            have HO2 := Aside0.mk (show Kd.R k63 63 (wr.drewN nq) w.heap.size (fun _ => True) vo out from by rw [HW.out]; exact Kd.R_drewN (Kd.R_drewN HO.out _) _)
            have HX2 := Aside0.mk (show impl_Common.At w l0.length l1.length N cap Bt Bm Br (fun a b => (lc l0 l1 a b : Int)) (wr.drewN nq) from by rw [HW.out]; exact (HX.out.drewN _).drewN _)
            clear HO HX HW
            generalize wr.drewN nq = W3 at HO2 HX2 ⊢
            have wd : IntKind.i16.wrap (L - 1) = L - 1 := by simp [IntKind.wrap, IntKind.bits, IntKind.signed]; have := HE.out; omega
            go_wp2_with (first | (at_builtin; refine Kd.R_append k63 (w0 := w) w.heap.size rfl (.tmp 132) (.tmp 136) 57 63 (.agg #[.int .i64 0, .int .i64 0]) 16 rfl Tryd.underlying57 (by kernel_rfl) rfl (by decide) (by omega) vo out (⟨(x : Int), (y : Int)⟩ : S63) [.int .i64 (x : Int), .int .i64 (y : Int)] (fun _ => True) (fun _ => False) rfl (by first | (go_simp; done) | (go_simp; rfl)) (k63_mkM _ _ _ ⟨(x : Int), (y : Int)⟩) (fun _ hk => hk.elim) (fun _ _ => trivial) HO2.out HX2.out.below (below_size HX2.out.below) (by have := HOL.out; omega) ?_; intro v1 w4 ho hb hg hat; refine Ya2 ho (HX2.out.appended HO2.out hg hb) ?_; clear HO2 HX2 ho hb hg hat; intro HO2 HX2))
            rw [Exit.noGoto_normal]
            go_wp2
            go_roundg g
            case measure => omega
            case rel =>
             refine ⟨x + 1, y + 1, L - 1, out ++ [⟨(x : Int), (y : Int)⟩], v1, rfl, rfl, rfl, rfl, ⟨by have := HL.out; omega⟩, ⟨by omega⟩, ⟨by have := HV3.out; have := HE.out; have := HL.out; omega⟩, ⟨by have := HOL.out; rw [List.length_append, List.length_singleton]; omega⟩, ⟨?_⟩, HO2, HX2⟩
             have h1 := HALL.out
             rw [show pairs l0 l1 (g + 1) i j = (match pairFirst l0 l1 (g + 1) j (l0.length - i) i with
              | some p => p :: pairs l0 l1 g (p.1 + 1) (p.2 + 1)
              | none => []) from rfl, HP0.out, ← HPE.out] at h1
             rw [← h1, List.append_assoc]
             rfl
           ·have t2 : (1 + x3 == L) = false := beq_eq_false_iff_ne.mpr hl
            have t3 : decide (1 + x3 = L) = false := decide_eq_false hl
            rw [if_neg (fun h => hl (by have := HV3.out; have := HL.out; have := h.2; omega))] at HPq
            have HPQ := Aside0.mk HPq
            clear hl hab HPq hhe
            go_wp2_with fail
            go_quiet (first | (go_at_call 65; with_reducible exact Calls.quiet_of_same (CC.out _)))
            clear wa wb wc
            go_wp2
            go_roundg k2
            case measure => omega
            case rel => exact ⟨y + 1, nd2 + nq, rfl, rfl, rfl, rfl, ⟨by have := HK2.out; omega⟩, HPQ, by rw [HW.out, World.drewN_drewN]⟩
          ·have t0 : (l0[x].toList == l1[y].toList) = false := beq_eq_false_iff_ne.mpr hab
           have t1 : (l0[x].toList != l1[y].toList) = true := bne_iff_ne.mpr hab
           rw [if_neg (fun h => hab (by rw [h.1]))] at HPq
           have HPQ := Aside0.mk HPq
           clear hab HPq hczt'
           go_wp2_with fail
           go_quiet (fail)
           go_wp2
           go_roundg k2
           case measure => omega
           case rel => exact ⟨y + 1, nd2 + nq, rfl, rfl, rfl, rfl, ⟨by have := HK2.out; omega⟩, HPQ, by rw [HW.out, World.drewN_drewN]⟩
   | succ g =>
    have hi0 : 0 ≤ i := by have := HK.out; omega
    have c1 : decide (0 ≤ i) = true := decide_eq_true hi0
    have HX0 := Aside0.mk (HX.out.same (t' := impl_Common.T l0 l1 i ((l1.length : Int) - 1)) fun a b ha hb => by
     unfold impl_Common.T
     by_cases h : i < (a : Int) ∨ (i = (a : Int) ∧ (l1.length : Int) < (b : Int))
     ·rw [if_pos h, if_pos (by omega)]
     ·rw [if_neg h]
      split
      ·rw [lc_out2 (by omega)]
       rfl
      ·rfl)
    have ⟨hczm, hfzm⟩ := Yc1 HX.out.bm
    clear HX
    go_wp2
    go_loopg [10] (l1.length) (fun kq v10 w' => ∃ j : Int, v10 = .int .i64 j ∧ Aside0 (j + 1 = (kq : Int)) ∧ Aside0 (j < (l1.length : Int)) ∧ Aside0 (impl_Common.At w l0.length l1.length N cap Bt Bm Br (impl_Common.T l0 l1 i j) w'))
    case atStart => exact ⟨(l1.length : Int) - 1, rfl, ⟨by omega⟩, ⟨by omega⟩, HX0⟩
    case round =>
     clear HX0 hczm hfzm
     obtain ⟨j, rfl, HK2, HJ, HX⟩ := hrel
     have hjm := HJ.out
     cases gk with
     | zero =>
      have c2 : decide (0 ≤ j) = false := decide_eq_false (by have := HK2.out; omega)
      go_wp2
      go_roundg g
      case measure => omega
      case rel => exact ⟨i - 1, rfl, ⟨by have := HK.out; omega⟩, ⟨by omega⟩, ⟨HX.out.same fun a b ha hb => by
       have := HK2.out
       unfold impl_Common.T
       by_cases h : i < (a : Int) ∨ (i = (a : Int) ∧ j < (b : Int))
       ·rw [if_pos h, if_pos (by omega)]
       ·rw [if_neg h, if_neg (by omega)]⟩⟩
     | succ g2 =>
      have hj0 : 0 ≤ j := by have := HK2.out; omega
      have c2 : decide (0 ≤ j) = true := decide_eq_true hj0
      obtain ⟨a, rfl⟩ : ∃ a : Nat, i = (a : Int) := ⟨i.toNat, by have := HK.out; omega⟩
      obtain ⟨b, rfl⟩ : ∃ b : Nat, j = (b : Int) := ⟨j.toNat, by have := HK2.out; omega⟩
      have ha : a < l0.length := by omega
      have hb : b < l1.length := by omega
      obtain ⟨x1, hx1, y1, z1⟩ := impl_Common.lc_1500 l0 l1 e0 (a + 1) b
      obtain ⟨x2, hx2, y2, z2⟩ := impl_Common.lc_1500 l0 l1 e0 a (b + 1)
      obtain ⟨x3, hx3, y3, z3⟩ := impl_Common.lc_1500 l0 l1 e0 (a + 1) (b + 1)
      have c1 := (HX.out.tab.cell (show a + 1 ≤ l0.length from ha) (Nat.le_of_lt hb)).1
      have c2 := (HX.out.tab.cell (Nat.le_of_lt ha) (show b + 1 ≤ l1.length from hb)).1
      have c3 := (HX.out.tab.cell (show a + 1 ≤ l0.length from ha) (show b + 1 ≤ l1.length from hb)).1
      obtain ⟨c5, c4⟩ := HX.out.tab.cell (Nat.le_of_lt ha) (Nat.le_of_lt hb)
      generalize impl_Common.T l0 l1 (a : Int) (b : Int) a b = x0 at c5
      rw [show impl_Common.T l0 l1 (a : Int) (b : Int) (a + 1) b = x1 from by unfold impl_Common.T; rw [if_pos (by omega)]; exact hx1] at c1
      rw [show impl_Common.T l0 l1 (a : Int) (b : Int) a (b + 1) = x2 from by unfold impl_Common.T; rw [if_pos (by omega)]; exact hx2] at c2
      rw [show impl_Common.T l0 l1 (a : Int) (b : Int) (a + 1) (b + 1) = x3 from by unfold impl_Common.T; rw [if_pos (by omega)]; exact hx3] at c3
      have HP1 := Aside0.mk (impl_Common.idx HN.out (show a + 1 ≤ l0.length from ha) (Nat.le_of_lt hb))
      have HP2 := Aside0.mk (impl_Common.idx HN.out (Nat.le_of_lt ha) (show b + 1 ≤ l1.length from hb))
      have HP3 := Aside0.mk (impl_Common.idx HN.out (show a + 1 ≤ l0.length from ha) (show b + 1 ≤ l1.length from hb))
      have HP0 := Aside0.mk (impl_Common.idx HN.out (Nat.le_of_lt ha) (Nat.le_of_lt hb))
      obtain ⟨p1, hp1⟩ : ∃ p, p = (a + 1) * (l1.length + 1) + b := ⟨_, rfl⟩
      obtain ⟨p2, hp2⟩ : ∃ p, p = a * (l1.length + 1) + (b + 1) := ⟨_, rfl⟩
      obtain ⟨p3, hp3⟩ : ∃ p, p = (a + 1) * (l1.length + 1) + (b + 1) := ⟨_, rfl⟩
      obtain ⟨p0, hp0⟩ : ∃ p, p = a * (l1.length + 1) + b := ⟨_, rfl⟩
      rw [← hp1] at c1
      rw [← hp2] at c2
      rw [← hp3] at c3
      rw [← hp0] at c4 c5
      have HQ1 := Aside0.mk hp1
      have HQ2 := Aside0.mk hp2
      have HQ3 := Aside0.mk hp3
      have HQ0 := Aside0.mk hp0
      have HV1 := Aside0.mk hx1
      have HV2 := Aside0.mk hx2
      have HV3 := Aside0.mk hx3
      clear hp1 hp2 hp3 hp0 hx1 hx2 hx3
      have ⟨hczm, hfzm⟩ := Yc1 HX.out.bm
      have ⟨hczt, hfzt⟩ := Yc1 HX.out.bt
      have HM := Aside0.mk hczm
      have HT := Aside0.mk hczt
      have ca := fun nd => impl_Common.at_calls l1.length (a + 1) b N cap p1 Bt Bm Br ((a : Int) + 1) (b : Int) rfl rfl (wr.drewN nd) (by omega) e1 (by omega) HQ1.out (by omega) (by rw [HQ1.out]; exact HP1.out) HT.out HM.out
      have cb := fun nd => impl_Common.at_calls l1.length a (b + 1) N cap p2 Bt Bm Br (a : Int) ((b : Int) + 1) rfl rfl (wr.drewN nd) (by omega) e1 (by omega) HQ2.out (by omega) (by rw [HQ2.out]; exact HP2.out) HT.out HM.out
      have cc := fun nd => impl_Common.at_calls l1.length (a + 1) (b + 1) N cap p3 Bt Bm Br ((a : Int) + 1) ((b : Int) + 1) rfl rfl (wr.drewN nd) (by omega) e1 (by omega) HQ3.out (by omega) (by rw [HQ3.out]; exact HP3.out) HT.out HM.out
      have cd := fun nd => impl_Common.at_calls l1.length a b N cap p0 Bt Bm Br (a : Int) (b : Int) rfl rfl (wr.drewN nd) (by omega) e1 (by omega) HQ0.out (by omega) (by rw [HQ0.out]; exact HP0.out) HT.out HM.out
      have CA := Aside0.mk ca
      have CB := Aside0.mk cb
      have CC := Aside0.mk cc
      have CD := Aside0.mk cd
      clear ca cb cc cd hczm hczt hfzm hfzt
      obtain ⟨ad0, e0_, s0⟩ := Kd.at_string (Kd.C_below HR0.out HX.out.below) (a : Int) (by omega) (by omega)
      obtain ⟨ad1, e1_, s1⟩ := Kd.at_string (Kd.C_below HR1.out HX.out.below) (b : Int) (by omega) (by omega)
      cases e0_
      cases e1_
      rw [rd_of ha, Int.toNat_natCast] at s0
      rw [rd_of hb, Int.toNat_natCast] at s1
      have q0 : decide ((a : Int) < (l0.length : Int)) = true := decide_eq_true (by omega)
      have q1 : decide ((b : Int) < (l1.length : Int)) = true := decide_eq_true (by omega)
      have q2 : decide (a < l0.length) = true := decide_eq_true ha
      have q3 : decide (b < l1.length) = true := decide_eq_true hb
      have wa : IntKind.i64.wrap ((a : Int) + 1) = (a : Int) + 1 := (i64_w _).trans (by unfold wrap64; omega)
      have wb : IntKind.i64.wrap ((b : Int) + 1) = (b : Int) + 1 := (i64_w _).trans (by unfold wrap64; omega)
      go_wp2_with fail
      go_quiet (first | (go_at_call 65; with_reducible exact Calls.quiet_of_same (CA.out _)) | (go_at_call 65; with_reducible exact Calls.quiet_of_same (CB.out _)))
      generalize nq = nq_1
      obtain ⟨v, hv, hv0, hv1⟩ : ∃ v, (if x1 < x2 then x2 else x1) = v ∧ 0 ≤ v ∧ v ≤ 1500 := ⟨_, rfl, by split <;> omega, by split <;> omega⟩
      rw [hv]
      have HV := Aside0.mk hv
      clear hv
      by_cases hab : l0[a].toList = l1[b].toList
      ·have t0 : (l0[a].toList == l1[b].toList) = true := beq_iff_eq.mpr hab
       have t1 : (l0[a].toList != l1[b].toList) = false := bne_eq_false_iff_eq.mpr hab
       have wc : IntKind.i16.wrap (1 + x3) = 1 + x3 := by simp [IntKind.wrap, IntKind.bits, IntKind.signed]; omega
       have HE := Aside0.mk hab
       clear hab
       go_wp2
       go_quiet (fail)
       clear wa wb
       go_wp2_with (first | (go_at_call 65; (with_reducible refine (CC.out _).mono ?_); rintro e w' ⟨rfl, rfl⟩) | (go_at_call 65; (with_reducible refine (CD.out _).mono ?_); rintro e w' ⟨rfl, rfl⟩))
       all_goals
        have hlc := impl_Common.lc_eq ha hb HV1.out HV2.out HV3.out HV.out HE.out
        first
         | (rw [if_pos (by assumption)] at hlc)
         | (rw [if_neg (by omega)] at hlc)
        have hput := (HX.out.drewN (nq_1 + nq)).put (Nat.le_of_lt ha) (Nat.le_of_lt hb) _ (fun x y _ _ => impl_Common.T_put hlc x y)
        rw [← HQ0.out] at hput
        have HY := Aside0.mk hput
        clear hput hlc
        go_roundg g2
        case measure => omega
        case rel => exact ⟨(b : Int) - 1, rfl, ⟨by have := HK2.out; omega⟩, ⟨by omega⟩, HY⟩
      ·have t0 : (l0[a].toList == l1[b].toList) = false := beq_eq_false_iff_ne.mpr hab
       have t1 : (l0[a].toList != l1[b].toList) = true := bne_iff_ne.mpr hab
       have HE := Aside0.mk hab
       clear hab
       go_wp2
       go_quiet (fail)
       clear wa wb
       go_wp2_with (first | (go_at_call 65; (with_reducible refine (CD.out _).mono ?_); rintro e w' ⟨rfl, rfl⟩))
       have hlc := impl_Common.lc_ne ha hb HV1.out HV2.out HV.out HE.out
       have hput := (HX.out.drewN (nq_1 + nq)).put (Nat.le_of_lt ha) (Nat.le_of_lt hb) _ (fun x y _ _ => impl_Common.T_put hlc x y)
       rw [← HQ0.out] at hput
       have HY := Aside0.mk hput
       clear hput hlc
       go_roundg g2
       case measure => omega
       case rel => exact ⟨(b : Int) - 1, rfl, ⟨by have := HK2.out; omega⟩, ⟨by omega⟩, HY⟩


end Go.Proofs.YtkmfnmeilooogaaDoor.P


namespace Go.Proofs.YtkmfnmeilooogaaDoor.P
open Go.RowKit Go.Proofs.YtkmfnmeilooogaaDoorW.PrintWords Go.Proofs.YtkmfnmeilooogaaDoorW.PrintLast Go.Proofs.YtkmfnmeilooogaaDoorW.PrintMore
attribute [local go_sem] max2_int min2_int max_two min_two max_three min_three max_four min_four
set_option linter.unusedVariables false
set_option linter.unusedSimpArgs false

/-! ### strings_SplitAfter: function 64 -/
def strings_SplitAfter.f (a0 a1 : ByteArray) : Option (List ByteArray) := if a0.size < 4294967281 then (if 1 ≤ a1.size then some (Go.Lib.splitB a1 a1.size (Go.Lib.countB a0 a1) a0) else none) else none
set_option maxRecDepth 100000 in
theorem strings_SplitAfter.calls (a0 a1 : ByteArray) (r : List ByteArray) (w : World) (hg : GOK w) (h : strings_SplitAfter.f a0 a1 = some r) :
  Calls Tryd.prog 64 #[.string a0, .string a1] w fun e w' => ∃ v0_ : Value, e = .returned (v0_) ∧ Kd.R Kd.string 9 w' w.heap.size (fun _ => True) v0_ r ∧ Below w.heap.size w w' := by
 unfold strings_SplitAfter.f at h
 split at h
 ·rename_i hs
  split at h
  ·rename_i h1
   obtain rfl := Option.some.inj h
   obtain ⟨m, hm⟩ := hg
   have hle := Go.Lib.countB_le a1 h1 a0.size a0 (Nat.le_refl _)
   have hlen := Go.Lib.splitB_all a1 h1 a1.size (Go.Lib.countB a0 a1) a0 rfl
   have hN : ((Go.Lib.countB a0 a1 + 1 : Nat) : Int) = min (if (-1 : Int) < 0 then (Go.Lib.countB a0 a1 : Int) + 1 else (-1)) ((a0.size : Int) + 1) := by
    rw [if_pos (by decide)]
    omega
   have HC := Tryd.strings_genSplit a0 a1 a1.size (-1) (Go.Lib.countB a0 a1 + 1) m w hs hm h1 (Nat.le_refl _) (by decide) (by decide) hN
   rw [Nat.add_sub_cancel] at HC
   have hfull : Go.Lib.cellsOf (Go.Lib.splitB a1 a1.size (Go.Lib.countB a0 a1) a0) (Go.Lib.countB a0 a1 + 1) = ((Go.Lib.splitB a1 a1.size (Go.Lib.countB a0 a1) a0).map Value.string).toArray := by
    have := Go.Lib.cellsOf_full (Go.Lib.splitB a1 a1.size (Go.Lib.countB a0 a1) a0)
    rwa [hlen] at this
   rw [hfull] at HC
   have HR := Ow.R_new_block Value.string (fun _ => rfl) 9 w (Go.Lib.splitB a1 a1.size (Go.Lib.countB a0 a1) a0) (by rw [hlen]; unfold maxLen; omega)
   rw [hlen] at HC HR
   generalize Go.Lib.splitB a1 a1.size (Go.Lib.countB a0 a1) a0 = L at HC HR ⊢
   clear hN hfull hlen
   go_enter Tryd.func64, Tryd.ntmps64
   go_wp2_with (go_at_call 77; refine HC.mono ?_; rintro e w' ⟨rfl, rfl⟩)
   go_ret
   exact ⟨_, rfl, HR, below_alloc (Below.refl _ _) _⟩
  ·cases h
 ·cases h


end Go.Proofs.YtkmfnmeilooogaaDoor.P


namespace Go.Proofs.YtkmfnmeilooogaaDoor.P
open Go.RowKit Go.Proofs.YtkmfnmeilooogaaDoorW.PrintWords Go.Proofs.YtkmfnmeilooogaaDoorW.PrintLast Go.Proofs.YtkmfnmeilooogaaDoorW.PrintMore
attribute [local go_sem] max2_int min2_int max_two min_two max_three min_three max_four min_four
set_option linter.unusedVariables false
set_option linter.unusedSimpArgs false

/-! ### impl_Lines: function 28 -/
def impl_Lines.f (a0 : ByteArray) : Option (List ByteArray) := if (a0.size : Int) > 1500 then (some ([] : List ByteArray)) else ((strings_SplitAfter.f a0 (⟨#[10]⟩ : ByteArray)).bind fun t236 => (if 0 ≤ (wrap64 ((t236.length : Int) - 1)) then (if (wrap64 ((t236.length : Int) - 1)) < (t236.length : Int) then (if (rdOf ByteArray.empty t236 (wrap64 ((t236.length : Int) - 1))).toList = ([] : List UInt8) then (if (wrap64 ((t236.length : Int) - 1)) ≤ (t236.length : Int) then (some (t236.take ((wrap64 ((t236.length : Int) - 1)) : Int).toNat)) else (none)) else (some t236)) else (none)) else (none)))
set_option maxHeartbeats 8000000 in
set_option maxRecDepth 100000 in
theorem impl_Lines.calls (a0 : ByteArray) (r : List ByteArray) (w : World) (hg : GOK w) (h : impl_Lines.f a0 = some r) :
  Calls Tryd.prog 28 #[.string a0] w fun e w' => ∃ v0_ : Value, e = .returned (v0_) ∧ Kd.R Kd.string 9 w' w.heap.size (fun _ => True) v0_ r ∧ Below w.heap.size w w' := by
 have HG := Aside0.mk hg
 clear hg
 have HB := Aside0.mk (Below.refl w.heap.size w)
 have H : (if (a0.size : Int) > 1500 then (some ([] : List ByteArray)) else ((strings_SplitAfter.f a0 (⟨#[10]⟩ : ByteArray)).bind fun t236 => (if 0 ≤ (wrap64 ((t236.length : Int) - 1)) then (if (wrap64 ((t236.length : Int) - 1)) < (t236.length : Int) then (if (rdOf ByteArray.empty t236 (wrap64 ((t236.length : Int) - 1))).toList = ([] : List UInt8) then (if (wrap64 ((t236.length : Int) - 1)) ≤ (t236.length : Int) then (some (t236.take ((wrap64 ((t236.length : Int) - 1)) : Int).toNat)) else (none)) else (some t236)) else (none)) else (none)))) = some r := h
 clear h
 by_cases c2 : (a0.size : Int) > 1500
 ·rw [if_pos c2] at H
  have c2b0 : decide (1500 < (a0.size : Int)) = true := decide_eq_true c2
  have c2b1 : decide (1500 < a0.size) = true := decide_eq_true (by omega)
  clear c2
  obtain rfl := Option.some.inj H
  go_enter Tryd.func28, Tryd.ntmps28
  go_wp2
  go_ret
  exact ⟨_, Ye2, nl, be HB.out⟩
 ·rw [if_neg c2] at H
  have c2b0 : decide (1500 < (a0.size : Int)) = false := decide_eq_false c2
  have c2b1 : decide (1500 < a0.size) = false := decide_eq_false (by omega)
  clear c2
  replace H := Option.bind_eq_some_iff.mp H
  obtain ⟨t236, A30, H⟩ := H
  replace H : (if 0 ≤ (wrap64 ((t236.length : Int) - 1)) then (if (wrap64 ((t236.length : Int) - 1)) < (t236.length : Int) then (if (rdOf ByteArray.empty t236 (wrap64 ((t236.length : Int) - 1))).toList = ([] : List UInt8) then (if (wrap64 ((t236.length : Int) - 1)) ≤ (t236.length : Int) then (some (t236.take ((wrap64 ((t236.length : Int) - 1)) : Int).toNat)) else (none)) else (some t236)) else (none)) else (none)) = some r := H
  have A3 := Aside0.mk A30
  clear A30
  obtain ⟨ji4, hji4⟩ : ∃ j_ : Int, (wrap64 ((t236.length : Int) - 1)) = j_ := ⟨_, rfl⟩
  replace H : (if 0 ≤ (ji4) then (if (ji4) < (t236.length : Int) then (if (rdOf ByteArray.empty t236 (ji4)).toList = ([] : List UInt8) then (if (ji4) ≤ (t236.length : Int) then (some (t236.take ((ji4) : Int).toNat)) else (none)) else (some t236)) else (none)) else (none)) = some r := by first | (rw [hji4] at H; exact H) | (simp only [hji4] at H ⊢; exact H)
  (try rw [hji4] at A3)
  have hji4w : (IntKind.i64.wrap ((t236.length : Int) - 1)) = ji4 := (i64_w _).trans hji4
  by_cases c5 : 0 ≤ (ji4)
  ·rw [if_pos c5] at H
   have c5b0 : decide (0 ≤ (ji4)) = true := decide_eq_true c5
   clear c5
   by_cases c6 : (ji4) < (t236.length : Int)
   ·rw [if_pos c6] at H
    have c6b0 : decide ((ji4) < (t236.length : Int)) = true := decide_eq_true c6
    clear c6
    by_cases c7 : (rdOf ByteArray.empty t236 (ji4)).toList = ([] : List UInt8)
    ·rw [if_pos c7] at H
     have c7b0 : ((rdOf ByteArray.empty t236 (ji4)).toList == ([] : List UInt8)) = true := beq_iff_eq.mpr c7
     have c7b1 : ((rdOf ByteArray.empty t236 (ji4)).toList != ([] : List UInt8)) = false := bne_eq_false_iff_eq.mpr c7
     clear c7
     by_cases c8 : (ji4) ≤ (t236.length : Int)
     ·rw [if_pos c8] at H
      have c8b0 := eq_true c8
      have c8b1 : decide ((ji4) ≤ (t236.length : Int)) = true := decide_eq_true c8
      clear c8
      obtain ⟨y240, hy240⟩ : ∃ y_ : List ByteArray, y_ = (t236.take ((ji4) : Int).toNat) := ⟨_, rfl⟩
      replace H : (some y240) = some r := by first | (rw [hy240]; with_reducible exact H) | (have H2_ := (Option.bind_some _ _).symm.trans H; rw [hy240]; with_reducible exact H2_) | (have H2_ := (Option.bind_some _ _).symm.trans H; with_reducible exact H2_) | with_reducible exact H | (rw [hy240]; exact H) | exact H
      have Ny240 := Aside0.mk hy240
      clear hy240
      obtain rfl := Option.some.inj H
      go_enter Tryd.func28, Tryd.ntmps28
      go_wp2_with (first | ((with_reducible refine gc 64 rfl ?_); refine gl (some 8) _ (#[.string a0, .string (⟨#[10]⟩ : ByteArray)]) Tryd.func64 ?_; (with_reducible refine (strings_SplitAfter.calls a0 (⟨#[10]⟩ : ByteArray) t236 _ ?sideG A3.out).mono ?_); (case sideG => exact gk HG.out HB.out); rintro e w9 ⟨v237, rfl, ho0, hb⟩; refine ⟨_, rfl, ?_⟩; refine Ya2 (Kd.R_lower ho0 (below_size (be HB.out))) (below_step (be HB.out) hb) ?_; clear HB; intro HO238 HB; (try clear hb); (try clear hb2); (try clear hk); (try clear hi); (try clear ho0); obtain ⟨Ao10, co10, eo10⟩ := Kd.R_slice HO238.out; subst eo10; have p239 : 0 ≤ ((ji4) : Int) := oda; have q239 : (ji4) < (t236.length : Int) := oda; obtain ⟨ad239, e239, hx239_0⟩ := Kd.at_string (Kd.R_reads' HO238.out).2.2 (ji4) p239 q239; cases e239; replace p239 := eq_true p239; replace q239 := eq_true q239; have q11 : ((ji4) : Int) ≤ ((t236.length : Int) : Int) := oda; obtain ⟨i011, hi011, _, hsz11, _⟩ := info_parts info9; have hcut11 := cut_to (P := Tryd.prog) 29 9 .i64 Tryd.underlying29 hi011 (some ad239) t236.length co10 (ji4) (oda) q11 (Kd.R_reads' HO238.out).2.1; have hr11 := Kd.R_take (m := ((ji4) : Int).toNat) HO238.out (by omega); have hy11 : y240.length = ((ji4) : Int).toNat := (by rw [Ny240.out, List.length_take]; omega); rw [← Ny240.out] at hr11; rw [← hy11] at hr11 hcut11; clear hy11 hi011 hsz11 HO238; have HO242 := Aside0.mk hr11; clear hr11; replace q11 := eq_true q11))
      go_ret
      exact ⟨_, by first | rfl | (simp [errW_none, errW_some] <;> rfl) | (simp only [← hji4]; first | rfl | (simp [errW_none, errW_some] <;> rfl)) | (simp [*, errW_none, errW_some] <;> rfl), kr HO242.out, be HB.out⟩
     ·rw [if_neg c8] at H
      exact absurd H (by simp)
    ·rw [if_neg c7] at H
     have c7b0 : ((rdOf ByteArray.empty t236 (ji4)).toList == ([] : List UInt8)) = false := beq_eq_false_iff_ne.mpr c7
     have c7b1 : ((rdOf ByteArray.empty t236 (ji4)).toList != ([] : List UInt8)) = true := bne_iff_ne.mpr c7
     obtain rfl := Option.some.inj H
     go_enter Tryd.func28, Tryd.ntmps28
     go_wp2_with (first | ((with_reducible refine gc 64 rfl ?_); refine gl (some 8) _ (#[.string a0, .string (⟨#[10]⟩ : ByteArray)]) Tryd.func64 ?_; (with_reducible refine (strings_SplitAfter.calls a0 (⟨#[10]⟩ : ByteArray) t236 _ ?sideG A3.out).mono ?_); (case sideG => exact gk HG.out HB.out); rintro e w12 ⟨v237, rfl, ho0, hb⟩; refine ⟨_, rfl, ?_⟩; refine Ya2 (Kd.R_lower ho0 (below_size (be HB.out))) (below_step (be HB.out) hb) ?_; clear HB; intro HO238 HB; (try clear hb); (try clear hb2); (try clear hk); (try clear hi); (try clear ho0); obtain ⟨Ao13, co13, eo13⟩ := Kd.R_slice HO238.out; subst eo13; have p239 : 0 ≤ ((ji4) : Int) := oda; have q239 : (ji4) < (t236.length : Int) := oda; obtain ⟨ad239, e239, hx239_0⟩ := Kd.at_string (Kd.R_reads' HO238.out).2.2 (ji4) p239 q239; cases e239; replace p239 := eq_true p239; replace q239 := eq_true q239))
     go_ret
     exact ⟨_, by first | rfl | (simp [errW_none, errW_some] <;> rfl) | (simp only [← hji4]; first | rfl | (simp [errW_none, errW_some] <;> rfl)) | (simp [*, errW_none, errW_some] <;> rfl), kr HO238.out, be HB.out⟩
   ·rw [if_neg c6] at H
    exact absurd H (by simp)
  ·rw [if_neg c5] at H
   exact absurd H (by simp)

end Go.Proofs.YtkmfnmeilooogaaDoor.P


namespace Go.Proofs.YtkmfnmeilooogaaDoor.P
open Go.RowKit Go.Proofs.YtkmfnmeilooogaaDoorW.PrintWords Go.Proofs.YtkmfnmeilooogaaDoorW.PrintLast Go.Proofs.YtkmfnmeilooogaaDoorW.PrintMore
attribute [local go_sem] max2_int min2_int max_two min_two max_three min_three max_four min_four
set_option linter.unusedVariables false
set_option linter.unusedSimpArgs false

/-! ### strings_Join: function 30 -/
/- The shelf's contract, told of rows. -/
/-- A row of texts, cell by cell. -/
theorem Tx.row {w : World} {A : Option Addr} {l : List ByteArray} (h : Kd.C Kd.string w A l.length l) (hp : 0 < l.length) : ∃ b o, A = some ⟨b, o, none⟩ ∧ b < w.heap.size ∧ ∀ (j : Nat) x, l[j]? = some x → w.cell? ⟨b, o + j, none⟩ = some (.string x) := by
 obtain ⟨ad, e, h1⟩ := Kd.at_string h 0 (by omega) (by omega)
 subst e
 obtain ⟨b, off, el⟩ := ad
 have hel : el = none := by
  cases el with
  | none => rfl
  | some x =>
   simp [World.cell?, Addr.add] at h1
   split at h1 <;> cases h1
 subst hel
 refine ⟨b, off, rfl, World.block_lt_of_cell? w _ h1, fun j x hj => ?_⟩
 have hlt := (List.getElem?_eq_some_iff.1 hj).1
 obtain ⟨ad, e, h1⟩ := Kd.at_string h (j : Int) (by omega) (by omega)
 cases e
 rw [Int.toNat_natCast] at h1
 have e2 : rdOf ByteArray.empty l (j : Int) = x := by
  unfold rdOf
  rw [Int.toNat_natCast, List.getD_eq_getElem?_getD, hj]
  rfl
 rw [e2] at h1
 by_cases hj0 : j = 0
 ·subst hj0
  simpa [Addr.add] using h1
 ·simpa [Addr.add, hj0] using h1
def strings_Join.f (l0 : List ByteArray) (a1 : ByteArray) : Option ByteArray := if l0.length ≤ 140737488355328 ∧ (Lib.join (l0.map (·.data.toList)) a1.data.toList).length ≤ 140737488355328 then some ⟨(Lib.join (l0.map (·.data.toList)) a1.data.toList).toArray⟩ else none
theorem strings_Join.calls (A0 : Option Addr) (c0 : Nat) (l0 : List ByteArray) (a1 : ByteArray) (r : ByteArray) (w : World) (hr0 : Kd.C Kd.string w A0 l0.length l0) (hc0 : l0.length ≤ c0) (h : strings_Join.f l0 a1 = some r) :
  Calls Tryd.prog 30 #[.slice A0 l0.length c0, .string a1] w fun e w' => e = .returned (.string r) ∧ Below w.heap.size w w' := by
 unfold strings_Join.f at h
 split at h
 ·rename_i hz
  obtain rfl := Option.some.inj h
  match l0, hr0, hc0, hz with
  | [], _, _, _ => exact (Tryd.strings_Join_none _ c0 a1 w).mono fun e w' ⟨he, hw⟩ => ⟨he, hw ▸ Below.refl _ _⟩
  | x :: r, hr0, hc0, hz =>
   obtain ⟨b, o, rfl, hb, hc⟩ := Tx.row hr0 (by simp)
   exact Tryd.strings_Join b o c0 (x :: r) a1 w hc hb hz.1 hc0 hz.2
 ·cases h


end Go.Proofs.YtkmfnmeilooogaaDoor.P


namespace Go.Proofs.YtkmfnmeilooogaaDoor.P
open Go.RowKit Go.Proofs.YtkmfnmeilooogaaDoorW.PrintWords Go.Proofs.YtkmfnmeilooogaaDoorW.PrintLast Go.Proofs.YtkmfnmeilooogaaDoorW.PrintMore
attribute [local go_sem] max2_int min2_int max_two min_two max_three min_three max_four min_four
set_option linter.unusedVariables false
set_option linter.unusedSimpArgs false

/-! ### slices_Equal_string_string: function 31 -/
/- The shelf's walk, told of rows. -/
theorem slices_Equal_string_string.calls (A0 : Option Addr) (c0 : Nat) (l0 : List ByteArray) (A1 : Option Addr) (c1 : Nat) (l1 : List ByteArray) (w : World) (hr0 : Kd.C Kd.string w A0 l0.length l0) (hr1 : Kd.C Kd.string w A1 l1.length l1) :
  Calls Tryd.prog 31 #[.slice A0 l0.length c0, .slice A1 l1.length c1] w fun e w' => e = .returned (.bool (decide (l0 = l1))) ∧ ∃ q, w' = w.drewN q := by
 have cells : ∀ {A : Option Addr} {l : List ByteArray}, Kd.C Kd.string w A l.length l → 0 < l.length → ∃ b o, A = some ⟨b, o, none⟩ ∧ ∀ j, j < l.length → w.cell? ⟨b, o + j, none⟩ = some (.string (l.getD j ByteArray.empty)) := by
  intro A l h hp
  obtain ⟨b, o, rfl, _, hc⟩ := Tx.row h hp
  refine ⟨b, o, rfl, fun j hj => ?_⟩
  rw [List.getD_eq_getElem?_getD, List.getElem?_eq_getElem hj]
  exact hc j _ (List.getElem?_eq_getElem hj)
 by_cases h0 : l0 = []
 ·subst h0
  refine (Tryd.slices_Equal_string_empty A0 A1 c0 l1.length c1 w (Kd.C_max hr1)).mono ?_
  rintro e w' ⟨rfl, rfl⟩
  refine ⟨?_, 0, rfl⟩
  cases l1 with
  | nil => rfl
  | cons a t => simp
 ·have p0 : 0 < l0.length := List.length_pos_iff.2 h0
  obtain ⟨b, o, rfl, hc⟩ := cells hr0 p0
  by_cases h1 : l1 = []
  ·subst h1
   have hl : ¬ ((l0.length : Int) = 0) := by omega
   have hl1 : ((l0.length : Int) == 0) = false := beq_eq_false_iff_ne.2 hl
   have hl2 : ((l0.length : Int) != 0) = true := bne_iff_ne.2 hl
   rw [List.length_nil]
   go_enter Tryd.func31, Tryd.ntmps31
   go_wp2
   go_ret
   refine ⟨?_, 0, rfl⟩
   rw [decide_eq_false h0]
   rfl
  ·obtain ⟨b', o', rfl, hc'⟩ := cells hr1 (List.length_pos_iff.2 h1)
   refine (Tryd.slices_Equal_string b o l0.length c0 b' o' l1.length c1 l0 l1 w (Nat.le_refl _) (Nat.le_refl _) (Kd.C_max hr0) (Kd.C_max hr1) hc hc').mono ?_
   rintro e w' ⟨rfl, h⟩
   rw [List.take_length, List.take_length]
   exact ⟨rfl, h⟩


end Go.Proofs.YtkmfnmeilooogaaDoor.P


namespace Go.Proofs.YtkmfnmeilooogaaDoor.P
open Go.RowKit Go.Proofs.YtkmfnmeilooogaaDoorW.PrintWords Go.Proofs.YtkmfnmeilooogaaDoorW.PrintLast Go.Proofs.YtkmfnmeilooogaaDoorW.PrintMore
attribute [local go_sem] max2_int min2_int max_two min_two max_three min_three max_four min_four
set_option linter.unusedVariables false
set_option linter.unusedSimpArgs false

/-! ### spec_l7First: function 62 -/
mutual
def spec_l7First.l0 : Nat → List ByteArray → List ByteArray → List (List Int) → Int → Int → Int → Option (Int × Int)
 | 0, _, _, _, _, _, _ => none
 | k + 1, x0, x1, x2, x3, x4, x11 => if x11 < (x0.length : Int) then (spec_l7First.l1 k x0 x1 x2 x3 x4 x11 x4) else (some (0, 0))
def spec_l7First.l1 : Nat → List ByteArray → List ByteArray → List (List Int) → Int → Int → Int → Int → Option (Int × Int)
 | 0, _, _, _, _, _, _, _ => none
 | k + 1, x0, x1, x2, x3, x4, x11, x12 => if x12 < (x1.length : Int) then (if 0 ≤ x11 then (if x11 < (x0.length : Int) then (if 0 ≤ x12 then (if (rdOf ByteArray.empty x0 x11).toList = (rdOf ByteArray.empty x1 x12).toList then (if 0 ≤ (wrap64 (x11 + 1)) then (if (wrap64 (x11 + 1)) < (x2.length : Int) then (if 0 ≤ (wrap64 (x12 + 1)) then (if (wrap64 (x12 + 1)) < ((rd_L2 x2 (wrap64 (x11 + 1))).length : Int) then (if 0 ≤ x3 then (if x3 < (x2.length : Int) then (if 0 ≤ x4 then (if x4 < ((rd_L2 x2 x3).length : Int) then (if (wrap64 ((rd (rd_L2 x2 (wrap64 (x11 + 1))) (wrap64 (x12 + 1))) + 1)) = (rd (rd_L2 x2 x3) x4) then (some (x11, x12)) else (spec_l7First.l1 k x0 x1 x2 x3 x4 x11 (wrap64 (x12 + 1)))) else (none)) else (none)) else (none)) else (none)) else (none)) else (none)) else (none)) else (none)) else (spec_l7First.l1 k x0 x1 x2 x3 x4 x11 (wrap64 (x12 + 1)))) else (none)) else (none)) else (none)) else (spec_l7First.l0 k x0 x1 x2 x3 x4 (wrap64 (x11 + 1)))
end
def spec_l7First.f (k : Nat) (l0 : List ByteArray) (l1 : List ByteArray) (l2 : List (List Int)) (a3 : Int) (a4 : Int) : Option (Int × Int) := spec_l7First.l0 k l0 l1 l2 a3 a4 a3
theorem spec_l7First.mono_l : ∀ k, (∀ y0 y1 y2 y3 y4 y5, LeO (spec_l7First.l0 k y0 y1 y2 y3 y4 y5) (spec_l7First.l0 (k + 1) y0 y1 y2 y3 y4 y5)) ∧ (∀ y0 y1 y2 y3 y4 y5 y6, LeO (spec_l7First.l1 k y0 y1 y2 y3 y4 y5 y6) (spec_l7First.l1 (k + 1) y0 y1 y2 y3 y4 y5 y6))
 | 0 => ⟨fun _ _ _ _ _ _ r h => by simp [spec_l7First.l0] at h, fun _ _ _ _ _ _ _ r h => by simp [spec_l7First.l1] at h⟩
 | k + 1 => by
  obtain ⟨ih0, ih1⟩ := spec_l7First.mono_l k
  refine ⟨?_, ?_⟩
  ·intro y0 y1 y2 y3 y4 y5
   unfold spec_l7First.l0
   repeat' first
   | (with_reducible exact ih0 _ _ _ _ _ _)
   | (with_reducible exact ih1 _ _ _ _ _ _ _)
   | (with_reducible exact LeO.refl _)
   | (with_reducible exact LeO.none _)
   | (with_reducible refine LeO.ite ?_ ?_)
   | (with_reducible refine LeO.bind ?_ (fun _ => ?_))
   | exact ih0 _ _ _ _ _ _
   | exact ih1 _ _ _ _ _ _ _
   | exact LeO.none _
   | refine LeO.ite ?_ ?_
   | refine LeO.bind ?_ (fun _ => ?_)
  ·intro y0 y1 y2 y3 y4 y5 y6
   unfold spec_l7First.l1
   repeat' first
   | (with_reducible exact ih0 _ _ _ _ _ _)
   | (with_reducible exact ih1 _ _ _ _ _ _ _)
   | (with_reducible exact LeO.refl _)
   | (with_reducible exact LeO.none _)
   | (with_reducible refine LeO.ite ?_ ?_)
   | (with_reducible refine LeO.bind ?_ (fun _ => ?_))
   | exact ih0 _ _ _ _ _ _
   | exact ih1 _ _ _ _ _ _ _
   | exact LeO.none _
   | refine LeO.ite ?_ ?_
   | refine LeO.bind ?_ (fun _ => ?_)
theorem spec_l7First.mono : ∀ a0 a1 a2 a3 a4 k, LeO (spec_l7First.f k a0 a1 a2 a3 a4) (spec_l7First.f (k + 1) a0 a1 a2 a3 a4) := by
 intro a0 a1 a2 a3 a4 k
 obtain ⟨ih0, ih1⟩ := spec_l7First.mono_l k
 unfold spec_l7First.f
 repeat' first
   | (with_reducible exact ih0 _ _ _ _ _ _)
   | (with_reducible exact ih1 _ _ _ _ _ _ _)
   | (with_reducible exact LeO.refl _)
   | (with_reducible exact LeO.none _)
   | (with_reducible refine LeO.ite ?_ ?_)
   | (with_reducible refine LeO.bind ?_ (fun _ => ?_))
   | exact ih0 _ _ _ _ _ _
   | exact ih1 _ _ _ _ _ _ _
   | exact LeO.none _
   | refine LeO.ite ?_ ?_
   | refine LeO.bind ?_ (fun _ => ?_)
set_option maxHeartbeats 8000000 in
set_option maxRecDepth 100000 in
theorem spec_l7First.calls (k : Nat) (A0 : Option Addr) (c0 : Nat) (l0 : List ByteArray) (A1 : Option Addr) (c1 : Nat) (l1 : List ByteArray) (A2 : Option Addr) (c2 : Nat) (l2 : List (List Int)) (a3 : Int) (a4 : Int) (r1 : Int) (r2 : Int) (w : World) (hr0 : Kd.C Kd.string w A0 l0.length l0) (hc0 : l0.length ≤ c0) (hr1 : Kd.C Kd.string w A1 l1.length l1) (hc1 : l1.length ≤ c1) (hr2 : Kd.C (Kd.slice 3 (Kd.int .i64)) w A2 l2.length l2) (hc2 : l2.length ≤ c2) (h : spec_l7First.f k l0 l1 l2 a3 a4 = some (r1, r2)) :
  Calls Tryd.prog 62 #[.slice A0 l0.length c0, .slice A1 l1.length c1, .slice A2 l2.length c2, .int .i64 a3, .int .i64 a4] w fun e w' => e = .returned (.agg #[.int .i64 r1, .int .i64 r2]) ∧ Below w.heap.size w w' := by
 have hu63 := Tryd.underlying63
 have HR0 := Aside0.mk hr0
 have HC0 := Aside0.mk hc0
 clear hr0 hc0
 have HR1 := Aside0.mk hr1
 have HC1 := Aside0.mk hc1
 clear hr1 hc1
 have HR2 := Aside0.mk hr2
 have HC2 := Aside0.mk hc2
 clear hr2 hc2
 have HB := Aside0.mk (Below.refl w.heap.size w)
 have H : (spec_l7First.l0 k l0 l1 l2 a3 a4 a3) = some (r1, r2) := h
 clear h
 have H' := Aside0.mk H
 clear H
 go_enter Tryd.func62, Tryd.ntmps62
 go_wp2_with (first | ((with_reducible refine gd 10 rfl ?_); refine bx 10 63 (#[.int .i64 0, .int .i64 0]) ?_; intro gb169 hg w6 hbox hb; refine Ya4 (below_step (be HB.out) hb) (hbox) (bs hg (be HB.out)) (bs hg (be HB.out)) ?_; clear HB; intro HB BK169 GW169 GE169; clear hb hbox hg))
 repeat (go_quiet (first | ((with_reducible refine gd 10 rfl ?_); refine bx 10 63 (#[.int .i64 0, .int .i64 0]) ?_; intro gb169 hg w6 hbox hb; refine Ya4 (below_step (be HB.out) hb) (hbox) (bs hg (be HB.out)) (bs hg (be HB.out)) ?_; clear HB; intro HB BK169 GW169 GE169; clear hb hbox hg)); try go_wp2_with (first | ((with_reducible refine gd 10 rfl ?_); refine bx 10 63 (#[.int .i64 0, .int .i64 0]) ?_; intro gb169 hg w6 hbox hb; refine Ya4 (below_step (be HB.out) hb) (hbox) (bs hg (be HB.out)) (bs hg (be HB.out)) ?_; clear HB; intro HB BK169 GW169 GE169; clear hb hbox hg)))
 go_loopg [11] k (fun kq v11 w' => ∃ (x11_1 : Int) (x170000_1 : Int) (x170001_1 : Int), v11 = .int .i64 x11_1 ∧ Aside0 (spec_l7First.l0 kq l0 l1 l2 a3 a4 x11_1 = some (r1, r2)) ∧ Aside0 (kq ≤ k) ∧ Aside0 (w'.heap[gb169]? = some (.cells #[.int .i64 x170000_1, .int .i64 x170001_1] 63 (0, 0))) ∧ Aside0 (Below w.heap.size w w'))
 case atStart => exact ⟨(a3), (0), (0), Ye1, H', ⟨Nat.le_refl _⟩, ⟨bk BK169.out⟩, ⟨bf HB.out⟩⟩
 case round =>
  clear H'
  try clear c1
  try clear c2
  try clear p2
  try clear c6
  obtain ⟨x11_1, x170000_1, x170001_1, rfl, HA, HK1, BK169, HB⟩ := hrel
  cases gk with
  | zero => exact absurd HA.out (by simp [spec_l7First.l0])
  | succ k1 =>
   have H := HA.out
   clear HA
   simp only [spec_l7First.l0] at H
   by_cases c7 : x11_1 < (l0.length : Int)
   ·rw [if_pos c7] at H
    have c7b0 : decide (x11_1 < (l0.length : Int)) = true := decide_eq_true c7
    clear c7
    have H' := Aside0.mk H
    clear H
    go_wp2
    repeat (go_quiet (fail); try go_wp2)
    go_loopg [12] k1 (fun kq v12 w' => ∃ (x12_2 : Int) (x170000_2 : Int) (x170001_2 : Int), v12 = .int .i64 x12_2 ∧ Aside0 (spec_l7First.l1 kq l0 l1 l2 a3 a4 x11_1 x12_2 = some (r1, r2)) ∧ Aside0 (kq ≤ k1) ∧ Aside0 (w'.heap[gb169]? = some (.cells #[.int .i64 x170000_2, .int .i64 x170001_2] 63 (0, 0))) ∧ Aside0 (Below w.heap.size w w'))
    case atStart => exact ⟨(a4), (x170000_1), (x170001_1), Ye1, H', ⟨Nat.le_refl _⟩, ⟨bk BK169.out⟩, ⟨bf HB.out⟩⟩
    case round =>
     clear H'
     try clear c1
     try clear c2
     try clear p2
     try clear c6
     try clear c7
     try clear c7b0
     try clear p2
     obtain ⟨x12_2, x170000_2, x170001_2, rfl, HA, HK2, BK169, HB⟩ := hrel
     cases gk with
     | zero => exact absurd HA.out (by simp [spec_l7First.l1])
     | succ k2 =>
      have H := HA.out
      clear HA
      simp only [spec_l7First.l1] at H
      by_cases c8 : x12_2 < (l1.length : Int)
      ·rw [if_pos c8] at H
       have c8b0 : decide (x12_2 < (l1.length : Int)) = true := decide_eq_true c8
       clear c8
       by_cases c9 : 0 ≤ x11_1
       ·rw [if_pos c9] at H
        have c9b0 : decide (0 ≤ x11_1) = true := decide_eq_true c9
        clear c9
        by_cases c10 : x11_1 < (l0.length : Int)
        ·rw [if_pos c10] at H
         have c10b0 : decide (x11_1 < (l0.length : Int)) = true := decide_eq_true c10
         clear c10
         by_cases c11 : 0 ≤ x12_2
         ·rw [if_pos c11] at H
          have c11b0 : decide (0 ≤ x12_2) = true := decide_eq_true c11
          clear c11
          by_cases c12 : (rdOf ByteArray.empty l0 x11_1).toList = (rdOf ByteArray.empty l1 x12_2).toList
          ·rw [if_pos c12] at H
           have c12b0 : ((rdOf ByteArray.empty l0 x11_1).toList == (rdOf ByteArray.empty l1 x12_2).toList) = true := beq_iff_eq.mpr c12
           have c12b1 : ((rdOf ByteArray.empty l0 x11_1).toList != (rdOf ByteArray.empty l1 x12_2).toList) = false := bne_eq_false_iff_eq.mpr c12
           clear c12
           obtain ⟨ji13, hji13⟩ : ∃ j_ : Int, (wrap64 (x11_1 + 1)) = j_ := ⟨_, rfl⟩
           replace H : (if 0 ≤ (ji13) then (if (ji13) < (l2.length : Int) then (if 0 ≤ (wrap64 (x12_2 + 1)) then (if (wrap64 (x12_2 + 1)) < ((rd_L2 l2 (ji13)).length : Int) then (if 0 ≤ a3 then (if a3 < (l2.length : Int) then (if 0 ≤ a4 then (if a4 < ((rd_L2 l2 a3).length : Int) then (if (wrap64 ((rd (rd_L2 l2 (ji13)) (wrap64 (x12_2 + 1))) + 1)) = (rd (rd_L2 l2 a3) a4) then (some (x11_1, x12_2)) else (spec_l7First.l1 k2 l0 l1 l2 a3 a4 x11_1 (wrap64 (x12_2 + 1)))) else (none)) else (none)) else (none)) else (none)) else (none)) else (none)) else (none)) else (none)) = some (r1, r2) := by first | (rw [hji13] at H; exact H) | (simp only [hji13] at H ⊢; exact H)
           have hji13w : (IntKind.i64.wrap (x11_1 + 1)) = ji13 := (i64_w _).trans hji13
           by_cases c14 : 0 ≤ (ji13)
           ·rw [if_pos c14] at H
            have c14b0 : decide (0 ≤ (ji13)) = true := decide_eq_true c14
            clear c14
            by_cases c15 : (ji13) < (l2.length : Int)
            ·rw [if_pos c15] at H
             have c15b0 : decide ((ji13) < (l2.length : Int)) = true := decide_eq_true c15
             clear c15
             obtain ⟨ji16, hji16⟩ : ∃ j_ : Int, (wrap64 (x12_2 + 1)) = j_ := ⟨_, rfl⟩
             replace H : (if 0 ≤ (ji16) then (if (ji16) < ((rd_L2 l2 (ji13)).length : Int) then (if 0 ≤ a3 then (if a3 < (l2.length : Int) then (if 0 ≤ a4 then (if a4 < ((rd_L2 l2 a3).length : Int) then (if (wrap64 ((rd (rd_L2 l2 (ji13)) (ji16)) + 1)) = (rd (rd_L2 l2 a3) a4) then (some (x11_1, x12_2)) else (spec_l7First.l1 k2 l0 l1 l2 a3 a4 x11_1 ji16)) else (none)) else (none)) else (none)) else (none)) else (none)) else (none)) = some (r1, r2) := by first | (rw [hji16] at H; exact H) | (simp only [hji16] at H ⊢; exact H)
             have hji16w : (IntKind.i64.wrap (x12_2 + 1)) = ji16 := (i64_w _).trans hji16
             by_cases c17 : 0 ≤ (ji16)
             ·rw [if_pos c17] at H
              have c17b0 : decide (0 ≤ (ji16)) = true := decide_eq_true c17
              clear c17
              by_cases c18 : (ji16) < ((rd_L2 l2 (ji13)).length : Int)
              ·rw [if_pos c18] at H
               have c18b0 : decide ((ji16) < ((rd_L2 l2 (ji13)).length : Int)) = true := decide_eq_true c18
               clear c18
               by_cases c19 : 0 ≤ a3
               ·rw [if_pos c19] at H
                have c19b0 : decide (0 ≤ a3) = true := decide_eq_true c19
                clear c19
                by_cases c20 : a3 < (l2.length : Int)
                ·rw [if_pos c20] at H
                 have c20b0 : decide (a3 < (l2.length : Int)) = true := decide_eq_true c20
                 clear c20
                 by_cases c21 : 0 ≤ a4
                 ·rw [if_pos c21] at H
                  have c21b0 : decide (0 ≤ a4) = true := decide_eq_true c21
                  clear c21
                  by_cases c22 : a4 < ((rd_L2 l2 a3).length : Int)
                  ·rw [if_pos c22] at H
                   have c22b0 : decide (a4 < ((rd_L2 l2 a3).length : Int)) = true := decide_eq_true c22
                   clear c22
                   by_cases c23 : (wrap64 ((rd (rd_L2 l2 (ji13)) (ji16)) + 1)) = (rd (rd_L2 l2 a3) a4)
                   ·rw [if_pos c23] at H
                    have c23b0 : ((wrap64 ((rd (rd_L2 l2 (ji13)) (ji16)) + 1)) == (rd (rd_L2 l2 a3) a4)) = true := beq_iff_eq.mpr c23
                    have c23b1 : ((wrap64 ((rd (rd_L2 l2 (ji13)) (ji16)) + 1)) != (rd (rd_L2 l2 a3) a4)) = false := bne_eq_false_iff_eq.mpr c23
                    clear c23
                    simp only [Option.some.injEq, Prod.mk.injEq] at H
                    obtain ⟨rfl, rfl⟩ := H
                    have p170 : 0 ≤ (x11_1 : Int) := oda
                    have q170 : x11_1 < (l0.length : Int) := oda
                    obtain ⟨ad170, e170, hx170_0⟩ := Kd.at_string (Kd.C_below HR0.out HB.out) x11_1 p170 q170
                    cases e170
                    replace p170 := eq_true p170
                    replace q170 := eq_true q170
                    have p171 : 0 ≤ (x12_2 : Int) := oda
                    have q171 : x12_2 < (l1.length : Int) := oda
                    obtain ⟨ad171, e171, hx171_0⟩ := Kd.at_string (Kd.C_below HR1.out HB.out) x12_2 p171 q171
                    cases e171
                    replace p171 := eq_true p171
                    replace q171 := eq_true q171
                    have p172 : 0 ≤ ((ji13) : Int) := oda
                    have q172 : (ji13) < (l2.length : Int) := oda
                    obtain ⟨ad172, A172_0, c172_0, e172, hx172_0, hl172_0, hi172_0⟩ := at_L2 HR2.out (ji13) p172 q172
                    cases e172
                    replace hx172_0 := pw_cell_below HB.out hx172_0
                    have HR172_0 := Aside0.mk hi172_0
                    have HC172_0 := Aside0.mk hl172_0
                    clear hi172_0 hl172_0
                    replace p172 := eq_true p172
                    replace q172 := eq_true q172
                    have p173 : 0 ≤ ((ji16) : Int) := oda
                    have q173 : (ji16) < ((rd_L2 l2 (ji13)).length : Int) := oda
                    obtain ⟨ad173, e173, hx173_0⟩ := Kd.at_int (Kd.C_below HR172_0.out HB.out) (ji16) p173 q173
                    cases e173
                    replace p173 := eq_true p173
                    replace q173 := eq_true q173
                    have p174 : 0 ≤ (a3 : Int) := oda
                    have q174 : a3 < (l2.length : Int) := oda
                    obtain ⟨ad174, A174_0, c174_0, e174, hx174_0, hl174_0, hi174_0⟩ := at_L2 HR2.out a3 p174 q174
                    obtain rfl : ad172 = ad174 := (by injection e174)
                    replace hx174_0 := pw_cell_below HB.out hx174_0
                    have HR174_0 := Aside0.mk hi174_0
                    have HC174_0 := Aside0.mk hl174_0
                    clear hi174_0 hl174_0
                    replace p174 := eq_true p174
                    replace q174 := eq_true q174
                    have p175 : 0 ≤ (a4 : Int) := oda
                    have q175 : a4 < ((rd_L2 l2 a3).length : Int) := oda
                    obtain ⟨ad175, e175, hx175_0⟩ := Kd.at_int (Kd.C_below HR174_0.out HB.out) a4 p175 q175
                    cases e175
                    replace p175 := eq_true p175
                    replace q175 := eq_true q175
                    have ⟨hcz24_0, hcz24_1, hfz24_0, hfz24_1⟩ := Yc2 BK169.out
                    go_wp2
                    repeat (go_quiet (fail); try go_wp2)
                    refine bodyPost_ret (results_cell_row rfl _ _ gb169 63 #[.int .i64 x11_1, .int .i64 x12_2] (0, 0) _ rfl (bp BK169.out) Tryd.underlying63 rfl (by kernel_rfl)) rfl ?_
                    exact ⟨by first | rfl | (simp [errW_none, errW_some] <;> rfl) | (simp only [← hji13, ← hji16]; first | rfl | (simp [errW_none, errW_some] <;> rfl)) | (simp [*, errW_none, errW_some] <;> rfl), (bf HB.out)⟩
                   ·rw [if_neg c23] at H
                    have c23b0 : ((wrap64 ((rd (rd_L2 l2 (ji13)) (ji16)) + 1)) == (rd (rd_L2 l2 a3) a4)) = false := beq_eq_false_iff_ne.mpr c23
                    have c23b1 : ((wrap64 ((rd (rd_L2 l2 (ji13)) (ji16)) + 1)) != (rd (rd_L2 l2 a3) a4)) = true := bne_iff_ne.mpr c23
                    have H' := Aside0.mk H
                    clear H
                    have p170 : 0 ≤ (x11_1 : Int) := oda
                    have q170 : x11_1 < (l0.length : Int) := oda
                    obtain ⟨ad170, e170, hx170_0⟩ := Kd.at_string (Kd.C_below HR0.out HB.out) x11_1 p170 q170
                    cases e170
                    replace p170 := eq_true p170
                    replace q170 := eq_true q170
                    have p171 : 0 ≤ (x12_2 : Int) := oda
                    have q171 : x12_2 < (l1.length : Int) := oda
                    obtain ⟨ad171, e171, hx171_0⟩ := Kd.at_string (Kd.C_below HR1.out HB.out) x12_2 p171 q171
                    cases e171
                    replace p171 := eq_true p171
                    replace q171 := eq_true q171
                    have p172 : 0 ≤ ((ji13) : Int) := oda
                    have q172 : (ji13) < (l2.length : Int) := oda
                    obtain ⟨ad172, A172_0, c172_0, e172, hx172_0, hl172_0, hi172_0⟩ := at_L2 HR2.out (ji13) p172 q172
                    cases e172
                    replace hx172_0 := pw_cell_below HB.out hx172_0
                    have HR172_0 := Aside0.mk hi172_0
                    have HC172_0 := Aside0.mk hl172_0
                    clear hi172_0 hl172_0
                    replace p172 := eq_true p172
                    replace q172 := eq_true q172
                    have p173 : 0 ≤ ((ji16) : Int) := oda
                    have q173 : (ji16) < ((rd_L2 l2 (ji13)).length : Int) := oda
                    obtain ⟨ad173, e173, hx173_0⟩ := Kd.at_int (Kd.C_below HR172_0.out HB.out) (ji16) p173 q173
                    cases e173
                    replace p173 := eq_true p173
                    replace q173 := eq_true q173
                    have p174 : 0 ≤ (a3 : Int) := oda
                    have q174 : a3 < (l2.length : Int) := oda
                    obtain ⟨ad174, A174_0, c174_0, e174, hx174_0, hl174_0, hi174_0⟩ := at_L2 HR2.out a3 p174 q174
                    obtain rfl : ad172 = ad174 := (by injection e174)
                    replace hx174_0 := pw_cell_below HB.out hx174_0
                    have HR174_0 := Aside0.mk hi174_0
                    have HC174_0 := Aside0.mk hl174_0
                    clear hi174_0 hl174_0
                    replace p174 := eq_true p174
                    replace q174 := eq_true q174
                    have p175 : 0 ≤ (a4 : Int) := oda
                    have q175 : a4 < ((rd_L2 l2 a3).length : Int) := oda
                    obtain ⟨ad175, e175, hx175_0⟩ := Kd.at_int (Kd.C_below HR174_0.out HB.out) a4 p175 q175
                    cases e175
                    replace p175 := eq_true p175
                    replace q175 := eq_true q175
                    go_wp2
                    repeat (go_quiet (fail); try go_wp2)
                    go_roundg k2
                    case measure => have := HK1.out; have := HK2.out; omega
                    case rel => exact ⟨(ji16), (x170000_2), (x170001_2), (by first | rfl | (simp; done) | (simp only [← hji16] <;> (first | rfl | simp)) | (simp [*]; done)), (by first | exact H' | (subst hji16; exact H') | (simp only [← hji16] at H' ⊢; exact H')), ⟨by have := HK1.out; have := HK2.out; omega⟩, ⟨bk BK169.out⟩, ⟨bf HB.out⟩⟩
                  ·rw [if_neg c22] at H
                   exact absurd H (by simp)
                 ·rw [if_neg c21] at H
                  exact absurd H (by simp)
                ·rw [if_neg c20] at H
                 exact absurd H (by simp)
               ·rw [if_neg c19] at H
                exact absurd H (by simp)
              ·rw [if_neg c18] at H
               exact absurd H (by simp)
             ·rw [if_neg c17] at H
              exact absurd H (by simp)
            ·rw [if_neg c15] at H
             exact absurd H (by simp)
           ·rw [if_neg c14] at H
            exact absurd H (by simp)
          ·rw [if_neg c12] at H
           have c12b0 : ((rdOf ByteArray.empty l0 x11_1).toList == (rdOf ByteArray.empty l1 x12_2).toList) = false := beq_eq_false_iff_ne.mpr c12
           have c12b1 : ((rdOf ByteArray.empty l0 x11_1).toList != (rdOf ByteArray.empty l1 x12_2).toList) = true := bne_iff_ne.mpr c12
           have H' := Aside0.mk H
           clear H
           have p170 : 0 ≤ (x11_1 : Int) := oda
           have q170 : x11_1 < (l0.length : Int) := oda
           obtain ⟨ad170, e170, hx170_0⟩ := Kd.at_string (Kd.C_below HR0.out HB.out) x11_1 p170 q170
           cases e170
           replace p170 := eq_true p170
           replace q170 := eq_true q170
           have p171 : 0 ≤ (x12_2 : Int) := oda
           have q171 : x12_2 < (l1.length : Int) := oda
           obtain ⟨ad171, e171, hx171_0⟩ := Kd.at_string (Kd.C_below HR1.out HB.out) x12_2 p171 q171
           cases e171
           replace p171 := eq_true p171
           replace q171 := eq_true q171
           go_wp2
           repeat (go_quiet (fail); try go_wp2)
           go_roundg k2
           case measure => have := HK1.out; have := HK2.out; omega
           case rel => exact ⟨(wrap64 (x12_2 + 1)), (x170000_2), (x170001_2), Ye1, H', ⟨by have := HK1.out; have := HK2.out; omega⟩, ⟨bk BK169.out⟩, ⟨bf HB.out⟩⟩
         ·rw [if_neg c11] at H
          exact absurd H (by simp)
        ·rw [if_neg c10] at H
         exact absurd H (by simp)
       ·rw [if_neg c9] at H
        exact absurd H (by simp)
      ·rw [if_neg c8] at H
       have c8b0 : decide (x12_2 < (l1.length : Int)) = false := decide_eq_false c8
       clear c8
       have H' := Aside0.mk H
       clear H
       go_wp2
       repeat (go_quiet (fail); try go_wp2)
       go_roundg k2
       case measure => have := HK1.out; have := HK2.out; omega
       case rel => exact ⟨(wrap64 (x11_1 + 1)), (x170000_2), (x170001_2), Ye1, H', ⟨by have := HK1.out; have := HK2.out; omega⟩, ⟨bk BK169.out⟩, ⟨bf HB.out⟩⟩
   ·rw [if_neg c7] at H
    have c7b0 : decide (x11_1 < (l0.length : Int)) = false := decide_eq_false c7
    clear c7
    simp only [Option.some.injEq, Prod.mk.injEq] at H
    obtain ⟨rfl, rfl⟩ := H
    have ⟨hcz25_0, hcz25_1, hfz25_0, hfz25_1⟩ := Yc2 BK169.out
    go_wp2
    repeat (go_quiet (fail); try go_wp2)
    refine bodyPost_ret (results_cell_row rfl _ _ gb169 63 #[.int .i64 0, .int .i64 0] (0, 0) _ rfl (bp BK169.out) Tryd.underlying63 rfl (by kernel_rfl)) rfl ?_
    exact ⟨Ye2, (bf HB.out)⟩

end Go.Proofs.YtkmfnmeilooogaaDoor.P


namespace Go.Proofs.YtkmfnmeilooogaaDoor.P
open Go.RowKit Go.Proofs.YtkmfnmeilooogaaDoorW.PrintWords Go.Proofs.YtkmfnmeilooogaaDoorW.PrintLast Go.Proofs.YtkmfnmeilooogaaDoorW.PrintMore
attribute [local go_sem] max2_int min2_int max_two min_two max_three min_three max_four min_four
set_option linter.unusedVariables false
set_option linter.unusedSimpArgs false

theorem cell_at61 {w w1 : World} {n : Nat} (h : w.drewN n = w1) {a : Addr} {v : Value} (e : w.cell? a = some v) : w1.cell? a = some v := by subst h; exact e
/-! ### spec_l7Table: function 61 -/
mutual
def spec_l7Table.l0 : Nat → List ByteArray → List ByteArray → List (List Int) → Int → Option ((List (List Int)))
 | 0, _, _, _, _ => none
 | k + 1, x0, x1, x5, x6 => if x6 ≥ 0 then (if 0 ≤ (wrap64 ((x1.length : Int) + 1)) then (if (wrap64 ((x1.length : Int) + 1) : Int).toNat ≤ 35184372088832 then (if 0 ≤ x6 then (if x6 < (x5.length : Int) then (spec_l7Table.l1 k x0 x1 (x5.set (x6 : Int).toNat (List.replicate (wrap64 ((x1.length : Int) + 1) : Int).toNat 0)) x6 (wrap64 ((x1.length : Int) - 1))) else (none)) else (none)) else (none)) else (none)) else (some x5)
def spec_l7Table.l1 : Nat → List ByteArray → List ByteArray → List (List Int) → Int → Int → Option ((List (List Int)))
 | 0, _, _, _, _, _ => none
 | k + 1, x0, x1, x5, x6, x7 => if x7 ≥ 0 then (if 0 ≤ (wrap64 (x6 + 1)) then (if (wrap64 (x6 + 1)) < (x5.length : Int) then (if 0 ≤ x7 then (if x7 < ((rd_L2 x5 (wrap64 (x6 + 1))).length : Int) then (if 0 ≤ x6 then (if x6 < (x5.length : Int) then (if 0 ≤ (wrap64 (x7 + 1)) then (if (wrap64 (x7 + 1)) < ((rd_L2 x5 x6).length : Int) then (if (rd (rd_L2 x5 x6) (wrap64 (x7 + 1))) > (rd (rd_L2 x5 (wrap64 (x6 + 1))) x7) then (if x6 < (x0.length : Int) then (if x7 < (x1.length : Int) then (if (rdOf ByteArray.empty x0 x6).toList = (rdOf ByteArray.empty x1 x7).toList then (if (wrap64 (x7 + 1)) < ((rd_L2 x5 (wrap64 (x6 + 1))).length : Int) then (if (wrap64 ((rd (rd_L2 x5 (wrap64 (x6 + 1))) (wrap64 (x7 + 1))) + 1)) > (rd (rd_L2 x5 x6) (wrap64 (x7 + 1))) then (if x7 < ((rd_L2 x5 x6).length : Int) then (spec_l7Table.l1 k x0 x1 (x5.set (x6 : Int).toNat ((rd_L2 x5 x6).set (x7 : Int).toNat (wrap64 ((rd (rd_L2 x5 (wrap64 (x6 + 1))) (wrap64 (x7 + 1))) + 1)))) x6 (wrap64 (x7 - 1))) else (none)) else (if x7 < ((rd_L2 x5 x6).length : Int) then (spec_l7Table.l1 k x0 x1 (x5.set (x6 : Int).toNat ((rd_L2 x5 x6).set (x7 : Int).toNat (rd (rd_L2 x5 x6) (wrap64 (x7 + 1))))) x6 (wrap64 (x7 - 1))) else (none))) else (none)) else (if x7 < ((rd_L2 x5 x6).length : Int) then (spec_l7Table.l1 k x0 x1 (x5.set (x6 : Int).toNat ((rd_L2 x5 x6).set (x7 : Int).toNat (rd (rd_L2 x5 x6) (wrap64 (x7 + 1))))) x6 (wrap64 (x7 - 1))) else (none))) else (none)) else (none)) else (if x6 < (x0.length : Int) then (if x7 < (x1.length : Int) then (if (rdOf ByteArray.empty x0 x6).toList = (rdOf ByteArray.empty x1 x7).toList then (if (wrap64 (x7 + 1)) < ((rd_L2 x5 (wrap64 (x6 + 1))).length : Int) then (if (wrap64 ((rd (rd_L2 x5 (wrap64 (x6 + 1))) (wrap64 (x7 + 1))) + 1)) > (rd (rd_L2 x5 (wrap64 (x6 + 1))) x7) then (if x7 < ((rd_L2 x5 x6).length : Int) then (spec_l7Table.l1 k x0 x1 (x5.set (x6 : Int).toNat ((rd_L2 x5 x6).set (x7 : Int).toNat (wrap64 ((rd (rd_L2 x5 (wrap64 (x6 + 1))) (wrap64 (x7 + 1))) + 1)))) x6 (wrap64 (x7 - 1))) else (none)) else (if x7 < ((rd_L2 x5 x6).length : Int) then (spec_l7Table.l1 k x0 x1 (x5.set (x6 : Int).toNat ((rd_L2 x5 x6).set (x7 : Int).toNat (rd (rd_L2 x5 (wrap64 (x6 + 1))) x7))) x6 (wrap64 (x7 - 1))) else (none))) else (none)) else (if x7 < ((rd_L2 x5 x6).length : Int) then (spec_l7Table.l1 k x0 x1 (x5.set (x6 : Int).toNat ((rd_L2 x5 x6).set (x7 : Int).toNat (rd (rd_L2 x5 (wrap64 (x6 + 1))) x7))) x6 (wrap64 (x7 - 1))) else (none))) else (none)) else (none))) else (none)) else (none)) else (none)) else (none)) else (none)) else (none)) else (none)) else (none)) else (spec_l7Table.l0 k x0 x1 x5 (wrap64 (x6 - 1)))
end
def spec_l7Table.f (k : Nat) (l0 : List ByteArray) (l1 : List ByteArray) : Option ((List (List Int))) := if 0 ≤ (wrap64 ((l0.length : Int) + 1)) then (if (wrap64 ((l0.length : Int) + 1) : Int).toNat ≤ 11728124029610 then ((some (List.replicate (wrap64 ((l0.length : Int) + 1) : Int).toNat [] : List (List Int))).bind fun y110 => (if 0 ≤ (wrap64 ((l1.length : Int) + 1)) then (if (wrap64 ((l1.length : Int) + 1) : Int).toNat ≤ 35184372088832 then (if 0 ≤ (l0.length : Int) then (if (l0.length : Int) < (y110.length : Int) then (spec_l7Table.l0 k l0 l1 (y110.set ((l0.length : Int) : Int).toNat (List.replicate (wrap64 ((l1.length : Int) + 1) : Int).toNat 0)) (wrap64 ((l0.length : Int) - 1))) else (none)) else (none)) else (none)) else (none))) else (none)) else (none)
theorem spec_l7Table.mono_l : ∀ k, (∀ y0 y1 y2 y3, LeO (spec_l7Table.l0 k y0 y1 y2 y3) (spec_l7Table.l0 (k + 1) y0 y1 y2 y3)) ∧ (∀ y0 y1 y2 y3 y4, LeO (spec_l7Table.l1 k y0 y1 y2 y3 y4) (spec_l7Table.l1 (k + 1) y0 y1 y2 y3 y4))
 | 0 => ⟨fun _ _ _ _ r h => by simp [spec_l7Table.l0] at h, fun _ _ _ _ _ r h => by simp [spec_l7Table.l1] at h⟩
 | k + 1 => by
  obtain ⟨ih0, ih1⟩ := spec_l7Table.mono_l k
  refine ⟨?_, ?_⟩
  ·intro y0 y1 y2 y3
   unfold spec_l7Table.l0
   repeat' first
   | (with_reducible exact ih0 _ _ _ _)
   | (with_reducible exact ih1 _ _ _ _ _)
   | (with_reducible exact LeO.refl _)
   | (with_reducible exact LeO.none _)
   | (with_reducible refine LeO.ite ?_ ?_)
   | (with_reducible refine LeO.bind ?_ (fun _ => ?_))
   | exact ih0 _ _ _ _
   | exact ih1 _ _ _ _ _
   | exact LeO.none _
   | refine LeO.ite ?_ ?_
   | refine LeO.bind ?_ (fun _ => ?_)
  ·intro y0 y1 y2 y3 y4
   unfold spec_l7Table.l1
   repeat' first
   | (with_reducible exact ih0 _ _ _ _)
   | (with_reducible exact ih1 _ _ _ _ _)
   | (with_reducible exact LeO.refl _)
   | (with_reducible exact LeO.none _)
   | (with_reducible refine LeO.ite ?_ ?_)
   | (with_reducible refine LeO.bind ?_ (fun _ => ?_))
   | exact ih0 _ _ _ _
   | exact ih1 _ _ _ _ _
   | exact LeO.none _
   | refine LeO.ite ?_ ?_
   | refine LeO.bind ?_ (fun _ => ?_)
theorem spec_l7Table.mono : ∀ a0 a1 k, LeO (spec_l7Table.f k a0 a1) (spec_l7Table.f (k + 1) a0 a1) := by
 intro a0 a1 k
 obtain ⟨ih0, ih1⟩ := spec_l7Table.mono_l k
 unfold spec_l7Table.f
 repeat' first
   | (with_reducible exact ih0 _ _ _ _)
   | (with_reducible exact ih1 _ _ _ _ _)
   | (with_reducible exact LeO.refl _)
   | (with_reducible exact LeO.none _)
   | (with_reducible refine LeO.ite ?_ ?_)
   | (with_reducible refine LeO.bind ?_ (fun _ => ?_))
   | exact ih0 _ _ _ _
   | exact ih1 _ _ _ _ _
   | exact LeO.none _
   | refine LeO.ite ?_ ?_
   | refine LeO.bind ?_ (fun _ => ?_)
set_option maxHeartbeats 8000000 in
set_option maxRecDepth 100000 in
theorem spec_l7Table.calls (k : Nat) (A0 : Option Addr) (c0 : Nat) (l0 : List ByteArray) (A1 : Option Addr) (c1 : Nat) (l1 : List ByteArray) (r : List (List Int)) (w : World) (hr0 : Kd.C Kd.string w A0 l0.length l0) (hc0 : l0.length ≤ c0) (hr1 : Kd.C Kd.string w A1 l1.length l1) (hc1 : l1.length ≤ c1) (h : spec_l7Table.f k l0 l1 = some r) :
  Calls Tryd.prog 61 #[.slice A0 l0.length c0, .slice A1 l1.length c1] w fun e w' => ∃ v0_ : Value, e = .returned (v0_) ∧ Kd.S (Kd.slice 3 (Kd.int .i64)) 101 w' w.heap.size (fun _ => True) v0_ r ∧ Below w.heap.size w w' := by
 have HR0 := Aside0.mk hr0
 have HC0 := Aside0.mk hc0
 clear hr0 hc0
 have HR1 := Aside0.mk hr1
 have HC1 := Aside0.mk hc1
 clear hr1 hc1
 have HB := Aside0.mk (Below.refl w.heap.size w)
 have H : (if 0 ≤ (wrap64 ((l0.length : Int) + 1)) then (if (wrap64 ((l0.length : Int) + 1) : Int).toNat ≤ 11728124029610 then ((some (List.replicate (wrap64 ((l0.length : Int) + 1) : Int).toNat [] : List (List Int))).bind fun y110 => (if 0 ≤ (wrap64 ((l1.length : Int) + 1)) then (if (wrap64 ((l1.length : Int) + 1) : Int).toNat ≤ 35184372088832 then (if 0 ≤ (l0.length : Int) then (if (l0.length : Int) < (y110.length : Int) then (spec_l7Table.l0 k l0 l1 (y110.set ((l0.length : Int) : Int).toNat (List.replicate (wrap64 ((l1.length : Int) + 1) : Int).toNat 0)) (wrap64 ((l0.length : Int) - 1))) else (none)) else (none)) else (none)) else (none))) else (none)) else (none)) = some r := h
 clear h
 obtain ⟨ji3, hji3⟩ : ∃ j_ : Int, (wrap64 ((l0.length : Int) + 1)) = j_ := ⟨_, rfl⟩
 replace H : (if 0 ≤ (ji3) then (if (ji3 : Int).toNat ≤ 11728124029610 then ((some (List.replicate (ji3 : Int).toNat [] : List (List Int))).bind fun y110 => (if 0 ≤ (wrap64 ((l1.length : Int) + 1)) then (if (wrap64 ((l1.length : Int) + 1) : Int).toNat ≤ 35184372088832 then (if 0 ≤ (l0.length : Int) then (if (l0.length : Int) < (y110.length : Int) then (spec_l7Table.l0 k l0 l1 (y110.set ((l0.length : Int) : Int).toNat (List.replicate (wrap64 ((l1.length : Int) + 1) : Int).toNat 0)) (wrap64 ((l0.length : Int) - 1))) else (none)) else (none)) else (none)) else (none))) else (none)) else (none)) = some r := by first | (rw [hji3] at H; exact H) | (simp only [hji3] at H ⊢; exact H)
 have hji3w : (IntKind.i64.wrap ((l0.length : Int) + 1)) = ji3 := (i64_w _).trans hji3
 by_cases c4 : 0 ≤ (ji3)
 ·rw [if_pos c4] at H
  have c4b0 := eq_true c4
  have c4b1 : decide (0 ≤ (ji3)) = true := decide_eq_true c4
  clear c4
  by_cases c5 : (ji3 : Int).toNat ≤ 11728124029610
  ·rw [if_pos c5] at H
   have c5b0 := eq_true c5
   have c5b1 : decide ((ji3 : Int).toNat ≤ 11728124029610) = true := decide_eq_true c5
   clear c5
   obtain ⟨y110, hy110⟩ : ∃ y_ : List (List Int), y_ = (List.replicate (ji3 : Int).toNat []) := ⟨_, rfl⟩
   replace H : (if 0 ≤ (wrap64 ((l1.length : Int) + 1)) then (if (wrap64 ((l1.length : Int) + 1) : Int).toNat ≤ 35184372088832 then (if 0 ≤ (l0.length : Int) then (if (l0.length : Int) < (y110.length : Int) then (spec_l7Table.l0 k l0 l1 (y110.set ((l0.length : Int) : Int).toNat (List.replicate (wrap64 ((l1.length : Int) + 1) : Int).toNat 0)) (wrap64 ((l0.length : Int) - 1))) else (none)) else (none)) else (none)) else (none)) = some r := by first | (rw [hy110]; with_reducible exact H) | (have H2_ := (Option.bind_some _ _).symm.trans H; rw [hy110]; with_reducible exact H2_) | (have H2_ := (Option.bind_some _ _).symm.trans H; with_reducible exact H2_) | with_reducible exact H | (rw [hy110]; exact H) | exact H
   have Ny110 := Aside0.mk hy110
   clear hy110
   obtain ⟨ji6, hji6⟩ : ∃ j_ : Int, (wrap64 ((l1.length : Int) + 1)) = j_ := ⟨_, rfl⟩
   replace H : (if 0 ≤ (ji6) then (if (ji6 : Int).toNat ≤ 35184372088832 then (if 0 ≤ (l0.length : Int) then (if (l0.length : Int) < (y110.length : Int) then (spec_l7Table.l0 k l0 l1 (y110.set ((l0.length : Int) : Int).toNat (List.replicate (ji6 : Int).toNat 0)) (wrap64 ((l0.length : Int) - 1))) else (none)) else (none)) else (none)) else (none)) = some r := by first | (rw [hji6] at H; exact H) | (simp only [hji6] at H ⊢; exact H)
   have hji6w : (IntKind.i64.wrap ((l1.length : Int) + 1)) = ji6 := (i64_w _).trans hji6
   by_cases c7 : 0 ≤ (ji6)
   ·rw [if_pos c7] at H
    have c7b0 := eq_true c7
    have c7b1 : decide (0 ≤ (ji6)) = true := decide_eq_true c7
    clear c7
    by_cases c8 : (ji6 : Int).toNat ≤ 35184372088832
    ·rw [if_pos c8] at H
     have c8b0 := eq_true c8
     have c8b1 : decide ((ji6 : Int).toNat ≤ 35184372088832) = true := decide_eq_true c8
     clear c8
     obtain ⟨y113, hy113⟩ : ∃ y_ : List Int, y_ = (List.replicate (ji6 : Int).toNat 0) := ⟨_, rfl⟩
     replace H : (if 0 ≤ (l0.length : Int) then (if (l0.length : Int) < (y110.length : Int) then (spec_l7Table.l0 k l0 l1 (y110.set ((l0.length : Int) : Int).toNat y113) (wrap64 ((l0.length : Int) - 1))) else (none)) else (none)) = some r := by first | (rw [hy113]; with_reducible exact H) | (have H2_ := (Option.bind_some _ _).symm.trans H; rw [hy113]; with_reducible exact H2_) | (have H2_ := (Option.bind_some _ _).symm.trans H; with_reducible exact H2_) | with_reducible exact H | (rw [hy113]; exact H) | exact H
     have Ny113 := Aside0.mk hy113
     clear hy113
     by_cases c9 : 0 ≤ (l0.length : Int)
     ·rw [if_pos c9] at H
      have c9b0 : decide (0 ≤ (l0.length : Int)) = true := decide_eq_true c9
      have c9b1 : decide (0 ≤ l0.length) = true := decide_eq_true (by omega)
      clear c9
      by_cases c10 : (l0.length : Int) < (y110.length : Int)
      ·rw [if_pos c10] at H
       have c10b0 : decide ((l0.length : Int) < (y110.length : Int)) = true := decide_eq_true c10
       have c10b1 : decide (l0.length < y110.length) = true := decide_eq_true (Int.ofNat_lt.mp c10)
       clear c10
       obtain ⟨y116, hy116⟩ : ∃ y_ : List (List Int), y_ = (y110.set ((l0.length : Int) : Int).toNat y113) := ⟨_, rfl⟩
       replace H : (spec_l7Table.l0 k l0 l1 y116 (wrap64 ((l0.length : Int) - 1))) = some r := by first | (rw [hy116]; with_reducible exact H) | (have H2_ := (Option.bind_some _ _).symm.trans H; rw [hy116]; with_reducible exact H2_) | (have H2_ := (Option.bind_some _ _).symm.trans H; with_reducible exact H2_) | with_reducible exact H | (rw [hy116]; exact H) | exact H
       have Ny116 := Aside0.mk hy116
       clear hy116
       have H' := Aside0.mk H
       clear H
       go_enter Tryd.func61, Tryd.ntmps61
       go_wp2_with (first | ((with_reducible refine gd 12 rfl ?_); refine Kd.S_make (Kd.slice 3 (Kd.int .i64)) _ 101 rfl (N := 12) rfl 99 _ _ rfl ji3 rfl rfl Tryd.underlying99 (.slice none 0 0) 24 info101 rfl (by decide) (by omega) [] (ok := fun _ => True) (okp := fun _ => True) ⟨_, rfl, Kd.R_nil _ _ _ _ _⟩ (fun _ hk => hk) trivial (oda) (Nat.le_trans (Nat.mul_le_mul_right _ (oda : ji3.toNat ≤ 11728124029610)) (by omega)) (Below.refl _ _) (Nat.le_refl _) ?_; intro v111 w12 ho13 hb hg_ hnew_; clear hg_ hnew_; (first | rw [← Ny110.out] at ho13 | (simp only [Int.reduceToNat] at ho13; rw [← Ny110.out] at ho13)); refine Ya2 (Kd.S_lower ho13 (below_size (be HB.out))) (below_step (be HB.out) hb) ?_; clear HB; intro HO112 HB; clear hb ho13) | ((with_reducible refine gd 19 rfl ?_); refine Kd.R_make (Kd.int .i64) _ 3 rfl (N := 19) rfl 101 _ _ rfl ji6 rfl rfl Tryd.underlying101 (.int .i64 0) 8 info3 rfl (by decide) (by omega) 0 (ok := fun _ => True) (okp := fun _ => True) rfl (fun _ hk => hk) trivial (oda) (Nat.le_trans (Nat.mul_le_mul_right _ (oda : ji6.toNat ≤ 35184372088832)) (by omega)) (Below.refl _ _) (Nat.le_refl _) ?_; intro v114 w14 ho15 hb hg_ hnew_; have HSL114 := Aside0.mk (Kd.R_slice ho15); clear hg_ hnew_; (first | rw [← Ny113.out] at ho15 | (simp only [Int.reduceToNat] at ho15; rw [← Ny113.out] at ho15)); refine Ya3 (Kd.S_elder' (by (with_reducible repeat (first | apply Kd.S_alloc | apply Kd.S_drewN | apply Kd.S_drew)); exact HO112.out) (Kd.R_base ho15) hb) (Kd.R_lower ho15 (below_size (be HB.out))) (below_step (be HB.out) hb) ?_; clear HO112 HB; intro HO112 HO115 HB; clear hb ho15; have p11 : 0 ≤ ((l0.length : Int) : Int) := oda; have q11 : ((l0.length : Int) : Int) < ((y110.length : Int) : Int) := oda; obtain ⟨go11, co11, eo11, gb11, gl11, cl11, HG11⟩ := Kd.S_form HO112.out (by omega); (first | cases eo11 | (injection eo11 with ea_ en_ ec_; (first | subst ea_ | (injection ea_ with ea_; subst ea_)); subst ec_; clear en_)); have GB11 := Aside0.mk gb11; have GG11 := Aside0.mk HG11; clear gb11 gl11 HG11; obtain ⟨_, ce11, hcl11, hM11, hcc11, hfr11, _, _⟩ := Kd.S_elem HO112.out [] ((l0.length : Int) : Int) p11 q11; obtain ⟨ve11_0, rfl, ge11_0⟩ := hM11; have hx11_0 := hcc11 0 _ rfl; have hf11_0 := hfr11 0; (try simp only [show ((Kd.slice 3 (Kd.int .i64))).sz = 1 from rfl, Nat.mul_one, Nat.add_zero] at hx11_0); (try simp only [show ((Kd.slice 3 (Kd.int .i64))).sz = 1 from rfl, Nat.mul_one, Nat.add_zero] at hf11_0); (try clear hM11); clear hcl11 hcc11 hfr11; (try simp only [Int.toNat_natCast] at hx11_0); (try simp only [Int.toNat_natCast] at hf11_0); replace p11 := eq_true p11; replace q11 := eq_true q11; have n_ := Aside0.mk (Kd.S_mono (ok' := (fun k_ => some k_ ≠ (v114 : Value).ownBlock)) HO112.out (fun k_ hk => hk.2)); clear HO112; have HO112 := n_; clear n_; have HX16 := Aside0.mk (show Kd.S (Kd.slice 3 (Kd.int .i64)) 101 w14 w.heap.size (fun k_ => ((fun _ => True)) k_ ∧ ¬ ((fun k_ => some k_ = (v114 : Value).ownBlock)) k_) (.slice (some ⟨go11, 0, none⟩) y110.length co11) y110 from (by (with_reducible repeat (first | apply Kd.S_alloc | apply Kd.S_drewN | apply Kd.S_drew)); exact Kd.S_mono HO112.out (fun k_ hk => ⟨trivial, fun e_ => hk e_⟩))); obtain ⟨oki16, ce16, hcl16, hM16, hcc16, hfr16, hoki16, hH16⟩ := Kd.S_elem HX16.out [] ((l0.length : Int) : Int) (oda) (by have h_ : ((l0.length : Int) : Int) < ((y110.length : Int) : Int) := oda; first | exact h_ | (have e_ := (Kd.S_reads' HO112.out).1; omega) | simpa using h_); obtain ⟨ve16_0, rfl, ge16_0⟩ := hM16; have HP16 := Kd.S_seg hH16 (oda) (by have h_ : ((l0.length : Int) : Int) < ((y110.length : Int) : Int) := oda; first | exact h_ | (have e_ := (Kd.S_reads' HO112.out).1; omega) | simpa using h_) (seg := [v114]) (j := 0) (show 1 ≤ 1 from by decide) (x' := y113) (Kd.M_row (Kd.R_mono (Kd.R_tight rfl (Kd.R_mono (ok' := fun k_ => ((fun _ => True)) k_ ∧ k_ ≠ go11) (Kd.R_apart' (HO115.out) (Kd.S_typed HO112.out) (by decide)) (fun k_ hk => ⟨trivial, fun e_ => (hk.2) (by rw [e_]; rfl)⟩))) (fun _ h_ => Or.inr (h_)))) (fun _ hk => hk) (fun k_ hk_ => ((Kd.R_mono (ok' := fun k_ => ((fun _ => True)) k_ ∧ k_ ≠ go11) (Kd.R_apart' (HO115.out) (Kd.S_typed HO112.out) (by decide)) (fun k_ hk => ⟨trivial, fun e_ => (hk.2) (by rw [e_]; rfl)⟩))).1 k_ hk_.symm); have hx16_0 := hcc16 0 _ rfl; (try simp only [show ((Kd.slice 3 (Kd.int .i64))).sz = 1 from rfl, Nat.mul_one, Nat.add_zero] at hx16_0); have hf16_0 := hfr16 0; (try simp only [show ((Kd.slice 3 (Kd.int .i64))).sz = 1 from rfl, Nat.mul_one, Nat.add_zero] at hf16_0); (try clear hM16); clear hcl16 hcc16 hfr16 hoki16 hH16; (try simp only [show ((Kd.slice 3 (Kd.int .i64))).sz = 1 from rfl, Nat.mul_one, Nat.add_zero] at HP16)) | ((with_reducible refine gate_store (t := 101) (p := 20) rfl ?_); (try (rw [drewN_self w14]; generalize hq_ : World.drewN w14 _ = w14; have n0_ := Aside0.mk (Kd.S_at hq_ HO112.out); have n1_ := Aside0.mk (below_at hq_ HB.out); clear hq_ HO112 HB; have HO112 := n0_; have HB := n1_; clear n0_ n1_; (try (have n_ := Aside0.mk (Kd.S_mono (ok' := (fun k_ => some k_ ≠ (v114 : Value).ownBlock)) HO112.out (fun k_ hk => hk.2)); clear HO112; have HO112 := n_; clear n_)); (try (have HX16 := Aside0.mk (show Kd.S (Kd.slice 3 (Kd.int .i64)) 101 w14 w.heap.size (fun k_ => ((fun _ => True)) k_ ∧ ¬ ((fun k_ => some k_ = (v114 : Value).ownBlock)) k_) (.slice (some ⟨go11, 0, none⟩) y110.length co11) y110 from (by (with_reducible repeat (first | apply Kd.S_alloc | apply Kd.S_drewN | apply Kd.S_drew)); exact Kd.S_mono HO112.out (fun k_ hk => ⟨trivial, fun e_ => hk e_⟩))))); (try (obtain ⟨oki16, ce16, hcl16, hM16, hcc16, hfr16, hoki16, hH16⟩ := Kd.S_elem HX16.out [] ((l0.length : Int) : Int) (oda) (by have h_ : ((l0.length : Int) : Int) < ((y110.length : Int) : Int) := oda; first | exact h_ | (have e_ := (Kd.S_reads' HO112.out).1; omega) | simpa using h_))); (try (obtain ⟨ve16_0, rfl, ge16_0⟩ := hM16)); (try (have HP16 := Kd.S_seg hH16 (oda) (by have h_ : ((l0.length : Int) : Int) < ((y110.length : Int) : Int) := oda; first | exact h_ | (have e_ := (Kd.S_reads' HO112.out).1; omega) | simpa using h_) (seg := [v114]) (j := 0) (show 1 ≤ 1 from by decide) (x' := y113) (Kd.M_row (Kd.R_mono (Kd.R_tight rfl (Kd.R_mono (ok' := fun k_ => ((fun _ => True)) k_ ∧ k_ ≠ go11) (Kd.R_apart' (HO115.out) (Kd.S_typed HO112.out) (by decide)) (fun k_ hk => ⟨trivial, fun e_ => (hk.2) (by rw [e_]; rfl)⟩))) (fun _ h_ => Or.inr (h_)))) (fun _ hk => hk) (fun k_ hk_ => ((Kd.R_mono (ok' := fun k_ => ((fun _ => True)) k_ ∧ k_ ≠ go11) (Kd.R_apart' (HO115.out) (Kd.S_typed HO112.out) (by decide)) (fun k_ hk => ⟨trivial, fun e_ => (hk.2) (by rw [e_]; rfl)⟩))).1 k_ hk_.symm))); (try (have hx16_0 := hcc16 0 _ rfl)); (try (try simp only [show ((Kd.slice 3 (Kd.int .i64))).sz = 1 from rfl, Nat.mul_one, Nat.add_zero] at hx16_0)); (try (have hf16_0 := hfr16 0)); (try (try simp only [show ((Kd.slice 3 (Kd.int .i64))).sz = 1 from rfl, Nat.mul_one, Nat.add_zero] at hf16_0)); (try ((try clear hM16); clear hcl16 hcc16 hfr16 hoki16 hH16)); (try (try simp only [show ((Kd.slice 3 (Kd.int .i64))).sz = 1 from rfl, Nat.mul_one, Nat.add_zero] at HP16)))); refine store_event (t := 101) (p := 20) (v := ?vo_w17) (w1 := (w14.setCell ⟨go11, ((l0.length : Int) : Int).toNat, none⟩ (v114))) ?hg ?ho ?hn ?hr ?_; (case ho => rfl); (case hg => rfl); (case hn => rfl); (case hr => first | (go_simp; done) | (go_simp; rfl) | (obtain ⟨A_, c_, e_⟩ := HSL114.out; subst e_; first | (go_simp; done) | (go_simp; rfl))); intro w17 hw; have hg : w14.grownBy w17 (some go11) := (by rw [hw]; exact HP16.2); have hp_ : Kd.S (Kd.slice 3 (Kd.int .i64)) 101 w17 w.heap.size (fun _ => True) (.slice (some ⟨go11, 0, none⟩) y110.length co11) y116 := (by rw [hw, Ny116.out]; exact HP16.1); clear HP16; refine Ya2 (hp_) ((by rw [hw]; exact below_set (HB.out) GB11.out : Below w.heap.size w w17)) ?_; clear HO112 HB HO115; intro HO112 HB; clear hg hw hp_))
       repeat (go_quiet (first | ((with_reducible refine gd 12 rfl ?_); refine Kd.S_make (Kd.slice 3 (Kd.int .i64)) _ 101 rfl (N := 12) rfl 99 _ _ rfl ji3 rfl rfl Tryd.underlying99 (.slice none 0 0) 24 info101 rfl (by decide) (by omega) [] (ok := fun _ => True) (okp := fun _ => True) ⟨_, rfl, Kd.R_nil _ _ _ _ _⟩ (fun _ hk => hk) trivial (oda) (Nat.le_trans (Nat.mul_le_mul_right _ (oda : ji3.toNat ≤ 11728124029610)) (by omega)) (Below.refl _ _) (Nat.le_refl _) ?_; intro v111 w12 ho13 hb hg_ hnew_; clear hg_ hnew_; (first | rw [← Ny110.out] at ho13 | (simp only [Int.reduceToNat] at ho13; rw [← Ny110.out] at ho13)); refine Ya2 (Kd.S_lower ho13 (below_size (be HB.out))) (below_step (be HB.out) hb) ?_; clear HB; intro HO112 HB; clear hb ho13) | ((with_reducible refine gd 19 rfl ?_); refine Kd.R_make (Kd.int .i64) _ 3 rfl (N := 19) rfl 101 _ _ rfl ji6 rfl rfl Tryd.underlying101 (.int .i64 0) 8 info3 rfl (by decide) (by omega) 0 (ok := fun _ => True) (okp := fun _ => True) rfl (fun _ hk => hk) trivial (oda) (Nat.le_trans (Nat.mul_le_mul_right _ (oda : ji6.toNat ≤ 35184372088832)) (by omega)) (Below.refl _ _) (Nat.le_refl _) ?_; intro v114 w14 ho15 hb hg_ hnew_; have HSL114 := Aside0.mk (Kd.R_slice ho15); clear hg_ hnew_; (first | rw [← Ny113.out] at ho15 | (simp only [Int.reduceToNat] at ho15; rw [← Ny113.out] at ho15)); refine Ya3 (Kd.S_elder' (by (with_reducible repeat (first | apply Kd.S_alloc | apply Kd.S_drewN | apply Kd.S_drew)); exact HO112.out) (Kd.R_base ho15) hb) (Kd.R_lower ho15 (below_size (be HB.out))) (below_step (be HB.out) hb) ?_; clear HO112 HB; intro HO112 HO115 HB; clear hb ho15; have p11 : 0 ≤ ((l0.length : Int) : Int) := oda; have q11 : ((l0.length : Int) : Int) < ((y110.length : Int) : Int) := oda; obtain ⟨go11, co11, eo11, gb11, gl11, cl11, HG11⟩ := Kd.S_form HO112.out (by omega); (first | cases eo11 | (injection eo11 with ea_ en_ ec_; (first | subst ea_ | (injection ea_ with ea_; subst ea_)); subst ec_; clear en_)); have GB11 := Aside0.mk gb11; have GG11 := Aside0.mk HG11; clear gb11 gl11 HG11; obtain ⟨_, ce11, hcl11, hM11, hcc11, hfr11, _, _⟩ := Kd.S_elem HO112.out [] ((l0.length : Int) : Int) p11 q11; obtain ⟨ve11_0, rfl, ge11_0⟩ := hM11; have hx11_0 := hcc11 0 _ rfl; have hf11_0 := hfr11 0; (try simp only [show ((Kd.slice 3 (Kd.int .i64))).sz = 1 from rfl, Nat.mul_one, Nat.add_zero] at hx11_0); (try simp only [show ((Kd.slice 3 (Kd.int .i64))).sz = 1 from rfl, Nat.mul_one, Nat.add_zero] at hf11_0); (try clear hM11); clear hcl11 hcc11 hfr11; (try simp only [Int.toNat_natCast] at hx11_0); (try simp only [Int.toNat_natCast] at hf11_0); replace p11 := eq_true p11; replace q11 := eq_true q11; have n_ := Aside0.mk (Kd.S_mono (ok' := (fun k_ => some k_ ≠ (v114 : Value).ownBlock)) HO112.out (fun k_ hk => hk.2)); clear HO112; have HO112 := n_; clear n_; have HX16 := Aside0.mk (show Kd.S (Kd.slice 3 (Kd.int .i64)) 101 w14 w.heap.size (fun k_ => ((fun _ => True)) k_ ∧ ¬ ((fun k_ => some k_ = (v114 : Value).ownBlock)) k_) (.slice (some ⟨go11, 0, none⟩) y110.length co11) y110 from (by (with_reducible repeat (first | apply Kd.S_alloc | apply Kd.S_drewN | apply Kd.S_drew)); exact Kd.S_mono HO112.out (fun k_ hk => ⟨trivial, fun e_ => hk e_⟩))); obtain ⟨oki16, ce16, hcl16, hM16, hcc16, hfr16, hoki16, hH16⟩ := Kd.S_elem HX16.out [] ((l0.length : Int) : Int) (oda) (by have h_ : ((l0.length : Int) : Int) < ((y110.length : Int) : Int) := oda; first | exact h_ | (have e_ := (Kd.S_reads' HO112.out).1; omega) | simpa using h_); obtain ⟨ve16_0, rfl, ge16_0⟩ := hM16; have HP16 := Kd.S_seg hH16 (oda) (by have h_ : ((l0.length : Int) : Int) < ((y110.length : Int) : Int) := oda; first | exact h_ | (have e_ := (Kd.S_reads' HO112.out).1; omega) | simpa using h_) (seg := [v114]) (j := 0) (show 1 ≤ 1 from by decide) (x' := y113) (Kd.M_row (Kd.R_mono (Kd.R_tight rfl (Kd.R_mono (ok' := fun k_ => ((fun _ => True)) k_ ∧ k_ ≠ go11) (Kd.R_apart' (HO115.out) (Kd.S_typed HO112.out) (by decide)) (fun k_ hk => ⟨trivial, fun e_ => (hk.2) (by rw [e_]; rfl)⟩))) (fun _ h_ => Or.inr (h_)))) (fun _ hk => hk) (fun k_ hk_ => ((Kd.R_mono (ok' := fun k_ => ((fun _ => True)) k_ ∧ k_ ≠ go11) (Kd.R_apart' (HO115.out) (Kd.S_typed HO112.out) (by decide)) (fun k_ hk => ⟨trivial, fun e_ => (hk.2) (by rw [e_]; rfl)⟩))).1 k_ hk_.symm); have hx16_0 := hcc16 0 _ rfl; (try simp only [show ((Kd.slice 3 (Kd.int .i64))).sz = 1 from rfl, Nat.mul_one, Nat.add_zero] at hx16_0); have hf16_0 := hfr16 0; (try simp only [show ((Kd.slice 3 (Kd.int .i64))).sz = 1 from rfl, Nat.mul_one, Nat.add_zero] at hf16_0); (try clear hM16); clear hcl16 hcc16 hfr16 hoki16 hH16; (try simp only [show ((Kd.slice 3 (Kd.int .i64))).sz = 1 from rfl, Nat.mul_one, Nat.add_zero] at HP16)) | ((with_reducible refine gate_store (t := 101) (p := 20) rfl ?_); (try (rw [drewN_self w14]; generalize hq_ : World.drewN w14 _ = w14; have n0_ := Aside0.mk (Kd.S_at hq_ HO112.out); have n1_ := Aside0.mk (below_at hq_ HB.out); clear hq_ HO112 HB; have HO112 := n0_; have HB := n1_; clear n0_ n1_; (try (have n_ := Aside0.mk (Kd.S_mono (ok' := (fun k_ => some k_ ≠ (v114 : Value).ownBlock)) HO112.out (fun k_ hk => hk.2)); clear HO112; have HO112 := n_; clear n_)); (try (have HX16 := Aside0.mk (show Kd.S (Kd.slice 3 (Kd.int .i64)) 101 w14 w.heap.size (fun k_ => ((fun _ => True)) k_ ∧ ¬ ((fun k_ => some k_ = (v114 : Value).ownBlock)) k_) (.slice (some ⟨go11, 0, none⟩) y110.length co11) y110 from (by (with_reducible repeat (first | apply Kd.S_alloc | apply Kd.S_drewN | apply Kd.S_drew)); exact Kd.S_mono HO112.out (fun k_ hk => ⟨trivial, fun e_ => hk e_⟩))))); (try (obtain ⟨oki16, ce16, hcl16, hM16, hcc16, hfr16, hoki16, hH16⟩ := Kd.S_elem HX16.out [] ((l0.length : Int) : Int) (oda) (by have h_ : ((l0.length : Int) : Int) < ((y110.length : Int) : Int) := oda; first | exact h_ | (have e_ := (Kd.S_reads' HO112.out).1; omega) | simpa using h_))); (try (obtain ⟨ve16_0, rfl, ge16_0⟩ := hM16)); (try (have HP16 := Kd.S_seg hH16 (oda) (by have h_ : ((l0.length : Int) : Int) < ((y110.length : Int) : Int) := oda; first | exact h_ | (have e_ := (Kd.S_reads' HO112.out).1; omega) | simpa using h_) (seg := [v114]) (j := 0) (show 1 ≤ 1 from by decide) (x' := y113) (Kd.M_row (Kd.R_mono (Kd.R_tight rfl (Kd.R_mono (ok' := fun k_ => ((fun _ => True)) k_ ∧ k_ ≠ go11) (Kd.R_apart' (HO115.out) (Kd.S_typed HO112.out) (by decide)) (fun k_ hk => ⟨trivial, fun e_ => (hk.2) (by rw [e_]; rfl)⟩))) (fun _ h_ => Or.inr (h_)))) (fun _ hk => hk) (fun k_ hk_ => ((Kd.R_mono (ok' := fun k_ => ((fun _ => True)) k_ ∧ k_ ≠ go11) (Kd.R_apart' (HO115.out) (Kd.S_typed HO112.out) (by decide)) (fun k_ hk => ⟨trivial, fun e_ => (hk.2) (by rw [e_]; rfl)⟩))).1 k_ hk_.symm))); (try (have hx16_0 := hcc16 0 _ rfl)); (try (try simp only [show ((Kd.slice 3 (Kd.int .i64))).sz = 1 from rfl, Nat.mul_one, Nat.add_zero] at hx16_0)); (try (have hf16_0 := hfr16 0)); (try (try simp only [show ((Kd.slice 3 (Kd.int .i64))).sz = 1 from rfl, Nat.mul_one, Nat.add_zero] at hf16_0)); (try ((try clear hM16); clear hcl16 hcc16 hfr16 hoki16 hH16)); (try (try simp only [show ((Kd.slice 3 (Kd.int .i64))).sz = 1 from rfl, Nat.mul_one, Nat.add_zero] at HP16)))); refine store_event (t := 101) (p := 20) (v := ?vo_w17) (w1 := (w14.setCell ⟨go11, ((l0.length : Int) : Int).toNat, none⟩ (v114))) ?hg ?ho ?hn ?hr ?_; (case ho => rfl); (case hg => rfl); (case hn => rfl); (case hr => first | (go_simp; done) | (go_simp; rfl) | (obtain ⟨A_, c_, e_⟩ := HSL114.out; subst e_; first | (go_simp; done) | (go_simp; rfl))); intro w17 hw; have hg : w14.grownBy w17 (some go11) := (by rw [hw]; exact HP16.2); have hp_ : Kd.S (Kd.slice 3 (Kd.int .i64)) 101 w17 w.heap.size (fun _ => True) (.slice (some ⟨go11, 0, none⟩) y110.length co11) y116 := (by rw [hw, Ny116.out]; exact HP16.1); clear HP16; refine Ya2 (hp_) ((by rw [hw]; exact below_set (HB.out) GB11.out : Below w.heap.size w w17)) ?_; clear HO112 HB HO115; intro HO112 HB; clear hg hw hp_)); try go_wp2_with (first | ((with_reducible refine gd 12 rfl ?_); refine Kd.S_make (Kd.slice 3 (Kd.int .i64)) _ 101 rfl (N := 12) rfl 99 _ _ rfl ji3 rfl rfl Tryd.underlying99 (.slice none 0 0) 24 info101 rfl (by decide) (by omega) [] (ok := fun _ => True) (okp := fun _ => True) ⟨_, rfl, Kd.R_nil _ _ _ _ _⟩ (fun _ hk => hk) trivial (oda) (Nat.le_trans (Nat.mul_le_mul_right _ (oda : ji3.toNat ≤ 11728124029610)) (by omega)) (Below.refl _ _) (Nat.le_refl _) ?_; intro v111 w12 ho13 hb hg_ hnew_; clear hg_ hnew_; (first | rw [← Ny110.out] at ho13 | (simp only [Int.reduceToNat] at ho13; rw [← Ny110.out] at ho13)); refine Ya2 (Kd.S_lower ho13 (below_size (be HB.out))) (below_step (be HB.out) hb) ?_; clear HB; intro HO112 HB; clear hb ho13) | ((with_reducible refine gd 19 rfl ?_); refine Kd.R_make (Kd.int .i64) _ 3 rfl (N := 19) rfl 101 _ _ rfl ji6 rfl rfl Tryd.underlying101 (.int .i64 0) 8 info3 rfl (by decide) (by omega) 0 (ok := fun _ => True) (okp := fun _ => True) rfl (fun _ hk => hk) trivial (oda) (Nat.le_trans (Nat.mul_le_mul_right _ (oda : ji6.toNat ≤ 35184372088832)) (by omega)) (Below.refl _ _) (Nat.le_refl _) ?_; intro v114 w14 ho15 hb hg_ hnew_; have HSL114 := Aside0.mk (Kd.R_slice ho15); clear hg_ hnew_; (first | rw [← Ny113.out] at ho15 | (simp only [Int.reduceToNat] at ho15; rw [← Ny113.out] at ho15)); refine Ya3 (Kd.S_elder' (by (with_reducible repeat (first | apply Kd.S_alloc | apply Kd.S_drewN | apply Kd.S_drew)); exact HO112.out) (Kd.R_base ho15) hb) (Kd.R_lower ho15 (below_size (be HB.out))) (below_step (be HB.out) hb) ?_; clear HO112 HB; intro HO112 HO115 HB; clear hb ho15; have p11 : 0 ≤ ((l0.length : Int) : Int) := oda; have q11 : ((l0.length : Int) : Int) < ((y110.length : Int) : Int) := oda; obtain ⟨go11, co11, eo11, gb11, gl11, cl11, HG11⟩ := Kd.S_form HO112.out (by omega); (first | cases eo11 | (injection eo11 with ea_ en_ ec_; (first | subst ea_ | (injection ea_ with ea_; subst ea_)); subst ec_; clear en_)); have GB11 := Aside0.mk gb11; have GG11 := Aside0.mk HG11; clear gb11 gl11 HG11; obtain ⟨_, ce11, hcl11, hM11, hcc11, hfr11, _, _⟩ := Kd.S_elem HO112.out [] ((l0.length : Int) : Int) p11 q11; obtain ⟨ve11_0, rfl, ge11_0⟩ := hM11; have hx11_0 := hcc11 0 _ rfl; have hf11_0 := hfr11 0; (try simp only [show ((Kd.slice 3 (Kd.int .i64))).sz = 1 from rfl, Nat.mul_one, Nat.add_zero] at hx11_0); (try simp only [show ((Kd.slice 3 (Kd.int .i64))).sz = 1 from rfl, Nat.mul_one, Nat.add_zero] at hf11_0); (try clear hM11); clear hcl11 hcc11 hfr11; (try simp only [Int.toNat_natCast] at hx11_0); (try simp only [Int.toNat_natCast] at hf11_0); replace p11 := eq_true p11; replace q11 := eq_true q11; have n_ := Aside0.mk (Kd.S_mono (ok' := (fun k_ => some k_ ≠ (v114 : Value).ownBlock)) HO112.out (fun k_ hk => hk.2)); clear HO112; have HO112 := n_; clear n_; have HX16 := Aside0.mk (show Kd.S (Kd.slice 3 (Kd.int .i64)) 101 w14 w.heap.size (fun k_ => ((fun _ => True)) k_ ∧ ¬ ((fun k_ => some k_ = (v114 : Value).ownBlock)) k_) (.slice (some ⟨go11, 0, none⟩) y110.length co11) y110 from (by (with_reducible repeat (first | apply Kd.S_alloc | apply Kd.S_drewN | apply Kd.S_drew)); exact Kd.S_mono HO112.out (fun k_ hk => ⟨trivial, fun e_ => hk e_⟩))); obtain ⟨oki16, ce16, hcl16, hM16, hcc16, hfr16, hoki16, hH16⟩ := Kd.S_elem HX16.out [] ((l0.length : Int) : Int) (oda) (by have h_ : ((l0.length : Int) : Int) < ((y110.length : Int) : Int) := oda; first | exact h_ | (have e_ := (Kd.S_reads' HO112.out).1; omega) | simpa using h_); obtain ⟨ve16_0, rfl, ge16_0⟩ := hM16; have HP16 := Kd.S_seg hH16 (oda) (by have h_ : ((l0.length : Int) : Int) < ((y110.length : Int) : Int) := oda; first | exact h_ | (have e_ := (Kd.S_reads' HO112.out).1; omega) | simpa using h_) (seg := [v114]) (j := 0) (show 1 ≤ 1 from by decide) (x' := y113) (Kd.M_row (Kd.R_mono (Kd.R_tight rfl (Kd.R_mono (ok' := fun k_ => ((fun _ => True)) k_ ∧ k_ ≠ go11) (Kd.R_apart' (HO115.out) (Kd.S_typed HO112.out) (by decide)) (fun k_ hk => ⟨trivial, fun e_ => (hk.2) (by rw [e_]; rfl)⟩))) (fun _ h_ => Or.inr (h_)))) (fun _ hk => hk) (fun k_ hk_ => ((Kd.R_mono (ok' := fun k_ => ((fun _ => True)) k_ ∧ k_ ≠ go11) (Kd.R_apart' (HO115.out) (Kd.S_typed HO112.out) (by decide)) (fun k_ hk => ⟨trivial, fun e_ => (hk.2) (by rw [e_]; rfl)⟩))).1 k_ hk_.symm); have hx16_0 := hcc16 0 _ rfl; (try simp only [show ((Kd.slice 3 (Kd.int .i64))).sz = 1 from rfl, Nat.mul_one, Nat.add_zero] at hx16_0); have hf16_0 := hfr16 0; (try simp only [show ((Kd.slice 3 (Kd.int .i64))).sz = 1 from rfl, Nat.mul_one, Nat.add_zero] at hf16_0); (try clear hM16); clear hcl16 hcc16 hfr16 hoki16 hH16; (try simp only [show ((Kd.slice 3 (Kd.int .i64))).sz = 1 from rfl, Nat.mul_one, Nat.add_zero] at HP16)) | ((with_reducible refine gate_store (t := 101) (p := 20) rfl ?_); (try (rw [drewN_self w14]; generalize hq_ : World.drewN w14 _ = w14; have n0_ := Aside0.mk (Kd.S_at hq_ HO112.out); have n1_ := Aside0.mk (below_at hq_ HB.out); clear hq_ HO112 HB; have HO112 := n0_; have HB := n1_; clear n0_ n1_; (try (have n_ := Aside0.mk (Kd.S_mono (ok' := (fun k_ => some k_ ≠ (v114 : Value).ownBlock)) HO112.out (fun k_ hk => hk.2)); clear HO112; have HO112 := n_; clear n_)); (try (have HX16 := Aside0.mk (show Kd.S (Kd.slice 3 (Kd.int .i64)) 101 w14 w.heap.size (fun k_ => ((fun _ => True)) k_ ∧ ¬ ((fun k_ => some k_ = (v114 : Value).ownBlock)) k_) (.slice (some ⟨go11, 0, none⟩) y110.length co11) y110 from (by (with_reducible repeat (first | apply Kd.S_alloc | apply Kd.S_drewN | apply Kd.S_drew)); exact Kd.S_mono HO112.out (fun k_ hk => ⟨trivial, fun e_ => hk e_⟩))))); (try (obtain ⟨oki16, ce16, hcl16, hM16, hcc16, hfr16, hoki16, hH16⟩ := Kd.S_elem HX16.out [] ((l0.length : Int) : Int) (oda) (by have h_ : ((l0.length : Int) : Int) < ((y110.length : Int) : Int) := oda; first | exact h_ | (have e_ := (Kd.S_reads' HO112.out).1; omega) | simpa using h_))); (try (obtain ⟨ve16_0, rfl, ge16_0⟩ := hM16)); (try (have HP16 := Kd.S_seg hH16 (oda) (by have h_ : ((l0.length : Int) : Int) < ((y110.length : Int) : Int) := oda; first | exact h_ | (have e_ := (Kd.S_reads' HO112.out).1; omega) | simpa using h_) (seg := [v114]) (j := 0) (show 1 ≤ 1 from by decide) (x' := y113) (Kd.M_row (Kd.R_mono (Kd.R_tight rfl (Kd.R_mono (ok' := fun k_ => ((fun _ => True)) k_ ∧ k_ ≠ go11) (Kd.R_apart' (HO115.out) (Kd.S_typed HO112.out) (by decide)) (fun k_ hk => ⟨trivial, fun e_ => (hk.2) (by rw [e_]; rfl)⟩))) (fun _ h_ => Or.inr (h_)))) (fun _ hk => hk) (fun k_ hk_ => ((Kd.R_mono (ok' := fun k_ => ((fun _ => True)) k_ ∧ k_ ≠ go11) (Kd.R_apart' (HO115.out) (Kd.S_typed HO112.out) (by decide)) (fun k_ hk => ⟨trivial, fun e_ => (hk.2) (by rw [e_]; rfl)⟩))).1 k_ hk_.symm))); (try (have hx16_0 := hcc16 0 _ rfl)); (try (try simp only [show ((Kd.slice 3 (Kd.int .i64))).sz = 1 from rfl, Nat.mul_one, Nat.add_zero] at hx16_0)); (try (have hf16_0 := hfr16 0)); (try (try simp only [show ((Kd.slice 3 (Kd.int .i64))).sz = 1 from rfl, Nat.mul_one, Nat.add_zero] at hf16_0)); (try ((try clear hM16); clear hcl16 hcc16 hfr16 hoki16 hH16)); (try (try simp only [show ((Kd.slice 3 (Kd.int .i64))).sz = 1 from rfl, Nat.mul_one, Nat.add_zero] at HP16)))); refine store_event (t := 101) (p := 20) (v := ?vo_w17) (w1 := (w14.setCell ⟨go11, ((l0.length : Int) : Int).toNat, none⟩ (v114))) ?hg ?ho ?hn ?hr ?_; (case ho => rfl); (case hg => rfl); (case hn => rfl); (case hr => first | (go_simp; done) | (go_simp; rfl) | (obtain ⟨A_, c_, e_⟩ := HSL114.out; subst e_; first | (go_simp; done) | (go_simp; rfl))); intro w17 hw; have hg : w14.grownBy w17 (some go11) := (by rw [hw]; exact HP16.2); have hp_ : Kd.S (Kd.slice 3 (Kd.int .i64)) 101 w17 w.heap.size (fun _ => True) (.slice (some ⟨go11, 0, none⟩) y110.length co11) y116 := (by rw [hw, Ny116.out]; exact HP16.1); clear HP16; refine Ya2 (hp_) ((by rw [hw]; exact below_set (HB.out) GB11.out : Below w.heap.size w w17)) ?_; clear HO112 HB HO115; intro HO112 HB; clear hg hw hp_)))
       go_loopg [6] k (fun kq v6 w' => ∃ (x5_1 : List (List Int)) (x6_1 : Int), v6 = .int .i64 x6_1 ∧ Aside0 (spec_l7Table.l0 kq l0 l1 x5_1 x6_1 = some r) ∧ Aside0 (kq ≤ k) ∧ Aside0 (Kd.S (Kd.slice 3 (Kd.int .i64)) 101 w' w.heap.size (fun _ => True) (.slice (some ⟨go11, 0, none⟩) y110.length co11) x5_1) ∧ Aside0 (Below w.heap.size w w'))
       case atStart => exact ⟨(y116), (wrap64 ((l0.length : Int) - 1)), Ye1, H', ⟨Nat.le_refl _⟩, ⟨by (with_reducible repeat (first | apply Kd.S_alloc | apply Kd.S_drewN | apply Kd.S_drew)); exact HO112.out⟩, ⟨be HB.out⟩⟩
       case round =>
        clear H'
        try clear c1
        try clear p1
        try clear q1
        try clear hx1
        try clear p2
        try clear c4
        try clear c4b0
        try clear c4b1
        try clear c5
        try clear c5b0
        try clear c5b1
        try clear c6
        try clear p6
        try clear c7
        try clear c7b0
        try clear c7b1
        try clear c8
        try clear c8b0
        try clear c8b1
        try clear c9
        try clear c9b0
        try clear c9b1
        try clear c10
        try clear c10b0
        try clear c10b1
        try clear c11
        try clear p11
        try clear q11
        try clear hx11
        try clear hf11
        try clear c16
        try clear hx16
        try clear hf16
        try clear hx11_0
        try clear hx16_0
        try clear p11
        try clear q11
        obtain ⟨x5_1, x6_1, rfl, HA, HK1, HO_5, HB⟩ := hrel
        have hl5_1 := (Kd.S_reads' HO_5.out).1
        rw [hl5_1] at HO_5
        (try simp only [hl5_1])
        cases gk with
        | zero => exact absurd HA.out (by simp [spec_l7Table.l0])
        | succ k1 =>
         have H := HA.out
         clear HA
         simp only [spec_l7Table.l0] at H
         by_cases c18 : x6_1 ≥ 0
         ·rw [if_pos c18] at H
          have c18b0 : decide (0 ≤ x6_1) = true := decide_eq_true c18
          clear c18
          obtain ⟨ji19, hji19⟩ : ∃ j_ : Int, (wrap64 ((l1.length : Int) + 1)) = j_ := ⟨_, rfl⟩
          try clear hji6w
          try clear hji6
          replace H : (if 0 ≤ (ji19) then (if (ji19 : Int).toNat ≤ 35184372088832 then (if 0 ≤ x6_1 then (if x6_1 < (x5_1.length : Int) then (spec_l7Table.l1 k1 l0 l1 (x5_1.set (x6_1 : Int).toNat (List.replicate (ji19 : Int).toNat 0)) x6_1 (wrap64 ((l1.length : Int) - 1))) else (none)) else (none)) else (none)) else (none)) = some r := by first | (rw [hji19] at H; exact H) | (simp only [hji19] at H ⊢; exact H)
          have hji19w : (IntKind.i64.wrap ((l1.length : Int) + 1)) = ji19 := (i64_w _).trans hji19
          by_cases c20 : 0 ≤ (ji19)
          ·rw [if_pos c20] at H
           have c20b0 := eq_true c20
           have c20b1 : decide (0 ≤ (ji19)) = true := decide_eq_true c20
           clear c20
           by_cases c21 : (ji19 : Int).toNat ≤ 35184372088832
           ·rw [if_pos c21] at H
            have c21b0 := eq_true c21
            have c21b1 : decide ((ji19 : Int).toNat ≤ 35184372088832) = true := decide_eq_true c21
            clear c21
            obtain ⟨y117, hy117⟩ : ∃ y_ : List Int, y_ = (List.replicate (ji19 : Int).toNat 0) := ⟨_, rfl⟩
            replace H : (if 0 ≤ x6_1 then (if x6_1 < (x5_1.length : Int) then (spec_l7Table.l1 k1 l0 l1 (x5_1.set (x6_1 : Int).toNat y117) x6_1 (wrap64 ((l1.length : Int) - 1))) else (none)) else (none)) = some r := by first | (rw [hy117]; with_reducible exact H) | (have H2_ := (Option.bind_some _ _).symm.trans H; rw [hy117]; with_reducible exact H2_) | (have H2_ := (Option.bind_some _ _).symm.trans H; with_reducible exact H2_) | with_reducible exact H | (rw [hy117]; exact H) | exact H
            have Ny117 := Aside0.mk hy117
            clear hy117
            by_cases c22 : 0 ≤ x6_1
            ·rw [if_pos c22] at H
             have c22b0 : decide (0 ≤ x6_1) = true := decide_eq_true c22
             clear c22
             by_cases c23 : x6_1 < (x5_1.length : Int)
             ·rw [if_pos c23] at H
              have c23b0 : decide (x6_1 < (x5_1.length : Int)) = true := decide_eq_true c23
              clear c23
              obtain ⟨y120, hy120⟩ : ∃ y_ : List (List Int), y_ = (x5_1.set (x6_1 : Int).toNat y117) := ⟨_, rfl⟩
              replace H : (spec_l7Table.l1 k1 l0 l1 y120 x6_1 (wrap64 ((l1.length : Int) - 1))) = some r := by first | (rw [hy120]; with_reducible exact H) | (have H2_ := (Option.bind_some _ _).symm.trans H; rw [hy120]; with_reducible exact H2_) | (have H2_ := (Option.bind_some _ _).symm.trans H; with_reducible exact H2_) | with_reducible exact H | (rw [hy120]; exact H) | exact H
              have Ny120 := Aside0.mk hy120
              clear hy120
              have H' := Aside0.mk H
              clear H
              go_wp2_with (first | ((with_reducible refine gd 33 rfl ?_); refine Kd.R_make (Kd.int .i64) _ 3 rfl (N := 33) rfl 101 _ _ rfl ji19 rfl rfl Tryd.underlying101 (.int .i64 0) 8 info3 rfl (by decide) (by omega) 0 (ok := fun _ => True) (okp := fun _ => True) rfl (fun _ hk => hk) trivial (oda) (Nat.le_trans (Nat.mul_le_mul_right _ (oda : ji19.toNat ≤ 35184372088832)) (by omega)) (Below.refl _ _) (Nat.le_refl _) ?_; intro v118 w25 ho26 hb hg_ hnew_; have HSL118 := Aside0.mk (Kd.R_slice ho26); clear hg_ hnew_; (first | rw [← Ny117.out] at ho26 | (simp only [Int.reduceToNat] at ho26; rw [← Ny117.out] at ho26)); refine Ya3 (Kd.S_elder' (by (with_reducible repeat (first | apply Kd.S_alloc | apply Kd.S_drewN | apply Kd.S_drew)); exact HO_5.out) (Kd.R_base ho26) hb) (Kd.R_lower ho26 (below_size (be HB.out))) (below_step (be HB.out) hb) ?_; clear HO_5 HB; intro HO_5 HO119 HB; clear hb ho26; have p24 : 0 ≤ (x6_1 : Int) := oda; have q24 : (x6_1 : Int) < ((x5_1.length : Int) : Int) := oda; obtain ⟨_, ce24, hcl24, hM24, hcc24, hfr24, _, _⟩ := Kd.S_elem HO_5.out [] (x6_1 : Int) p24 q24; obtain ⟨ve24_0, rfl, ge24_0⟩ := hM24; have hx24_0 := hcc24 0 _ rfl; have hf24_0 := hfr24 0; (try simp only [show ((Kd.slice 3 (Kd.int .i64))).sz = 1 from rfl, Nat.mul_one, Nat.add_zero] at hx24_0); (try simp only [show ((Kd.slice 3 (Kd.int .i64))).sz = 1 from rfl, Nat.mul_one, Nat.add_zero] at hf24_0); (try clear hM24); clear hcl24 hcc24 hfr24; replace p24 := eq_true p24; replace q24 := eq_true q24; have n_ := Aside0.mk (Kd.S_mono (ok' := (fun k_ => some k_ ≠ (v118 : Value).ownBlock)) HO_5.out (fun k_ hk => hk.2)); clear HO_5; have HO_5 := n_; clear n_; have HX27 := Aside0.mk (show Kd.S (Kd.slice 3 (Kd.int .i64)) 101 w25 w.heap.size (fun k_ => ((fun _ => True)) k_ ∧ ¬ ((fun k_ => some k_ = (v118 : Value).ownBlock)) k_) (.slice (some ⟨go11, 0, none⟩) x5_1.length co11) x5_1 from (by (with_reducible repeat (first | apply Kd.S_alloc | apply Kd.S_drewN | apply Kd.S_drew)); exact Kd.S_mono HO_5.out (fun k_ hk => ⟨trivial, fun e_ => hk e_⟩))); obtain ⟨oki27, ce27, hcl27, hM27, hcc27, hfr27, hoki27, hH27⟩ := Kd.S_elem HX27.out [] (x6_1 : Int) (oda) (by have h_ : (x6_1 : Int) < ((x5_1.length : Int) : Int) := oda; first | exact h_ | (have e_ := (Kd.S_reads' HO_5.out).1; omega) | simpa using h_); obtain ⟨ve27_0, rfl, ge27_0⟩ := hM27; have HP27 := Kd.S_seg hH27 (oda) (by have h_ : (x6_1 : Int) < ((x5_1.length : Int) : Int) := oda; first | exact h_ | (have e_ := (Kd.S_reads' HO_5.out).1; omega) | simpa using h_) (seg := [v118]) (j := 0) (show 1 ≤ 1 from by decide) (x' := y117) (Kd.M_row (Kd.R_mono (Kd.R_tight rfl (Kd.R_mono (ok' := fun k_ => ((fun _ => True)) k_ ∧ k_ ≠ go11) (Kd.R_apart' (HO119.out) (Kd.S_typed HO_5.out) (by decide)) (fun k_ hk => ⟨trivial, fun e_ => (hk.2) (by rw [e_]; rfl)⟩))) (fun _ h_ => Or.inr (h_)))) (fun _ hk => hk) (fun k_ hk_ => ((Kd.R_mono (ok' := fun k_ => ((fun _ => True)) k_ ∧ k_ ≠ go11) (Kd.R_apart' (HO119.out) (Kd.S_typed HO_5.out) (by decide)) (fun k_ hk => ⟨trivial, fun e_ => (hk.2) (by rw [e_]; rfl)⟩))).1 k_ hk_.symm); have hx27_0 := hcc27 0 _ rfl; (try simp only [show ((Kd.slice 3 (Kd.int .i64))).sz = 1 from rfl, Nat.mul_one, Nat.add_zero] at hx27_0); have hf27_0 := hfr27 0; (try simp only [show ((Kd.slice 3 (Kd.int .i64))).sz = 1 from rfl, Nat.mul_one, Nat.add_zero] at hf27_0); (try clear hM27); clear hcl27 hcc27 hfr27 hoki27 hH27; (try simp only [show ((Kd.slice 3 (Kd.int .i64))).sz = 1 from rfl, Nat.mul_one, Nat.add_zero] at HP27)) | ((with_reducible refine gate_store (t := 101) (p := 34) rfl ?_); (try (rw [drewN_self w25]; generalize hq_ : World.drewN w25 _ = w25; have n0_ := Aside0.mk (Kd.S_at hq_ HO_5.out); have n1_ := Aside0.mk (below_at hq_ HB.out); clear hq_ HO_5 HB; have HO_5 := n0_; have HB := n1_; clear n0_ n1_; (try (have n_ := Aside0.mk (Kd.S_mono (ok' := (fun k_ => some k_ ≠ (v118 : Value).ownBlock)) HO_5.out (fun k_ hk => hk.2)); clear HO_5; have HO_5 := n_; clear n_)); (try (have HX27 := Aside0.mk (show Kd.S (Kd.slice 3 (Kd.int .i64)) 101 w25 w.heap.size (fun k_ => ((fun _ => True)) k_ ∧ ¬ ((fun k_ => some k_ = (v118 : Value).ownBlock)) k_) (.slice (some ⟨go11, 0, none⟩) x5_1.length co11) x5_1 from (by (with_reducible repeat (first | apply Kd.S_alloc | apply Kd.S_drewN | apply Kd.S_drew)); exact Kd.S_mono HO_5.out (fun k_ hk => ⟨trivial, fun e_ => hk e_⟩))))); (try (obtain ⟨oki27, ce27, hcl27, hM27, hcc27, hfr27, hoki27, hH27⟩ := Kd.S_elem HX27.out [] (x6_1 : Int) (oda) (by have h_ : (x6_1 : Int) < ((x5_1.length : Int) : Int) := oda; first | exact h_ | (have e_ := (Kd.S_reads' HO_5.out).1; omega) | simpa using h_))); (try (obtain ⟨ve27_0, rfl, ge27_0⟩ := hM27)); (try (have HP27 := Kd.S_seg hH27 (oda) (by have h_ : (x6_1 : Int) < ((x5_1.length : Int) : Int) := oda; first | exact h_ | (have e_ := (Kd.S_reads' HO_5.out).1; omega) | simpa using h_) (seg := [v118]) (j := 0) (show 1 ≤ 1 from by decide) (x' := y117) (Kd.M_row (Kd.R_mono (Kd.R_tight rfl (Kd.R_mono (ok' := fun k_ => ((fun _ => True)) k_ ∧ k_ ≠ go11) (Kd.R_apart' (HO119.out) (Kd.S_typed HO_5.out) (by decide)) (fun k_ hk => ⟨trivial, fun e_ => (hk.2) (by rw [e_]; rfl)⟩))) (fun _ h_ => Or.inr (h_)))) (fun _ hk => hk) (fun k_ hk_ => ((Kd.R_mono (ok' := fun k_ => ((fun _ => True)) k_ ∧ k_ ≠ go11) (Kd.R_apart' (HO119.out) (Kd.S_typed HO_5.out) (by decide)) (fun k_ hk => ⟨trivial, fun e_ => (hk.2) (by rw [e_]; rfl)⟩))).1 k_ hk_.symm))); (try (have hx27_0 := hcc27 0 _ rfl)); (try (try simp only [show ((Kd.slice 3 (Kd.int .i64))).sz = 1 from rfl, Nat.mul_one, Nat.add_zero] at hx27_0)); (try (have hf27_0 := hfr27 0)); (try (try simp only [show ((Kd.slice 3 (Kd.int .i64))).sz = 1 from rfl, Nat.mul_one, Nat.add_zero] at hf27_0)); (try ((try clear hM27); clear hcl27 hcc27 hfr27 hoki27 hH27)); (try (try simp only [show ((Kd.slice 3 (Kd.int .i64))).sz = 1 from rfl, Nat.mul_one, Nat.add_zero] at HP27)))); refine store_event (t := 101) (p := 34) (v := ?vo_w28) (w1 := (w25.setCell ⟨go11, (x6_1 : Int).toNat, none⟩ (v118))) ?hg ?ho ?hn ?hr ?_; (case ho => rfl); (case hg => rfl); (case hn => rfl); (case hr => first | (go_simp; done) | (go_simp; rfl) | (obtain ⟨A_, c_, e_⟩ := HSL118.out; subst e_; first | (go_simp; done) | (go_simp; rfl))); intro w28 hw; have hg : w25.grownBy w28 (some go11) := (by rw [hw]; exact HP27.2); have hp_ : Kd.S (Kd.slice 3 (Kd.int .i64)) 101 w28 w.heap.size (fun _ => True) (.slice (some ⟨go11, 0, none⟩) x5_1.length co11) y120 := (by rw [hw, Ny120.out]; exact HP27.1); clear HP27; refine Ya2 (hp_) ((by rw [hw]; exact below_set (HB.out) GB11.out : Below w.heap.size w w28)) ?_; clear HO_5 HB HO119; intro HO_5 HB; clear hg hw hp_))
              repeat (go_quiet (first | ((with_reducible refine gd 33 rfl ?_); refine Kd.R_make (Kd.int .i64) _ 3 rfl (N := 33) rfl 101 _ _ rfl ji19 rfl rfl Tryd.underlying101 (.int .i64 0) 8 info3 rfl (by decide) (by omega) 0 (ok := fun _ => True) (okp := fun _ => True) rfl (fun _ hk => hk) trivial (oda) (Nat.le_trans (Nat.mul_le_mul_right _ (oda : ji19.toNat ≤ 35184372088832)) (by omega)) (Below.refl _ _) (Nat.le_refl _) ?_; intro v118 w25 ho26 hb hg_ hnew_; have HSL118 := Aside0.mk (Kd.R_slice ho26); clear hg_ hnew_; (first | rw [← Ny117.out] at ho26 | (simp only [Int.reduceToNat] at ho26; rw [← Ny117.out] at ho26)); refine Ya3 (Kd.S_elder' (by (with_reducible repeat (first | apply Kd.S_alloc | apply Kd.S_drewN | apply Kd.S_drew)); exact HO_5.out) (Kd.R_base ho26) hb) (Kd.R_lower ho26 (below_size (be HB.out))) (below_step (be HB.out) hb) ?_; clear HO_5 HB; intro HO_5 HO119 HB; clear hb ho26; have p24 : 0 ≤ (x6_1 : Int) := oda; have q24 : (x6_1 : Int) < ((x5_1.length : Int) : Int) := oda; obtain ⟨_, ce24, hcl24, hM24, hcc24, hfr24, _, _⟩ := Kd.S_elem HO_5.out [] (x6_1 : Int) p24 q24; obtain ⟨ve24_0, rfl, ge24_0⟩ := hM24; have hx24_0 := hcc24 0 _ rfl; have hf24_0 := hfr24 0; (try simp only [show ((Kd.slice 3 (Kd.int .i64))).sz = 1 from rfl, Nat.mul_one, Nat.add_zero] at hx24_0); (try simp only [show ((Kd.slice 3 (Kd.int .i64))).sz = 1 from rfl, Nat.mul_one, Nat.add_zero] at hf24_0); (try clear hM24); clear hcl24 hcc24 hfr24; replace p24 := eq_true p24; replace q24 := eq_true q24; have n_ := Aside0.mk (Kd.S_mono (ok' := (fun k_ => some k_ ≠ (v118 : Value).ownBlock)) HO_5.out (fun k_ hk => hk.2)); clear HO_5; have HO_5 := n_; clear n_; have HX27 := Aside0.mk (show Kd.S (Kd.slice 3 (Kd.int .i64)) 101 w25 w.heap.size (fun k_ => ((fun _ => True)) k_ ∧ ¬ ((fun k_ => some k_ = (v118 : Value).ownBlock)) k_) (.slice (some ⟨go11, 0, none⟩) x5_1.length co11) x5_1 from (by (with_reducible repeat (first | apply Kd.S_alloc | apply Kd.S_drewN | apply Kd.S_drew)); exact Kd.S_mono HO_5.out (fun k_ hk => ⟨trivial, fun e_ => hk e_⟩))); obtain ⟨oki27, ce27, hcl27, hM27, hcc27, hfr27, hoki27, hH27⟩ := Kd.S_elem HX27.out [] (x6_1 : Int) (oda) (by have h_ : (x6_1 : Int) < ((x5_1.length : Int) : Int) := oda; first | exact h_ | (have e_ := (Kd.S_reads' HO_5.out).1; omega) | simpa using h_); obtain ⟨ve27_0, rfl, ge27_0⟩ := hM27; have HP27 := Kd.S_seg hH27 (oda) (by have h_ : (x6_1 : Int) < ((x5_1.length : Int) : Int) := oda; first | exact h_ | (have e_ := (Kd.S_reads' HO_5.out).1; omega) | simpa using h_) (seg := [v118]) (j := 0) (show 1 ≤ 1 from by decide) (x' := y117) (Kd.M_row (Kd.R_mono (Kd.R_tight rfl (Kd.R_mono (ok' := fun k_ => ((fun _ => True)) k_ ∧ k_ ≠ go11) (Kd.R_apart' (HO119.out) (Kd.S_typed HO_5.out) (by decide)) (fun k_ hk => ⟨trivial, fun e_ => (hk.2) (by rw [e_]; rfl)⟩))) (fun _ h_ => Or.inr (h_)))) (fun _ hk => hk) (fun k_ hk_ => ((Kd.R_mono (ok' := fun k_ => ((fun _ => True)) k_ ∧ k_ ≠ go11) (Kd.R_apart' (HO119.out) (Kd.S_typed HO_5.out) (by decide)) (fun k_ hk => ⟨trivial, fun e_ => (hk.2) (by rw [e_]; rfl)⟩))).1 k_ hk_.symm); have hx27_0 := hcc27 0 _ rfl; (try simp only [show ((Kd.slice 3 (Kd.int .i64))).sz = 1 from rfl, Nat.mul_one, Nat.add_zero] at hx27_0); have hf27_0 := hfr27 0; (try simp only [show ((Kd.slice 3 (Kd.int .i64))).sz = 1 from rfl, Nat.mul_one, Nat.add_zero] at hf27_0); (try clear hM27); clear hcl27 hcc27 hfr27 hoki27 hH27; (try simp only [show ((Kd.slice 3 (Kd.int .i64))).sz = 1 from rfl, Nat.mul_one, Nat.add_zero] at HP27)) | ((with_reducible refine gate_store (t := 101) (p := 34) rfl ?_); (try (rw [drewN_self w25]; generalize hq_ : World.drewN w25 _ = w25; have n0_ := Aside0.mk (Kd.S_at hq_ HO_5.out); have n1_ := Aside0.mk (below_at hq_ HB.out); clear hq_ HO_5 HB; have HO_5 := n0_; have HB := n1_; clear n0_ n1_; (try (have n_ := Aside0.mk (Kd.S_mono (ok' := (fun k_ => some k_ ≠ (v118 : Value).ownBlock)) HO_5.out (fun k_ hk => hk.2)); clear HO_5; have HO_5 := n_; clear n_)); (try (have HX27 := Aside0.mk (show Kd.S (Kd.slice 3 (Kd.int .i64)) 101 w25 w.heap.size (fun k_ => ((fun _ => True)) k_ ∧ ¬ ((fun k_ => some k_ = (v118 : Value).ownBlock)) k_) (.slice (some ⟨go11, 0, none⟩) x5_1.length co11) x5_1 from (by (with_reducible repeat (first | apply Kd.S_alloc | apply Kd.S_drewN | apply Kd.S_drew)); exact Kd.S_mono HO_5.out (fun k_ hk => ⟨trivial, fun e_ => hk e_⟩))))); (try (obtain ⟨oki27, ce27, hcl27, hM27, hcc27, hfr27, hoki27, hH27⟩ := Kd.S_elem HX27.out [] (x6_1 : Int) (oda) (by have h_ : (x6_1 : Int) < ((x5_1.length : Int) : Int) := oda; first | exact h_ | (have e_ := (Kd.S_reads' HO_5.out).1; omega) | simpa using h_))); (try (obtain ⟨ve27_0, rfl, ge27_0⟩ := hM27)); (try (have HP27 := Kd.S_seg hH27 (oda) (by have h_ : (x6_1 : Int) < ((x5_1.length : Int) : Int) := oda; first | exact h_ | (have e_ := (Kd.S_reads' HO_5.out).1; omega) | simpa using h_) (seg := [v118]) (j := 0) (show 1 ≤ 1 from by decide) (x' := y117) (Kd.M_row (Kd.R_mono (Kd.R_tight rfl (Kd.R_mono (ok' := fun k_ => ((fun _ => True)) k_ ∧ k_ ≠ go11) (Kd.R_apart' (HO119.out) (Kd.S_typed HO_5.out) (by decide)) (fun k_ hk => ⟨trivial, fun e_ => (hk.2) (by rw [e_]; rfl)⟩))) (fun _ h_ => Or.inr (h_)))) (fun _ hk => hk) (fun k_ hk_ => ((Kd.R_mono (ok' := fun k_ => ((fun _ => True)) k_ ∧ k_ ≠ go11) (Kd.R_apart' (HO119.out) (Kd.S_typed HO_5.out) (by decide)) (fun k_ hk => ⟨trivial, fun e_ => (hk.2) (by rw [e_]; rfl)⟩))).1 k_ hk_.symm))); (try (have hx27_0 := hcc27 0 _ rfl)); (try (try simp only [show ((Kd.slice 3 (Kd.int .i64))).sz = 1 from rfl, Nat.mul_one, Nat.add_zero] at hx27_0)); (try (have hf27_0 := hfr27 0)); (try (try simp only [show ((Kd.slice 3 (Kd.int .i64))).sz = 1 from rfl, Nat.mul_one, Nat.add_zero] at hf27_0)); (try ((try clear hM27); clear hcl27 hcc27 hfr27 hoki27 hH27)); (try (try simp only [show ((Kd.slice 3 (Kd.int .i64))).sz = 1 from rfl, Nat.mul_one, Nat.add_zero] at HP27)))); refine store_event (t := 101) (p := 34) (v := ?vo_w28) (w1 := (w25.setCell ⟨go11, (x6_1 : Int).toNat, none⟩ (v118))) ?hg ?ho ?hn ?hr ?_; (case ho => rfl); (case hg => rfl); (case hn => rfl); (case hr => first | (go_simp; done) | (go_simp; rfl) | (obtain ⟨A_, c_, e_⟩ := HSL118.out; subst e_; first | (go_simp; done) | (go_simp; rfl))); intro w28 hw; have hg : w25.grownBy w28 (some go11) := (by rw [hw]; exact HP27.2); have hp_ : Kd.S (Kd.slice 3 (Kd.int .i64)) 101 w28 w.heap.size (fun _ => True) (.slice (some ⟨go11, 0, none⟩) x5_1.length co11) y120 := (by rw [hw, Ny120.out]; exact HP27.1); clear HP27; refine Ya2 (hp_) ((by rw [hw]; exact below_set (HB.out) GB11.out : Below w.heap.size w w28)) ?_; clear HO_5 HB HO119; intro HO_5 HB; clear hg hw hp_)); try go_wp2_with (first | ((with_reducible refine gd 33 rfl ?_); refine Kd.R_make (Kd.int .i64) _ 3 rfl (N := 33) rfl 101 _ _ rfl ji19 rfl rfl Tryd.underlying101 (.int .i64 0) 8 info3 rfl (by decide) (by omega) 0 (ok := fun _ => True) (okp := fun _ => True) rfl (fun _ hk => hk) trivial (oda) (Nat.le_trans (Nat.mul_le_mul_right _ (oda : ji19.toNat ≤ 35184372088832)) (by omega)) (Below.refl _ _) (Nat.le_refl _) ?_; intro v118 w25 ho26 hb hg_ hnew_; have HSL118 := Aside0.mk (Kd.R_slice ho26); clear hg_ hnew_; (first | rw [← Ny117.out] at ho26 | (simp only [Int.reduceToNat] at ho26; rw [← Ny117.out] at ho26)); refine Ya3 (Kd.S_elder' (by (with_reducible repeat (first | apply Kd.S_alloc | apply Kd.S_drewN | apply Kd.S_drew)); exact HO_5.out) (Kd.R_base ho26) hb) (Kd.R_lower ho26 (below_size (be HB.out))) (below_step (be HB.out) hb) ?_; clear HO_5 HB; intro HO_5 HO119 HB; clear hb ho26; have p24 : 0 ≤ (x6_1 : Int) := oda; have q24 : (x6_1 : Int) < ((x5_1.length : Int) : Int) := oda; obtain ⟨_, ce24, hcl24, hM24, hcc24, hfr24, _, _⟩ := Kd.S_elem HO_5.out [] (x6_1 : Int) p24 q24; obtain ⟨ve24_0, rfl, ge24_0⟩ := hM24; have hx24_0 := hcc24 0 _ rfl; have hf24_0 := hfr24 0; (try simp only [show ((Kd.slice 3 (Kd.int .i64))).sz = 1 from rfl, Nat.mul_one, Nat.add_zero] at hx24_0); (try simp only [show ((Kd.slice 3 (Kd.int .i64))).sz = 1 from rfl, Nat.mul_one, Nat.add_zero] at hf24_0); (try clear hM24); clear hcl24 hcc24 hfr24; replace p24 := eq_true p24; replace q24 := eq_true q24; have n_ := Aside0.mk (Kd.S_mono (ok' := (fun k_ => some k_ ≠ (v118 : Value).ownBlock)) HO_5.out (fun k_ hk => hk.2)); clear HO_5; have HO_5 := n_; clear n_; have HX27 := Aside0.mk (show Kd.S (Kd.slice 3 (Kd.int .i64)) 101 w25 w.heap.size (fun k_ => ((fun _ => True)) k_ ∧ ¬ ((fun k_ => some k_ = (v118 : Value).ownBlock)) k_) (.slice (some ⟨go11, 0, none⟩) x5_1.length co11) x5_1 from (by (with_reducible repeat (first | apply Kd.S_alloc | apply Kd.S_drewN | apply Kd.S_drew)); exact Kd.S_mono HO_5.out (fun k_ hk => ⟨trivial, fun e_ => hk e_⟩))); obtain ⟨oki27, ce27, hcl27, hM27, hcc27, hfr27, hoki27, hH27⟩ := Kd.S_elem HX27.out [] (x6_1 : Int) (oda) (by have h_ : (x6_1 : Int) < ((x5_1.length : Int) : Int) := oda; first | exact h_ | (have e_ := (Kd.S_reads' HO_5.out).1; omega) | simpa using h_); obtain ⟨ve27_0, rfl, ge27_0⟩ := hM27; have HP27 := Kd.S_seg hH27 (oda) (by have h_ : (x6_1 : Int) < ((x5_1.length : Int) : Int) := oda; first | exact h_ | (have e_ := (Kd.S_reads' HO_5.out).1; omega) | simpa using h_) (seg := [v118]) (j := 0) (show 1 ≤ 1 from by decide) (x' := y117) (Kd.M_row (Kd.R_mono (Kd.R_tight rfl (Kd.R_mono (ok' := fun k_ => ((fun _ => True)) k_ ∧ k_ ≠ go11) (Kd.R_apart' (HO119.out) (Kd.S_typed HO_5.out) (by decide)) (fun k_ hk => ⟨trivial, fun e_ => (hk.2) (by rw [e_]; rfl)⟩))) (fun _ h_ => Or.inr (h_)))) (fun _ hk => hk) (fun k_ hk_ => ((Kd.R_mono (ok' := fun k_ => ((fun _ => True)) k_ ∧ k_ ≠ go11) (Kd.R_apart' (HO119.out) (Kd.S_typed HO_5.out) (by decide)) (fun k_ hk => ⟨trivial, fun e_ => (hk.2) (by rw [e_]; rfl)⟩))).1 k_ hk_.symm); have hx27_0 := hcc27 0 _ rfl; (try simp only [show ((Kd.slice 3 (Kd.int .i64))).sz = 1 from rfl, Nat.mul_one, Nat.add_zero] at hx27_0); have hf27_0 := hfr27 0; (try simp only [show ((Kd.slice 3 (Kd.int .i64))).sz = 1 from rfl, Nat.mul_one, Nat.add_zero] at hf27_0); (try clear hM27); clear hcl27 hcc27 hfr27 hoki27 hH27; (try simp only [show ((Kd.slice 3 (Kd.int .i64))).sz = 1 from rfl, Nat.mul_one, Nat.add_zero] at HP27)) | ((with_reducible refine gate_store (t := 101) (p := 34) rfl ?_); (try (rw [drewN_self w25]; generalize hq_ : World.drewN w25 _ = w25; have n0_ := Aside0.mk (Kd.S_at hq_ HO_5.out); have n1_ := Aside0.mk (below_at hq_ HB.out); clear hq_ HO_5 HB; have HO_5 := n0_; have HB := n1_; clear n0_ n1_; (try (have n_ := Aside0.mk (Kd.S_mono (ok' := (fun k_ => some k_ ≠ (v118 : Value).ownBlock)) HO_5.out (fun k_ hk => hk.2)); clear HO_5; have HO_5 := n_; clear n_)); (try (have HX27 := Aside0.mk (show Kd.S (Kd.slice 3 (Kd.int .i64)) 101 w25 w.heap.size (fun k_ => ((fun _ => True)) k_ ∧ ¬ ((fun k_ => some k_ = (v118 : Value).ownBlock)) k_) (.slice (some ⟨go11, 0, none⟩) x5_1.length co11) x5_1 from (by (with_reducible repeat (first | apply Kd.S_alloc | apply Kd.S_drewN | apply Kd.S_drew)); exact Kd.S_mono HO_5.out (fun k_ hk => ⟨trivial, fun e_ => hk e_⟩))))); (try (obtain ⟨oki27, ce27, hcl27, hM27, hcc27, hfr27, hoki27, hH27⟩ := Kd.S_elem HX27.out [] (x6_1 : Int) (oda) (by have h_ : (x6_1 : Int) < ((x5_1.length : Int) : Int) := oda; first | exact h_ | (have e_ := (Kd.S_reads' HO_5.out).1; omega) | simpa using h_))); (try (obtain ⟨ve27_0, rfl, ge27_0⟩ := hM27)); (try (have HP27 := Kd.S_seg hH27 (oda) (by have h_ : (x6_1 : Int) < ((x5_1.length : Int) : Int) := oda; first | exact h_ | (have e_ := (Kd.S_reads' HO_5.out).1; omega) | simpa using h_) (seg := [v118]) (j := 0) (show 1 ≤ 1 from by decide) (x' := y117) (Kd.M_row (Kd.R_mono (Kd.R_tight rfl (Kd.R_mono (ok' := fun k_ => ((fun _ => True)) k_ ∧ k_ ≠ go11) (Kd.R_apart' (HO119.out) (Kd.S_typed HO_5.out) (by decide)) (fun k_ hk => ⟨trivial, fun e_ => (hk.2) (by rw [e_]; rfl)⟩))) (fun _ h_ => Or.inr (h_)))) (fun _ hk => hk) (fun k_ hk_ => ((Kd.R_mono (ok' := fun k_ => ((fun _ => True)) k_ ∧ k_ ≠ go11) (Kd.R_apart' (HO119.out) (Kd.S_typed HO_5.out) (by decide)) (fun k_ hk => ⟨trivial, fun e_ => (hk.2) (by rw [e_]; rfl)⟩))).1 k_ hk_.symm))); (try (have hx27_0 := hcc27 0 _ rfl)); (try (try simp only [show ((Kd.slice 3 (Kd.int .i64))).sz = 1 from rfl, Nat.mul_one, Nat.add_zero] at hx27_0)); (try (have hf27_0 := hfr27 0)); (try (try simp only [show ((Kd.slice 3 (Kd.int .i64))).sz = 1 from rfl, Nat.mul_one, Nat.add_zero] at hf27_0)); (try ((try clear hM27); clear hcl27 hcc27 hfr27 hoki27 hH27)); (try (try simp only [show ((Kd.slice 3 (Kd.int .i64))).sz = 1 from rfl, Nat.mul_one, Nat.add_zero] at HP27)))); refine store_event (t := 101) (p := 34) (v := ?vo_w28) (w1 := (w25.setCell ⟨go11, (x6_1 : Int).toNat, none⟩ (v118))) ?hg ?ho ?hn ?hr ?_; (case ho => rfl); (case hg => rfl); (case hn => rfl); (case hr => first | (go_simp; done) | (go_simp; rfl) | (obtain ⟨A_, c_, e_⟩ := HSL118.out; subst e_; first | (go_simp; done) | (go_simp; rfl))); intro w28 hw; have hg : w25.grownBy w28 (some go11) := (by rw [hw]; exact HP27.2); have hp_ : Kd.S (Kd.slice 3 (Kd.int .i64)) 101 w28 w.heap.size (fun _ => True) (.slice (some ⟨go11, 0, none⟩) x5_1.length co11) y120 := (by rw [hw, Ny120.out]; exact HP27.1); clear HP27; refine Ya2 (hp_) ((by rw [hw]; exact below_set (HB.out) GB11.out : Below w.heap.size w w28)) ?_; clear HO_5 HB HO119; intro HO_5 HB; clear hg hw hp_)))
              go_loopg [7] k1 (fun kq v7 w' => ∃ (x5_2 : List (List Int)) (x7_2 : Int), v7 = .int .i64 x7_2 ∧ Aside0 (spec_l7Table.l1 kq l0 l1 x5_2 x6_1 x7_2 = some r) ∧ Aside0 (kq ≤ k1) ∧ Aside0 (Kd.S (Kd.slice 3 (Kd.int .i64)) 101 w' w.heap.size (fun _ => True) (.slice (some ⟨go11, 0, none⟩) x5_1.length co11) x5_2) ∧ Aside0 (Below w.heap.size w w'))
              case atStart => exact ⟨(y120), (wrap64 ((l1.length : Int) - 1)), Ye1, H', ⟨Nat.le_refl _⟩, ⟨by (try simp only [hl5_1]); (with_reducible repeat (first | apply Kd.S_alloc | apply Kd.S_drewN | apply Kd.S_drew)); exact HO_5.out⟩, ⟨be HB.out⟩⟩
              case round =>
               clear H'
               try clear c1
               try clear p1
               try clear q1
               try clear hx1
               try clear c2
               try clear p2
               try clear q2
               try clear hx2
               try clear hf2
               try clear c4
               try clear c4b0
               try clear c4b1
               try clear c5
               try clear c5b0
               try clear c5b1
               try clear c6
               try clear p6
               try clear c7
               try clear c7b0
               try clear c7b1
               try clear c8
               try clear c8b0
               try clear c8b1
               try clear c9
               try clear c9b0
               try clear c9b1
               try clear c10
               try clear c10b0
               try clear c10b1
               try clear c11
               try clear p11
               try clear q11
               try clear hx11
               try clear hf11
               try clear c16
               try clear hx16
               try clear hf16
               try clear c18
               try clear c18b0
               try clear c20
               try clear c20b0
               try clear c20b1
               try clear c21
               try clear c21b0
               try clear c21b1
               try clear c22
               try clear c22b0
               try clear c23
               try clear c23b0
               try clear c24
               try clear p24
               try clear q24
               try clear hx24
               try clear hf24
               try clear c27
               try clear hx27
               try clear hf27
               try clear hx11_0
               try clear hx16_0
               try clear hx24_0
               try clear hx27_0
               try clear p1
               try clear p11
               try clear p2
               try clear p24
               try clear p6
               try clear q1
               try clear q11
               try clear q24
               obtain ⟨x5_2, x7_2, rfl, HA, HK2, HO_5, HB⟩ := hrel
               have hl5_2 := (Kd.S_reads' HO_5.out).1
               rw [hl5_2] at HO_5
               (try simp only [hl5_2])
               cases gk with
               | zero => exact absurd HA.out (by simp [spec_l7Table.l1])
               | succ k2 =>
                have H := HA.out
                clear HA
                simp only [spec_l7Table.l1] at H
                by_cases c29 : x7_2 ≥ 0
                ·rw [if_pos c29] at H
                 have c29b0 : decide (0 ≤ x7_2) = true := decide_eq_true c29
                 clear c29
                 obtain ⟨ji30, hji30⟩ : ∃ j_ : Int, (wrap64 (x6_1 + 1)) = j_ := ⟨_, rfl⟩
                 replace H : (if 0 ≤ (ji30) then (if (ji30) < (x5_2.length : Int) then (if 0 ≤ x7_2 then (if x7_2 < ((rd_L2 x5_2 (ji30)).length : Int) then (if 0 ≤ x6_1 then (if x6_1 < (x5_2.length : Int) then (if 0 ≤ (wrap64 (x7_2 + 1)) then (if (wrap64 (x7_2 + 1)) < ((rd_L2 x5_2 x6_1).length : Int) then (if (rd (rd_L2 x5_2 x6_1) (wrap64 (x7_2 + 1))) > (rd (rd_L2 x5_2 (ji30)) x7_2) then (if x6_1 < (l0.length : Int) then (if x7_2 < (l1.length : Int) then (if (rdOf ByteArray.empty l0 x6_1).toList = (rdOf ByteArray.empty l1 x7_2).toList then (if (wrap64 (x7_2 + 1)) < ((rd_L2 x5_2 (ji30)).length : Int) then (if (wrap64 ((rd (rd_L2 x5_2 (ji30)) (wrap64 (x7_2 + 1))) + 1)) > (rd (rd_L2 x5_2 x6_1) (wrap64 (x7_2 + 1))) then (if x7_2 < ((rd_L2 x5_2 x6_1).length : Int) then (spec_l7Table.l1 k2 l0 l1 (x5_2.set (x6_1 : Int).toNat ((rd_L2 x5_2 x6_1).set (x7_2 : Int).toNat (wrap64 ((rd (rd_L2 x5_2 (ji30)) (wrap64 (x7_2 + 1))) + 1)))) x6_1 (wrap64 (x7_2 - 1))) else (none)) else (if x7_2 < ((rd_L2 x5_2 x6_1).length : Int) then (spec_l7Table.l1 k2 l0 l1 (x5_2.set (x6_1 : Int).toNat ((rd_L2 x5_2 x6_1).set (x7_2 : Int).toNat (rd (rd_L2 x5_2 x6_1) (wrap64 (x7_2 + 1))))) x6_1 (wrap64 (x7_2 - 1))) else (none))) else (none)) else (if x7_2 < ((rd_L2 x5_2 x6_1).length : Int) then (spec_l7Table.l1 k2 l0 l1 (x5_2.set (x6_1 : Int).toNat ((rd_L2 x5_2 x6_1).set (x7_2 : Int).toNat (rd (rd_L2 x5_2 x6_1) (wrap64 (x7_2 + 1))))) x6_1 (wrap64 (x7_2 - 1))) else (none))) else (none)) else (none)) else (if x6_1 < (l0.length : Int) then (if x7_2 < (l1.length : Int) then (if (rdOf ByteArray.empty l0 x6_1).toList = (rdOf ByteArray.empty l1 x7_2).toList then (if (wrap64 (x7_2 + 1)) < ((rd_L2 x5_2 (ji30)).length : Int) then (if (wrap64 ((rd (rd_L2 x5_2 (ji30)) (wrap64 (x7_2 + 1))) + 1)) > (rd (rd_L2 x5_2 (ji30)) x7_2) then (if x7_2 < ((rd_L2 x5_2 x6_1).length : Int) then (spec_l7Table.l1 k2 l0 l1 (x5_2.set (x6_1 : Int).toNat ((rd_L2 x5_2 x6_1).set (x7_2 : Int).toNat (wrap64 ((rd (rd_L2 x5_2 (ji30)) (wrap64 (x7_2 + 1))) + 1)))) x6_1 (wrap64 (x7_2 - 1))) else (none)) else (if x7_2 < ((rd_L2 x5_2 x6_1).length : Int) then (spec_l7Table.l1 k2 l0 l1 (x5_2.set (x6_1 : Int).toNat ((rd_L2 x5_2 x6_1).set (x7_2 : Int).toNat (rd (rd_L2 x5_2 (ji30)) x7_2))) x6_1 (wrap64 (x7_2 - 1))) else (none))) else (none)) else (if x7_2 < ((rd_L2 x5_2 x6_1).length : Int) then (spec_l7Table.l1 k2 l0 l1 (x5_2.set (x6_1 : Int).toNat ((rd_L2 x5_2 x6_1).set (x7_2 : Int).toNat (rd (rd_L2 x5_2 (ji30)) x7_2))) x6_1 (wrap64 (x7_2 - 1))) else (none))) else (none)) else (none))) else (none)) else (none)) else (none)) else (none)) else (none)) else (none)) else (none)) else (none)) = some r := by first | (rw [hji30] at H; exact H) | (simp only [hji30] at H ⊢; exact H)
                 have hji30w : (IntKind.i64.wrap (x6_1 + 1)) = ji30 := (i64_w _).trans hji30
                 by_cases c31 : 0 ≤ (ji30)
                 ·rw [if_pos c31] at H
                  have c31b0 : decide (0 ≤ (ji30)) = true := decide_eq_true c31
                  clear c31
                  by_cases c32 : (ji30) < (x5_2.length : Int)
                  ·rw [if_pos c32] at H
                   have c32b0 : decide ((ji30) < (x5_2.length : Int)) = true := decide_eq_true c32
                   clear c32
                   by_cases c33 : 0 ≤ x7_2
                   ·rw [if_pos c33] at H
                    have c33b0 : decide (0 ≤ x7_2) = true := decide_eq_true c33
                    clear c33
                    by_cases c34 : x7_2 < ((rd_L2 x5_2 (ji30)).length : Int)
                    ·rw [if_pos c34] at H
                     have c34b0 : decide (x7_2 < ((rd_L2 x5_2 (ji30)).length : Int)) = true := decide_eq_true c34
                     clear c34
                     by_cases c35 : 0 ≤ x6_1
                     ·rw [if_pos c35] at H
                      have c35b0 : decide (0 ≤ x6_1) = true := decide_eq_true c35
                      clear c35
                      by_cases c36 : x6_1 < (x5_2.length : Int)
                      ·rw [if_pos c36] at H
                       have c36b0 : decide (x6_1 < (x5_2.length : Int)) = true := decide_eq_true c36
                       clear c36
                       obtain ⟨ji37, hji37⟩ : ∃ j_ : Int, (wrap64 (x7_2 + 1)) = j_ := ⟨_, rfl⟩
                       replace H : (if 0 ≤ (ji37) then (if (ji37) < ((rd_L2 x5_2 x6_1).length : Int) then (if (rd (rd_L2 x5_2 x6_1) (ji37)) > (rd (rd_L2 x5_2 (ji30)) x7_2) then (if x6_1 < (l0.length : Int) then (if x7_2 < (l1.length : Int) then (if (rdOf ByteArray.empty l0 x6_1).toList = (rdOf ByteArray.empty l1 x7_2).toList then (if (ji37) < ((rd_L2 x5_2 (ji30)).length : Int) then (if (wrap64 ((rd (rd_L2 x5_2 (ji30)) (ji37)) + 1)) > (rd (rd_L2 x5_2 x6_1) (ji37)) then (if x7_2 < ((rd_L2 x5_2 x6_1).length : Int) then (spec_l7Table.l1 k2 l0 l1 (x5_2.set (x6_1 : Int).toNat ((rd_L2 x5_2 x6_1).set (x7_2 : Int).toNat (wrap64 ((rd (rd_L2 x5_2 (ji30)) (ji37)) + 1)))) x6_1 (wrap64 (x7_2 - 1))) else (none)) else (if x7_2 < ((rd_L2 x5_2 x6_1).length : Int) then (spec_l7Table.l1 k2 l0 l1 (x5_2.set (x6_1 : Int).toNat ((rd_L2 x5_2 x6_1).set (x7_2 : Int).toNat (rd (rd_L2 x5_2 x6_1) (ji37)))) x6_1 (wrap64 (x7_2 - 1))) else (none))) else (none)) else (if x7_2 < ((rd_L2 x5_2 x6_1).length : Int) then (spec_l7Table.l1 k2 l0 l1 (x5_2.set (x6_1 : Int).toNat ((rd_L2 x5_2 x6_1).set (x7_2 : Int).toNat (rd (rd_L2 x5_2 x6_1) (ji37)))) x6_1 (wrap64 (x7_2 - 1))) else (none))) else (none)) else (none)) else (if x6_1 < (l0.length : Int) then (if x7_2 < (l1.length : Int) then (if (rdOf ByteArray.empty l0 x6_1).toList = (rdOf ByteArray.empty l1 x7_2).toList then (if (ji37) < ((rd_L2 x5_2 (ji30)).length : Int) then (if (wrap64 ((rd (rd_L2 x5_2 (ji30)) (ji37)) + 1)) > (rd (rd_L2 x5_2 (ji30)) x7_2) then (if x7_2 < ((rd_L2 x5_2 x6_1).length : Int) then (spec_l7Table.l1 k2 l0 l1 (x5_2.set (x6_1 : Int).toNat ((rd_L2 x5_2 x6_1).set (x7_2 : Int).toNat (wrap64 ((rd (rd_L2 x5_2 (ji30)) (ji37)) + 1)))) x6_1 (wrap64 (x7_2 - 1))) else (none)) else (if x7_2 < ((rd_L2 x5_2 x6_1).length : Int) then (spec_l7Table.l1 k2 l0 l1 (x5_2.set (x6_1 : Int).toNat ((rd_L2 x5_2 x6_1).set (x7_2 : Int).toNat (rd (rd_L2 x5_2 (ji30)) x7_2))) x6_1 (wrap64 (x7_2 - 1))) else (none))) else (none)) else (if x7_2 < ((rd_L2 x5_2 x6_1).length : Int) then (spec_l7Table.l1 k2 l0 l1 (x5_2.set (x6_1 : Int).toNat ((rd_L2 x5_2 x6_1).set (x7_2 : Int).toNat (rd (rd_L2 x5_2 (ji30)) x7_2))) x6_1 (wrap64 (x7_2 - 1))) else (none))) else (none)) else (none))) else (none)) else (none)) = some r := by first | (rw [hji37] at H; exact H) | (simp only [hji37] at H ⊢; exact H)
                       have hji37w : (IntKind.i64.wrap (x7_2 + 1)) = ji37 := (i64_w _).trans hji37
                       by_cases c38 : 0 ≤ (ji37)
                       ·rw [if_pos c38] at H
                        have c38b0 : decide (0 ≤ (ji37)) = true := decide_eq_true c38
                        clear c38
                        by_cases c39 : (ji37) < ((rd_L2 x5_2 x6_1).length : Int)
                        ·rw [if_pos c39] at H
                         have c39b0 : decide ((ji37) < ((rd_L2 x5_2 x6_1).length : Int)) = true := decide_eq_true c39
                         clear c39
                         by_cases c40 : (rd (rd_L2 x5_2 x6_1) (ji37)) > (rd (rd_L2 x5_2 (ji30)) x7_2)
                         ·rw [if_pos c40] at H
                          have c40b0 : decide ((rd (rd_L2 x5_2 (ji30)) x7_2) < (rd (rd_L2 x5_2 x6_1) (ji37))) = true := decide_eq_true c40
                          clear c40
                          by_cases c41 : x6_1 < (l0.length : Int)
                          ·rw [if_pos c41] at H
                           have c41b0 : decide (x6_1 < (l0.length : Int)) = true := decide_eq_true c41
                           clear c41
                           by_cases c42 : x7_2 < (l1.length : Int)
                           ·rw [if_pos c42] at H
                            have c42b0 : decide (x7_2 < (l1.length : Int)) = true := decide_eq_true c42
                            clear c42
                            by_cases c43 : (rdOf ByteArray.empty l0 x6_1).toList = (rdOf ByteArray.empty l1 x7_2).toList
                            ·rw [if_pos c43] at H
                             have c43b0 : ((rdOf ByteArray.empty l0 x6_1).toList == (rdOf ByteArray.empty l1 x7_2).toList) = true := beq_iff_eq.mpr c43
                             have c43b1 : ((rdOf ByteArray.empty l0 x6_1).toList != (rdOf ByteArray.empty l1 x7_2).toList) = false := bne_eq_false_iff_eq.mpr c43
                             clear c43
                             by_cases c44 : (ji37) < ((rd_L2 x5_2 (ji30)).length : Int)
                             ·rw [if_pos c44] at H
                              have c44b0 : decide ((ji37) < ((rd_L2 x5_2 (ji30)).length : Int)) = true := decide_eq_true c44
                              clear c44
                              by_cases c45 : (wrap64 ((rd (rd_L2 x5_2 (ji30)) (ji37)) + 1)) > (rd (rd_L2 x5_2 x6_1) (ji37))
                              ·rw [if_pos c45] at H
                               have c45b0 : decide ((rd (rd_L2 x5_2 x6_1) (ji37)) < (wrap64 ((rd (rd_L2 x5_2 (ji30)) (ji37)) + 1))) = true := decide_eq_true c45
                               clear c45
                               by_cases c46 : x7_2 < ((rd_L2 x5_2 x6_1).length : Int)
                               ·rw [if_pos c46] at H
                                have c46b0 : decide (x7_2 < ((rd_L2 x5_2 x6_1).length : Int)) = true := decide_eq_true c46
                                clear c46
                                obtain ⟨y134, hy134⟩ : ∃ y_ : List Int, y_ = ((rd_L2 x5_2 x6_1).set (x7_2 : Int).toNat (wrap64 ((rd (rd_L2 x5_2 (ji30)) (ji37)) + 1))) := ⟨_, rfl⟩
                                replace H : (spec_l7Table.l1 k2 l0 l1 (x5_2.set (x6_1 : Int).toNat y134) x6_1 (wrap64 (x7_2 - 1))) = some r := by first | (rw [hy134]; with_reducible exact H) | (have H2_ := (Option.bind_some _ _).symm.trans H; rw [hy134]; with_reducible exact H2_) | (have H2_ := (Option.bind_some _ _).symm.trans H; with_reducible exact H2_) | with_reducible exact H | (rw [hy134]; exact H) | exact H
                                have Ny134 := Aside0.mk hy134
                                clear hy134
                                obtain ⟨y136, hy136⟩ : ∃ y_ : List (List Int), y_ = (x5_2.set (x6_1 : Int).toNat y134) := ⟨_, rfl⟩
                                replace H : (spec_l7Table.l1 k2 l0 l1 y136 x6_1 (wrap64 (x7_2 - 1))) = some r := by first | (rw [hy136]; with_reducible exact H) | (have H2_ := (Option.bind_some _ _).symm.trans H; rw [hy136]; with_reducible exact H2_) | (have H2_ := (Option.bind_some _ _).symm.trans H; with_reducible exact H2_) | with_reducible exact H | (rw [hy136]; exact H) | exact H
                                have Ny136 := Aside0.mk hy136
                                clear hy136
                                have H' := Aside0.mk H
                                clear H
                                have p121 : 0 ≤ ((ji30) : Int) := oda
                                have q121 : (ji30) < (x5_2.length : Int) := oda
                                obtain ⟨ad121, A121_0, c121_0, e121, hx121_0, hl121_0, hi121_0⟩ := at_L2 (Kd.S_reads' HO_5.out).2.2 (ji30) p121 q121
                                obtain rfl : (⟨go11, 0, none⟩ : Addr) = ad121 := (by injection e121)
                                obtain ⟨ce121, hce121, hMe121, hcc121⟩ := Kd.S_get HO_5.out [] (ji30) p121 (by first | exact q121 | exact oda | (have e_ := (Kd.S_reads' HO_5.out).1; omega))
                                obtain ⟨ve121_0, rfl, ge121_0⟩ := hMe121
                                have hv121_0 := hcc121 0 _ rfl
                                rw [Nat.add_zero, show ((Kd.slice 3 (Kd.int .i64))).sz = 1 from rfl, Nat.mul_one] at hv121_0
                                replace hv121_0 := Option.some.inj (hv121_0.symm.trans hx121_0)
                                rw [hv121_0] at ge121_0
                                have HL121_0 := Aside0.mk (show Kd.R (Kd.int .i64) 3 _ _ _ _ (rd_L2 x5_2 (ji30)) from ge121_0)
                                clear hv121_0 ge121_0
                                have HX121_0 := Aside0.mk hx121_0
                                clear hcc121 hce121
                                (first | simp only [add_plain] at hx121_0 | simp only [add_at] at hx121_0 | simp only [Addr.add, Nat.zero_add] at hx121_0 | skip)
                                have HR121_0 := Aside0.mk hi121_0
                                have HC121_0 := Aside0.mk hl121_0
                                clear hi121_0 hl121_0
                                replace p121 := eq_true p121
                                replace q121 := eq_true q121
                                have p122 : 0 ≤ (x7_2 : Int) := oda
                                have q122 : x7_2 < ((rd_L2 x5_2 (ji30)).length : Int) := oda
                                obtain ⟨ad122, e122, hx122_0⟩ := Kd.at_int (by repeat (first | (with_reducible exact HR121_0.out) | (with_reducible refine Kd.C_alloc ?_ _) | (with_reducible refine Kd.C_drewN ?_ _) | (with_reducible refine Kd.C_drew ?_) | exact HR121_0.out)) x7_2 p122 q122
                                cases e122
                                replace p122 := eq_true p122
                                replace q122 := eq_true q122
                                have p123 : 0 ≤ (x6_1 : Int) := oda
                                have q123 : x6_1 < (x5_2.length : Int) := oda
                                obtain ⟨ad123, A123_0, c123_0, e123, hx123_0, hl123_0, hi123_0⟩ := at_L2 (Kd.S_reads' HO_5.out).2.2 x6_1 p123 q123
                                obtain rfl : (⟨go11, 0, none⟩ : Addr) = ad123 := (by injection e123)
                                obtain ⟨ce123, hce123, hMe123, hcc123⟩ := Kd.S_get HO_5.out [] x6_1 p123 (by first | exact q123 | exact oda | (have e_ := (Kd.S_reads' HO_5.out).1; omega))
                                obtain ⟨ve123_0, rfl, ge123_0⟩ := hMe123
                                have hv123_0 := hcc123 0 _ rfl
                                rw [Nat.add_zero, show ((Kd.slice 3 (Kd.int .i64))).sz = 1 from rfl, Nat.mul_one] at hv123_0
                                replace hv123_0 := Option.some.inj (hv123_0.symm.trans hx123_0)
                                rw [hv123_0] at ge123_0
                                have HL123_0 := Aside0.mk (show Kd.R (Kd.int .i64) 3 _ _ _ _ (rd_L2 x5_2 x6_1) from ge123_0)
                                clear hv123_0 ge123_0
                                have HX123_0 := Aside0.mk hx123_0
                                clear hcc123 hce123
                                (first | simp only [add_plain] at hx123_0 | simp only [add_at] at hx123_0 | simp only [Addr.add, Nat.zero_add] at hx123_0 | skip)
                                have HR123_0 := Aside0.mk hi123_0
                                have HC123_0 := Aside0.mk hl123_0
                                clear hi123_0 hl123_0
                                replace p123 := eq_true p123
                                replace q123 := eq_true q123
                                have p124 : 0 ≤ ((ji37) : Int) := oda
                                have q124 : (ji37) < ((rd_L2 x5_2 x6_1).length : Int) := oda
                                obtain ⟨ad124, e124, hx124_0⟩ := Kd.at_int (by repeat (first | (with_reducible exact HR123_0.out) | (with_reducible refine Kd.C_alloc ?_ _) | (with_reducible refine Kd.C_drewN ?_ _) | (with_reducible refine Kd.C_drew ?_) | exact HR123_0.out)) (ji37) p124 q124
                                cases e124
                                replace p124 := eq_true p124
                                replace q124 := eq_true q124
                                have p125 : 0 ≤ (x6_1 : Int) := oda
                                have q125 : x6_1 < (x5_2.length : Int) := oda
                                obtain ⟨ad125, A125_0, c125_0, e125, hx125_0, hl125_0, hi125_0⟩ := at_L2 (Kd.S_reads' HO_5.out).2.2 x6_1 p125 q125
                                obtain rfl : (⟨go11, 0, none⟩ : Addr) = ad125 := (by injection e125)
                                obtain ⟨ce125, hce125, hMe125, hcc125⟩ := Kd.S_get HO_5.out [] x6_1 p125 (by first | exact q125 | exact oda | (have e_ := (Kd.S_reads' HO_5.out).1; omega))
                                obtain ⟨ve125_0, rfl, ge125_0⟩ := hMe125
                                have hv125_0 := hcc125 0 _ rfl
                                rw [Nat.add_zero, show ((Kd.slice 3 (Kd.int .i64))).sz = 1 from rfl, Nat.mul_one] at hv125_0
                                replace hv125_0 := Option.some.inj (hv125_0.symm.trans hx125_0)
                                rw [hv125_0] at ge125_0
                                have HL125_0 := Aside0.mk (show Kd.R (Kd.int .i64) 3 _ _ _ _ (rd_L2 x5_2 x6_1) from ge125_0)
                                clear hv125_0 ge125_0
                                have HX125_0 := Aside0.mk hx125_0
                                clear hcc125 hce125
                                (first | simp only [add_plain] at hx125_0 | simp only [add_at] at hx125_0 | simp only [Addr.add, Nat.zero_add] at hx125_0 | skip)
                                have HR125_0 := Aside0.mk hi125_0
                                have HC125_0 := Aside0.mk hl125_0
                                clear hi125_0 hl125_0
                                replace p125 := eq_true p125
                                replace q125 := eq_true q125
                                have ea_ := Option.some.inj (hx123_0.symm.trans hx125_0)
                                injection ea_ with ea_ en_ ec_
                                subst ea_
                                subst ec_
                                clear en_
                                have p126 : 0 ≤ ((ji37) : Int) := oda
                                have q126 : (ji37) < ((rd_L2 x5_2 x6_1).length : Int) := oda
                                obtain ⟨ad126, e126, hx126_0⟩ := Kd.at_int (by repeat (first | (with_reducible exact HR125_0.out) | (with_reducible refine Kd.C_alloc ?_ _) | (with_reducible refine Kd.C_drewN ?_ _) | (with_reducible refine Kd.C_drew ?_) | exact HR125_0.out)) (ji37) p126 q126
                                cases e126
                                replace p126 := eq_true p126
                                replace q126 := eq_true q126
                                have p127 : 0 ≤ (x6_1 : Int) := oda
                                have q127 : x6_1 < (l0.length : Int) := oda
                                obtain ⟨ad127, e127, hx127_0⟩ := Kd.at_string (Kd.C_below HR0.out HB.out) x6_1 p127 q127
                                cases e127
                                replace p127 := eq_true p127
                                replace q127 := eq_true q127
                                have p128 : 0 ≤ (x7_2 : Int) := oda
                                have q128 : x7_2 < (l1.length : Int) := oda
                                obtain ⟨ad128, e128, hx128_0⟩ := Kd.at_string (Kd.C_below HR1.out HB.out) x7_2 p128 q128
                                cases e128
                                replace p128 := eq_true p128
                                replace q128 := eq_true q128
                                have p129 : 0 ≤ ((ji30) : Int) := oda
                                have q129 : (ji30) < (x5_2.length : Int) := oda
                                obtain ⟨ad129, A129_0, c129_0, e129, hx129_0, hl129_0, hi129_0⟩ := at_L2 (Kd.S_reads' HO_5.out).2.2 (ji30) p129 q129
                                obtain rfl : (⟨go11, 0, none⟩ : Addr) = ad129 := (by injection e129)
                                obtain ⟨ce129, hce129, hMe129, hcc129⟩ := Kd.S_get HO_5.out [] (ji30) p129 (by first | exact q129 | exact oda | (have e_ := (Kd.S_reads' HO_5.out).1; omega))
                                obtain ⟨ve129_0, rfl, ge129_0⟩ := hMe129
                                have hv129_0 := hcc129 0 _ rfl
                                rw [Nat.add_zero, show ((Kd.slice 3 (Kd.int .i64))).sz = 1 from rfl, Nat.mul_one] at hv129_0
                                replace hv129_0 := Option.some.inj (hv129_0.symm.trans hx129_0)
                                rw [hv129_0] at ge129_0
                                have HL129_0 := Aside0.mk (show Kd.R (Kd.int .i64) 3 _ _ _ _ (rd_L2 x5_2 (ji30)) from ge129_0)
                                clear hv129_0 ge129_0
                                have HX129_0 := Aside0.mk hx129_0
                                clear hcc129 hce129
                                (first | simp only [add_plain] at hx129_0 | simp only [add_at] at hx129_0 | simp only [Addr.add, Nat.zero_add] at hx129_0 | skip)
                                have HR129_0 := Aside0.mk hi129_0
                                have HC129_0 := Aside0.mk hl129_0
                                clear hi129_0 hl129_0
                                replace p129 := eq_true p129
                                replace q129 := eq_true q129
                                have ea_ := Option.some.inj (hx121_0.symm.trans hx129_0)
                                injection ea_ with ea_ en_ ec_
                                subst ea_
                                subst ec_
                                clear en_
                                have p130 : 0 ≤ ((ji37) : Int) := oda
                                have q130 : (ji37) < ((rd_L2 x5_2 (ji30)).length : Int) := oda
                                obtain ⟨ad130, e130, hx130_0⟩ := Kd.at_int (by repeat (first | (with_reducible exact HR129_0.out) | (with_reducible refine Kd.C_alloc ?_ _) | (with_reducible refine Kd.C_drewN ?_ _) | (with_reducible refine Kd.C_drew ?_) | exact HR129_0.out)) (ji37) p130 q130
                                cases e130
                                replace p130 := eq_true p130
                                replace q130 := eq_true q130
                                have p131 : 0 ≤ ((ji30) : Int) := oda
                                have q131 : (ji30) < (x5_2.length : Int) := oda
                                obtain ⟨ad131, A131_0, c131_0, e131, hx131_0, hl131_0, hi131_0⟩ := at_L2 (Kd.S_reads' HO_5.out).2.2 (ji30) p131 q131
                                obtain rfl : (⟨go11, 0, none⟩ : Addr) = ad131 := (by injection e131)
                                obtain ⟨ce131, hce131, hMe131, hcc131⟩ := Kd.S_get HO_5.out [] (ji30) p131 (by first | exact q131 | exact oda | (have e_ := (Kd.S_reads' HO_5.out).1; omega))
                                obtain ⟨ve131_0, rfl, ge131_0⟩ := hMe131
                                have hv131_0 := hcc131 0 _ rfl
                                rw [Nat.add_zero, show ((Kd.slice 3 (Kd.int .i64))).sz = 1 from rfl, Nat.mul_one] at hv131_0
                                replace hv131_0 := Option.some.inj (hv131_0.symm.trans hx131_0)
                                rw [hv131_0] at ge131_0
                                have HL131_0 := Aside0.mk (show Kd.R (Kd.int .i64) 3 _ _ _ _ (rd_L2 x5_2 (ji30)) from ge131_0)
                                clear hv131_0 ge131_0
                                have HX131_0 := Aside0.mk hx131_0
                                clear hcc131 hce131
                                (first | simp only [add_plain] at hx131_0 | simp only [add_at] at hx131_0 | simp only [Addr.add, Nat.zero_add] at hx131_0 | skip)
                                have HR131_0 := Aside0.mk hi131_0
                                have HC131_0 := Aside0.mk hl131_0
                                clear hi131_0 hl131_0
                                replace p131 := eq_true p131
                                replace q131 := eq_true q131
                                have ea_ := Option.some.inj (hx121_0.symm.trans hx131_0)
                                injection ea_ with ea_ en_ ec_
                                subst ea_
                                subst ec_
                                clear en_
                                have p132 : 0 ≤ ((ji37) : Int) := oda
                                have q132 : (ji37) < ((rd_L2 x5_2 (ji30)).length : Int) := oda
                                obtain ⟨ad132, e132, hx132_0⟩ := Kd.at_int (by repeat (first | (with_reducible exact HR131_0.out) | (with_reducible refine Kd.C_alloc ?_ _) | (with_reducible refine Kd.C_drewN ?_ _) | (with_reducible refine Kd.C_drew ?_) | exact HR131_0.out)) (ji37) p132 q132
                                cases e132
                                replace p132 := eq_true p132
                                replace q132 := eq_true q132
                                have p133 : 0 ≤ (x6_1 : Int) := oda
                                have q133 : x6_1 < (x5_2.length : Int) := oda
                                obtain ⟨ad133, A133_0, c133_0, e133, hx133_0, hl133_0, hi133_0⟩ := at_L2 (Kd.S_reads' HO_5.out).2.2 x6_1 p133 q133
                                obtain rfl : (⟨go11, 0, none⟩ : Addr) = ad133 := (by injection e133)
                                obtain ⟨ce133, hce133, hMe133, hcc133⟩ := Kd.S_get HO_5.out [] x6_1 p133 (by first | exact q133 | exact oda | (have e_ := (Kd.S_reads' HO_5.out).1; omega))
                                obtain ⟨ve133_0, rfl, ge133_0⟩ := hMe133
                                have hv133_0 := hcc133 0 _ rfl
                                rw [Nat.add_zero, show ((Kd.slice 3 (Kd.int .i64))).sz = 1 from rfl, Nat.mul_one] at hv133_0
                                replace hv133_0 := Option.some.inj (hv133_0.symm.trans hx133_0)
                                rw [hv133_0] at ge133_0
                                have HL133_0 := Aside0.mk (show Kd.R (Kd.int .i64) 3 _ _ _ _ (rd_L2 x5_2 x6_1) from ge133_0)
                                clear hv133_0 ge133_0
                                have HX133_0 := Aside0.mk hx133_0
                                clear hcc133 hce133
                                (first | simp only [add_plain] at hx133_0 | simp only [add_at] at hx133_0 | simp only [Addr.add, Nat.zero_add] at hx133_0 | skip)
                                have HR133_0 := Aside0.mk hi133_0
                                have HC133_0 := Aside0.mk hl133_0
                                clear hi133_0 hl133_0
                                replace p133 := eq_true p133
                                replace q133 := eq_true q133
                                have ea_ := Option.some.inj (hx123_0.symm.trans hx133_0)
                                injection ea_ with ea_ en_ ec_
                                subst ea_
                                subst ec_
                                clear en_
                                have p47 : 0 ≤ (x7_2 : Int) := oda
                                have q47 : (x7_2 : Int) < (((rd_L2 x5_2 x6_1).length : Int) : Int) := oda
                                obtain ⟨go47, co47, eo47, gb47, gl47, cl47, HG47⟩ := Kd.R_form HL133_0.out (by omega)
                                (first | cases eo47 | (injection eo47 with ea_ en_ ec_; (first | subst ea_ | (injection ea_ with ea_; subst ea_)); subst ec_; clear en_))
                                have GB47 := Aside0.mk gb47
                                have GG47 := Aside0.mk HG47
                                clear gb47 gl47 HG47
                                (first | simp only [add_plain] at hx126_0 | skip)
                                obtain ⟨hx47_0, hf47_0⟩ := Kd.R_celln 0 HL133_0.out (x7_2 : Int) p47 q47
                                replace p47 := eq_true p47
                                replace q47 := eq_true q47
                                have hq48 : (x6_1 : Int) < (x5_2.length : Int) := (by have h_ : (x6_1 : Int) < ((x5_2.length : Int) : Int) := oda; first | exact h_ | (have e_ := (Kd.S_reads' HO_5.out).1; omega) | simpa only [List.length_set, List.length_set] using h_)
                                obtain ⟨oki48, ce48, hcl48, hM48, hcc48, hok48, hbk48⟩ := Kd.S_borrow HO_5.out [] (x6_1 : Int) (oda) hq48
                                obtain ⟨ve48_0, rfl, ge48_0⟩ := hM48
                                have hv48 := hcc48 0 _ rfl
                                rw [Nat.add_zero, show ((Kd.slice 3 (Kd.int .i64))).sz = 1 from rfl, Nat.mul_one] at hv48
                                replace hv48 := Option.some.inj (hv48.symm.trans HX133_0.out)
                                subst hv48
                                clear hcc48 hcl48
                                replace ge48_0 := (show Kd.R (Kd.int .i64) 3 _ _ _ _ (rd_L2 x5_2 x6_1) from ge48_0)
                                have HP48 := Kd.R_putg ge48_0 (x7_2 : Int) (wrap64 ((rd (rd_L2 x5_2 (ji30)) (ji37)) + 1))
                                go_wp2
                                repeat (go_quiet (fail); try go_wp2)
                                (try simp only [← hl5_2])
                                go_roundg k2
                                case measure => have := HK1.out; have := HK2.out; omega
                                case rel => exact ⟨(y136), (wrap64 (x7_2 - 1)), Ye1, H', ⟨by have := HK1.out; have := HK2.out; omega⟩, ⟨by (try simp only [hl5_1]); (try simp only [hl5_2]); rw [Ny136.out, Ny134.out]; exact Kd.S_drewN (hbk48 HP48.2 (fun k_ e_ => by cases e_; exact ge48_0.1 _ rfl) ⟨_, rfl, HP48.1⟩) nq⟩, ⟨below_set (pw_below_drewN HB.out _) GB47.out⟩⟩
                               ·rw [if_neg c46] at H
                                exact absurd H (by simp)
                              ·rw [if_neg c45] at H
                               have c45b0 : decide ((rd (rd_L2 x5_2 x6_1) (ji37)) < (wrap64 ((rd (rd_L2 x5_2 (ji30)) (ji37)) + 1))) = false := decide_eq_false c45
                               clear c45
                               by_cases c50 : x7_2 < ((rd_L2 x5_2 x6_1).length : Int)
                               ·rw [if_pos c50] at H
                                have c50b0 : decide (x7_2 < ((rd_L2 x5_2 x6_1).length : Int)) = true := decide_eq_true c50
                                clear c50
                                obtain ⟨y138, hy138⟩ : ∃ y_ : List Int, y_ = ((rd_L2 x5_2 x6_1).set (x7_2 : Int).toNat (rd (rd_L2 x5_2 x6_1) (ji37))) := ⟨_, rfl⟩
                                replace H : (spec_l7Table.l1 k2 l0 l1 (x5_2.set (x6_1 : Int).toNat y138) x6_1 (wrap64 (x7_2 - 1))) = some r := by first | (rw [hy138]; with_reducible exact H) | (have H2_ := (Option.bind_some _ _).symm.trans H; rw [hy138]; with_reducible exact H2_) | (have H2_ := (Option.bind_some _ _).symm.trans H; with_reducible exact H2_) | with_reducible exact H | (rw [hy138]; exact H) | exact H
                                have Ny138 := Aside0.mk hy138
                                clear hy138
                                obtain ⟨y140, hy140⟩ : ∃ y_ : List (List Int), y_ = (x5_2.set (x6_1 : Int).toNat y138) := ⟨_, rfl⟩
                                replace H : (spec_l7Table.l1 k2 l0 l1 y140 x6_1 (wrap64 (x7_2 - 1))) = some r := by first | (rw [hy140]; with_reducible exact H) | (have H2_ := (Option.bind_some _ _).symm.trans H; rw [hy140]; with_reducible exact H2_) | (have H2_ := (Option.bind_some _ _).symm.trans H; with_reducible exact H2_) | with_reducible exact H | (rw [hy140]; exact H) | exact H
                                have Ny140 := Aside0.mk hy140
                                clear hy140
                                have H' := Aside0.mk H
                                clear H
                                have p121 : 0 ≤ ((ji30) : Int) := oda
                                have q121 : (ji30) < (x5_2.length : Int) := oda
                                obtain ⟨ad121, A121_0, c121_0, e121, hx121_0, hl121_0, hi121_0⟩ := at_L2 (Kd.S_reads' HO_5.out).2.2 (ji30) p121 q121
                                obtain rfl : (⟨go11, 0, none⟩ : Addr) = ad121 := (by injection e121)
                                obtain ⟨ce121, hce121, hMe121, hcc121⟩ := Kd.S_get HO_5.out [] (ji30) p121 (by first | exact q121 | exact oda | (have e_ := (Kd.S_reads' HO_5.out).1; omega))
                                obtain ⟨ve121_0, rfl, ge121_0⟩ := hMe121
                                have hv121_0 := hcc121 0 _ rfl
                                rw [Nat.add_zero, show ((Kd.slice 3 (Kd.int .i64))).sz = 1 from rfl, Nat.mul_one] at hv121_0
                                replace hv121_0 := Option.some.inj (hv121_0.symm.trans hx121_0)
                                rw [hv121_0] at ge121_0
                                have HL121_0 := Aside0.mk (show Kd.R (Kd.int .i64) 3 _ _ _ _ (rd_L2 x5_2 (ji30)) from ge121_0)
                                clear hv121_0 ge121_0
                                have HX121_0 := Aside0.mk hx121_0
                                clear hcc121 hce121
                                (first | simp only [add_plain] at hx121_0 | simp only [add_at] at hx121_0 | simp only [Addr.add, Nat.zero_add] at hx121_0 | skip)
                                have HR121_0 := Aside0.mk hi121_0
                                have HC121_0 := Aside0.mk hl121_0
                                clear hi121_0 hl121_0
                                replace p121 := eq_true p121
                                replace q121 := eq_true q121
                                have p122 : 0 ≤ (x7_2 : Int) := oda
                                have q122 : x7_2 < ((rd_L2 x5_2 (ji30)).length : Int) := oda
                                obtain ⟨ad122, e122, hx122_0⟩ := Kd.at_int (by repeat (first | (with_reducible exact HR121_0.out) | (with_reducible refine Kd.C_alloc ?_ _) | (with_reducible refine Kd.C_drewN ?_ _) | (with_reducible refine Kd.C_drew ?_) | exact HR121_0.out)) x7_2 p122 q122
                                cases e122
                                replace p122 := eq_true p122
                                replace q122 := eq_true q122
                                have p123 : 0 ≤ (x6_1 : Int) := oda
                                have q123 : x6_1 < (x5_2.length : Int) := oda
                                obtain ⟨ad123, A123_0, c123_0, e123, hx123_0, hl123_0, hi123_0⟩ := at_L2 (Kd.S_reads' HO_5.out).2.2 x6_1 p123 q123
                                obtain rfl : (⟨go11, 0, none⟩ : Addr) = ad123 := (by injection e123)
                                obtain ⟨ce123, hce123, hMe123, hcc123⟩ := Kd.S_get HO_5.out [] x6_1 p123 (by first | exact q123 | exact oda | (have e_ := (Kd.S_reads' HO_5.out).1; omega))
                                obtain ⟨ve123_0, rfl, ge123_0⟩ := hMe123
                                have hv123_0 := hcc123 0 _ rfl
                                rw [Nat.add_zero, show ((Kd.slice 3 (Kd.int .i64))).sz = 1 from rfl, Nat.mul_one] at hv123_0
                                replace hv123_0 := Option.some.inj (hv123_0.symm.trans hx123_0)
                                rw [hv123_0] at ge123_0
                                have HL123_0 := Aside0.mk (show Kd.R (Kd.int .i64) 3 _ _ _ _ (rd_L2 x5_2 x6_1) from ge123_0)
                                clear hv123_0 ge123_0
                                have HX123_0 := Aside0.mk hx123_0
                                clear hcc123 hce123
                                (first | simp only [add_plain] at hx123_0 | simp only [add_at] at hx123_0 | simp only [Addr.add, Nat.zero_add] at hx123_0 | skip)
                                have HR123_0 := Aside0.mk hi123_0
                                have HC123_0 := Aside0.mk hl123_0
                                clear hi123_0 hl123_0
                                replace p123 := eq_true p123
                                replace q123 := eq_true q123
                                have p124 : 0 ≤ ((ji37) : Int) := oda
                                have q124 : (ji37) < ((rd_L2 x5_2 x6_1).length : Int) := oda
                                obtain ⟨ad124, e124, hx124_0⟩ := Kd.at_int (by repeat (first | (with_reducible exact HR123_0.out) | (with_reducible refine Kd.C_alloc ?_ _) | (with_reducible refine Kd.C_drewN ?_ _) | (with_reducible refine Kd.C_drew ?_) | exact HR123_0.out)) (ji37) p124 q124
                                cases e124
                                replace p124 := eq_true p124
                                replace q124 := eq_true q124
                                have p125 : 0 ≤ (x6_1 : Int) := oda
                                have q125 : x6_1 < (x5_2.length : Int) := oda
                                obtain ⟨ad125, A125_0, c125_0, e125, hx125_0, hl125_0, hi125_0⟩ := at_L2 (Kd.S_reads' HO_5.out).2.2 x6_1 p125 q125
                                obtain rfl : (⟨go11, 0, none⟩ : Addr) = ad125 := (by injection e125)
                                obtain ⟨ce125, hce125, hMe125, hcc125⟩ := Kd.S_get HO_5.out [] x6_1 p125 (by first | exact q125 | exact oda | (have e_ := (Kd.S_reads' HO_5.out).1; omega))
                                obtain ⟨ve125_0, rfl, ge125_0⟩ := hMe125
                                have hv125_0 := hcc125 0 _ rfl
                                rw [Nat.add_zero, show ((Kd.slice 3 (Kd.int .i64))).sz = 1 from rfl, Nat.mul_one] at hv125_0
                                replace hv125_0 := Option.some.inj (hv125_0.symm.trans hx125_0)
                                rw [hv125_0] at ge125_0
                                have HL125_0 := Aside0.mk (show Kd.R (Kd.int .i64) 3 _ _ _ _ (rd_L2 x5_2 x6_1) from ge125_0)
                                clear hv125_0 ge125_0
                                have HX125_0 := Aside0.mk hx125_0
                                clear hcc125 hce125
                                (first | simp only [add_plain] at hx125_0 | simp only [add_at] at hx125_0 | simp only [Addr.add, Nat.zero_add] at hx125_0 | skip)
                                have HR125_0 := Aside0.mk hi125_0
                                have HC125_0 := Aside0.mk hl125_0
                                clear hi125_0 hl125_0
                                replace p125 := eq_true p125
                                replace q125 := eq_true q125
                                have ea_ := Option.some.inj (hx123_0.symm.trans hx125_0)
                                injection ea_ with ea_ en_ ec_
                                subst ea_
                                subst ec_
                                clear en_
                                have p126 : 0 ≤ ((ji37) : Int) := oda
                                have q126 : (ji37) < ((rd_L2 x5_2 x6_1).length : Int) := oda
                                obtain ⟨ad126, e126, hx126_0⟩ := Kd.at_int (by repeat (first | (with_reducible exact HR125_0.out) | (with_reducible refine Kd.C_alloc ?_ _) | (with_reducible refine Kd.C_drewN ?_ _) | (with_reducible refine Kd.C_drew ?_) | exact HR125_0.out)) (ji37) p126 q126
                                cases e126
                                replace p126 := eq_true p126
                                replace q126 := eq_true q126
                                have p127 : 0 ≤ (x6_1 : Int) := oda
                                have q127 : x6_1 < (l0.length : Int) := oda
                                obtain ⟨ad127, e127, hx127_0⟩ := Kd.at_string (Kd.C_below HR0.out HB.out) x6_1 p127 q127
                                cases e127
                                replace p127 := eq_true p127
                                replace q127 := eq_true q127
                                have p128 : 0 ≤ (x7_2 : Int) := oda
                                have q128 : x7_2 < (l1.length : Int) := oda
                                obtain ⟨ad128, e128, hx128_0⟩ := Kd.at_string (Kd.C_below HR1.out HB.out) x7_2 p128 q128
                                cases e128
                                replace p128 := eq_true p128
                                replace q128 := eq_true q128
                                have p129 : 0 ≤ ((ji30) : Int) := oda
                                have q129 : (ji30) < (x5_2.length : Int) := oda
                                obtain ⟨ad129, A129_0, c129_0, e129, hx129_0, hl129_0, hi129_0⟩ := at_L2 (Kd.S_reads' HO_5.out).2.2 (ji30) p129 q129
                                obtain rfl : (⟨go11, 0, none⟩ : Addr) = ad129 := (by injection e129)
                                obtain ⟨ce129, hce129, hMe129, hcc129⟩ := Kd.S_get HO_5.out [] (ji30) p129 (by first | exact q129 | exact oda | (have e_ := (Kd.S_reads' HO_5.out).1; omega))
                                obtain ⟨ve129_0, rfl, ge129_0⟩ := hMe129
                                have hv129_0 := hcc129 0 _ rfl
                                rw [Nat.add_zero, show ((Kd.slice 3 (Kd.int .i64))).sz = 1 from rfl, Nat.mul_one] at hv129_0
                                replace hv129_0 := Option.some.inj (hv129_0.symm.trans hx129_0)
                                rw [hv129_0] at ge129_0
                                have HL129_0 := Aside0.mk (show Kd.R (Kd.int .i64) 3 _ _ _ _ (rd_L2 x5_2 (ji30)) from ge129_0)
                                clear hv129_0 ge129_0
                                have HX129_0 := Aside0.mk hx129_0
                                clear hcc129 hce129
                                (first | simp only [add_plain] at hx129_0 | simp only [add_at] at hx129_0 | simp only [Addr.add, Nat.zero_add] at hx129_0 | skip)
                                have HR129_0 := Aside0.mk hi129_0
                                have HC129_0 := Aside0.mk hl129_0
                                clear hi129_0 hl129_0
                                replace p129 := eq_true p129
                                replace q129 := eq_true q129
                                have ea_ := Option.some.inj (hx121_0.symm.trans hx129_0)
                                injection ea_ with ea_ en_ ec_
                                subst ea_
                                subst ec_
                                clear en_
                                have p130 : 0 ≤ ((ji37) : Int) := oda
                                have q130 : (ji37) < ((rd_L2 x5_2 (ji30)).length : Int) := oda
                                obtain ⟨ad130, e130, hx130_0⟩ := Kd.at_int (by repeat (first | (with_reducible exact HR129_0.out) | (with_reducible refine Kd.C_alloc ?_ _) | (with_reducible refine Kd.C_drewN ?_ _) | (with_reducible refine Kd.C_drew ?_) | exact HR129_0.out)) (ji37) p130 q130
                                cases e130
                                replace p130 := eq_true p130
                                replace q130 := eq_true q130
                                have p137 : 0 ≤ (x6_1 : Int) := oda
                                have q137 : x6_1 < (x5_2.length : Int) := oda
                                obtain ⟨ad137, A137_0, c137_0, e137, hx137_0, hl137_0, hi137_0⟩ := at_L2 (Kd.S_reads' HO_5.out).2.2 x6_1 p137 q137
                                obtain rfl : (⟨go11, 0, none⟩ : Addr) = ad137 := (by injection e137)
                                obtain ⟨ce137, hce137, hMe137, hcc137⟩ := Kd.S_get HO_5.out [] x6_1 p137 (by first | exact q137 | exact oda | (have e_ := (Kd.S_reads' HO_5.out).1; omega))
                                obtain ⟨ve137_0, rfl, ge137_0⟩ := hMe137
                                have hv137_0 := hcc137 0 _ rfl
                                rw [Nat.add_zero, show ((Kd.slice 3 (Kd.int .i64))).sz = 1 from rfl, Nat.mul_one] at hv137_0
                                replace hv137_0 := Option.some.inj (hv137_0.symm.trans hx137_0)
                                rw [hv137_0] at ge137_0
                                have HL137_0 := Aside0.mk (show Kd.R (Kd.int .i64) 3 _ _ _ _ (rd_L2 x5_2 x6_1) from ge137_0)
                                clear hv137_0 ge137_0
                                have HX137_0 := Aside0.mk hx137_0
                                clear hcc137 hce137
                                (first | simp only [add_plain] at hx137_0 | simp only [add_at] at hx137_0 | simp only [Addr.add, Nat.zero_add] at hx137_0 | skip)
                                have HR137_0 := Aside0.mk hi137_0
                                have HC137_0 := Aside0.mk hl137_0
                                clear hi137_0 hl137_0
                                replace p137 := eq_true p137
                                replace q137 := eq_true q137
                                have ea_ := Option.some.inj (hx123_0.symm.trans hx137_0)
                                injection ea_ with ea_ en_ ec_
                                subst ea_
                                subst ec_
                                clear en_
                                have p51 : 0 ≤ (x7_2 : Int) := oda
                                have q51 : (x7_2 : Int) < (((rd_L2 x5_2 x6_1).length : Int) : Int) := oda
                                obtain ⟨go51, co51, eo51, gb51, gl51, cl51, HG51⟩ := Kd.R_form HL137_0.out (by omega)
                                (first | cases eo51 | (injection eo51 with ea_ en_ ec_; (first | subst ea_ | (injection ea_ with ea_; subst ea_)); subst ec_; clear en_))
                                have GB51 := Aside0.mk gb51
                                have GG51 := Aside0.mk HG51
                                clear gb51 gl51 HG51
                                (first | simp only [add_plain] at hx126_0 | skip)
                                obtain ⟨hx51_0, hf51_0⟩ := Kd.R_celln 0 HL137_0.out (x7_2 : Int) p51 q51
                                replace p51 := eq_true p51
                                replace q51 := eq_true q51
                                have hq52 : (x6_1 : Int) < (x5_2.length : Int) := (by have h_ : (x6_1 : Int) < ((x5_2.length : Int) : Int) := oda; first | exact h_ | (have e_ := (Kd.S_reads' HO_5.out).1; omega) | simpa only [List.length_set, List.length_set] using h_)
                                obtain ⟨oki52, ce52, hcl52, hM52, hcc52, hok52, hbk52⟩ := Kd.S_borrow HO_5.out [] (x6_1 : Int) (oda) hq52
                                obtain ⟨ve52_0, rfl, ge52_0⟩ := hM52
                                have hv52 := hcc52 0 _ rfl
                                rw [Nat.add_zero, show ((Kd.slice 3 (Kd.int .i64))).sz = 1 from rfl, Nat.mul_one] at hv52
                                replace hv52 := Option.some.inj (hv52.symm.trans HX137_0.out)
                                subst hv52
                                clear hcc52 hcl52
                                replace ge52_0 := (show Kd.R (Kd.int .i64) 3 _ _ _ _ (rd_L2 x5_2 x6_1) from ge52_0)
                                have HP52 := Kd.R_putg ge52_0 (x7_2 : Int) (rd (rd_L2 x5_2 x6_1) (ji37))
                                go_wp2
                                repeat (go_quiet (fail); try go_wp2)
                                (try simp only [← hl5_2])
                                go_roundg k2
                                case measure => have := HK1.out; have := HK2.out; omega
                                case rel => exact ⟨(y140), (wrap64 (x7_2 - 1)), Ye1, H', ⟨by have := HK1.out; have := HK2.out; omega⟩, ⟨by (try simp only [hl5_1]); (try simp only [hl5_2]); rw [Ny140.out, Ny138.out]; exact Kd.S_drewN (hbk52 HP52.2 (fun k_ e_ => by cases e_; exact ge52_0.1 _ rfl) ⟨_, rfl, HP52.1⟩) nq⟩, ⟨below_set (pw_below_drewN HB.out _) GB51.out⟩⟩
                               ·rw [if_neg c50] at H
                                exact absurd H (by simp)
                             ·rw [if_neg c44] at H
                              exact absurd H (by simp)
                            ·rw [if_neg c43] at H
                             have c43b0 : ((rdOf ByteArray.empty l0 x6_1).toList == (rdOf ByteArray.empty l1 x7_2).toList) = false := beq_eq_false_iff_ne.mpr c43
                             have c43b1 : ((rdOf ByteArray.empty l0 x6_1).toList != (rdOf ByteArray.empty l1 x7_2).toList) = true := bne_iff_ne.mpr c43
                             by_cases c54 : x7_2 < ((rd_L2 x5_2 x6_1).length : Int)
                             ·rw [if_pos c54] at H
                              have c54b0 : decide (x7_2 < ((rd_L2 x5_2 x6_1).length : Int)) = true := decide_eq_true c54
                              clear c54
                              obtain ⟨y142, hy142⟩ : ∃ y_ : List Int, y_ = ((rd_L2 x5_2 x6_1).set (x7_2 : Int).toNat (rd (rd_L2 x5_2 x6_1) (ji37))) := ⟨_, rfl⟩
                              replace H : (spec_l7Table.l1 k2 l0 l1 (x5_2.set (x6_1 : Int).toNat y142) x6_1 (wrap64 (x7_2 - 1))) = some r := by first | (rw [hy142]; with_reducible exact H) | (have H2_ := (Option.bind_some _ _).symm.trans H; rw [hy142]; with_reducible exact H2_) | (have H2_ := (Option.bind_some _ _).symm.trans H; with_reducible exact H2_) | with_reducible exact H | (rw [hy142]; exact H) | exact H
                              have Ny142 := Aside0.mk hy142
                              clear hy142
                              obtain ⟨y144, hy144⟩ : ∃ y_ : List (List Int), y_ = (x5_2.set (x6_1 : Int).toNat y142) := ⟨_, rfl⟩
                              replace H : (spec_l7Table.l1 k2 l0 l1 y144 x6_1 (wrap64 (x7_2 - 1))) = some r := by first | (rw [hy144]; with_reducible exact H) | (have H2_ := (Option.bind_some _ _).symm.trans H; rw [hy144]; with_reducible exact H2_) | (have H2_ := (Option.bind_some _ _).symm.trans H; with_reducible exact H2_) | with_reducible exact H | (rw [hy144]; exact H) | exact H
                              have Ny144 := Aside0.mk hy144
                              clear hy144
                              have H' := Aside0.mk H
                              clear H
                              have p121 : 0 ≤ ((ji30) : Int) := oda
                              have q121 : (ji30) < (x5_2.length : Int) := oda
                              obtain ⟨ad121, A121_0, c121_0, e121, hx121_0, hl121_0, hi121_0⟩ := at_L2 (Kd.S_reads' HO_5.out).2.2 (ji30) p121 q121
                              obtain rfl : (⟨go11, 0, none⟩ : Addr) = ad121 := (by injection e121)
                              obtain ⟨ce121, hce121, hMe121, hcc121⟩ := Kd.S_get HO_5.out [] (ji30) p121 (by first | exact q121 | exact oda | (have e_ := (Kd.S_reads' HO_5.out).1; omega))
                              obtain ⟨ve121_0, rfl, ge121_0⟩ := hMe121
                              have hv121_0 := hcc121 0 _ rfl
                              rw [Nat.add_zero, show ((Kd.slice 3 (Kd.int .i64))).sz = 1 from rfl, Nat.mul_one] at hv121_0
                              replace hv121_0 := Option.some.inj (hv121_0.symm.trans hx121_0)
                              rw [hv121_0] at ge121_0
                              have HL121_0 := Aside0.mk (show Kd.R (Kd.int .i64) 3 _ _ _ _ (rd_L2 x5_2 (ji30)) from ge121_0)
                              clear hv121_0 ge121_0
                              have HX121_0 := Aside0.mk hx121_0
                              clear hcc121 hce121
                              (first | simp only [add_plain] at hx121_0 | simp only [add_at] at hx121_0 | simp only [Addr.add, Nat.zero_add] at hx121_0 | skip)
                              have HR121_0 := Aside0.mk hi121_0
                              have HC121_0 := Aside0.mk hl121_0
                              clear hi121_0 hl121_0
                              replace p121 := eq_true p121
                              replace q121 := eq_true q121
                              have p122 : 0 ≤ (x7_2 : Int) := oda
                              have q122 : x7_2 < ((rd_L2 x5_2 (ji30)).length : Int) := oda
                              obtain ⟨ad122, e122, hx122_0⟩ := Kd.at_int (by repeat (first | (with_reducible exact HR121_0.out) | (with_reducible refine Kd.C_alloc ?_ _) | (with_reducible refine Kd.C_drewN ?_ _) | (with_reducible refine Kd.C_drew ?_) | exact HR121_0.out)) x7_2 p122 q122
                              cases e122
                              replace p122 := eq_true p122
                              replace q122 := eq_true q122
                              have p123 : 0 ≤ (x6_1 : Int) := oda
                              have q123 : x6_1 < (x5_2.length : Int) := oda
                              obtain ⟨ad123, A123_0, c123_0, e123, hx123_0, hl123_0, hi123_0⟩ := at_L2 (Kd.S_reads' HO_5.out).2.2 x6_1 p123 q123
                              obtain rfl : (⟨go11, 0, none⟩ : Addr) = ad123 := (by injection e123)
                              obtain ⟨ce123, hce123, hMe123, hcc123⟩ := Kd.S_get HO_5.out [] x6_1 p123 (by first | exact q123 | exact oda | (have e_ := (Kd.S_reads' HO_5.out).1; omega))
                              obtain ⟨ve123_0, rfl, ge123_0⟩ := hMe123
                              have hv123_0 := hcc123 0 _ rfl
                              rw [Nat.add_zero, show ((Kd.slice 3 (Kd.int .i64))).sz = 1 from rfl, Nat.mul_one] at hv123_0
                              replace hv123_0 := Option.some.inj (hv123_0.symm.trans hx123_0)
                              rw [hv123_0] at ge123_0
                              have HL123_0 := Aside0.mk (show Kd.R (Kd.int .i64) 3 _ _ _ _ (rd_L2 x5_2 x6_1) from ge123_0)
                              clear hv123_0 ge123_0
                              have HX123_0 := Aside0.mk hx123_0
                              clear hcc123 hce123
                              (first | simp only [add_plain] at hx123_0 | simp only [add_at] at hx123_0 | simp only [Addr.add, Nat.zero_add] at hx123_0 | skip)
                              have HR123_0 := Aside0.mk hi123_0
                              have HC123_0 := Aside0.mk hl123_0
                              clear hi123_0 hl123_0
                              replace p123 := eq_true p123
                              replace q123 := eq_true q123
                              have p124 : 0 ≤ ((ji37) : Int) := oda
                              have q124 : (ji37) < ((rd_L2 x5_2 x6_1).length : Int) := oda
                              obtain ⟨ad124, e124, hx124_0⟩ := Kd.at_int (by repeat (first | (with_reducible exact HR123_0.out) | (with_reducible refine Kd.C_alloc ?_ _) | (with_reducible refine Kd.C_drewN ?_ _) | (with_reducible refine Kd.C_drew ?_) | exact HR123_0.out)) (ji37) p124 q124
                              cases e124
                              replace p124 := eq_true p124
                              replace q124 := eq_true q124
                              have p125 : 0 ≤ (x6_1 : Int) := oda
                              have q125 : x6_1 < (x5_2.length : Int) := oda
                              obtain ⟨ad125, A125_0, c125_0, e125, hx125_0, hl125_0, hi125_0⟩ := at_L2 (Kd.S_reads' HO_5.out).2.2 x6_1 p125 q125
                              obtain rfl : (⟨go11, 0, none⟩ : Addr) = ad125 := (by injection e125)
                              obtain ⟨ce125, hce125, hMe125, hcc125⟩ := Kd.S_get HO_5.out [] x6_1 p125 (by first | exact q125 | exact oda | (have e_ := (Kd.S_reads' HO_5.out).1; omega))
                              obtain ⟨ve125_0, rfl, ge125_0⟩ := hMe125
                              have hv125_0 := hcc125 0 _ rfl
                              rw [Nat.add_zero, show ((Kd.slice 3 (Kd.int .i64))).sz = 1 from rfl, Nat.mul_one] at hv125_0
                              replace hv125_0 := Option.some.inj (hv125_0.symm.trans hx125_0)
                              rw [hv125_0] at ge125_0
                              have HL125_0 := Aside0.mk (show Kd.R (Kd.int .i64) 3 _ _ _ _ (rd_L2 x5_2 x6_1) from ge125_0)
                              clear hv125_0 ge125_0
                              have HX125_0 := Aside0.mk hx125_0
                              clear hcc125 hce125
                              (first | simp only [add_plain] at hx125_0 | simp only [add_at] at hx125_0 | simp only [Addr.add, Nat.zero_add] at hx125_0 | skip)
                              have HR125_0 := Aside0.mk hi125_0
                              have HC125_0 := Aside0.mk hl125_0
                              clear hi125_0 hl125_0
                              replace p125 := eq_true p125
                              replace q125 := eq_true q125
                              have ea_ := Option.some.inj (hx123_0.symm.trans hx125_0)
                              injection ea_ with ea_ en_ ec_
                              subst ea_
                              subst ec_
                              clear en_
                              have p126 : 0 ≤ ((ji37) : Int) := oda
                              have q126 : (ji37) < ((rd_L2 x5_2 x6_1).length : Int) := oda
                              obtain ⟨ad126, e126, hx126_0⟩ := Kd.at_int (by repeat (first | (with_reducible exact HR125_0.out) | (with_reducible refine Kd.C_alloc ?_ _) | (with_reducible refine Kd.C_drewN ?_ _) | (with_reducible refine Kd.C_drew ?_) | exact HR125_0.out)) (ji37) p126 q126
                              cases e126
                              replace p126 := eq_true p126
                              replace q126 := eq_true q126
                              have p127 : 0 ≤ (x6_1 : Int) := oda
                              have q127 : x6_1 < (l0.length : Int) := oda
                              obtain ⟨ad127, e127, hx127_0⟩ := Kd.at_string (Kd.C_below HR0.out HB.out) x6_1 p127 q127
                              cases e127
                              replace p127 := eq_true p127
                              replace q127 := eq_true q127
                              have p128 : 0 ≤ (x7_2 : Int) := oda
                              have q128 : x7_2 < (l1.length : Int) := oda
                              obtain ⟨ad128, e128, hx128_0⟩ := Kd.at_string (Kd.C_below HR1.out HB.out) x7_2 p128 q128
                              cases e128
                              replace p128 := eq_true p128
                              replace q128 := eq_true q128
                              have p141 : 0 ≤ (x6_1 : Int) := oda
                              have q141 : x6_1 < (x5_2.length : Int) := oda
                              obtain ⟨ad141, A141_0, c141_0, e141, hx141_0, hl141_0, hi141_0⟩ := at_L2 (Kd.S_reads' HO_5.out).2.2 x6_1 p141 q141
                              obtain rfl : (⟨go11, 0, none⟩ : Addr) = ad141 := (by injection e141)
                              obtain ⟨ce141, hce141, hMe141, hcc141⟩ := Kd.S_get HO_5.out [] x6_1 p141 (by first | exact q141 | exact oda | (have e_ := (Kd.S_reads' HO_5.out).1; omega))
                              obtain ⟨ve141_0, rfl, ge141_0⟩ := hMe141
                              have hv141_0 := hcc141 0 _ rfl
                              rw [Nat.add_zero, show ((Kd.slice 3 (Kd.int .i64))).sz = 1 from rfl, Nat.mul_one] at hv141_0
                              replace hv141_0 := Option.some.inj (hv141_0.symm.trans hx141_0)
                              rw [hv141_0] at ge141_0
                              have HL141_0 := Aside0.mk (show Kd.R (Kd.int .i64) 3 _ _ _ _ (rd_L2 x5_2 x6_1) from ge141_0)
                              clear hv141_0 ge141_0
                              have HX141_0 := Aside0.mk hx141_0
                              clear hcc141 hce141
                              (first | simp only [add_plain] at hx141_0 | simp only [add_at] at hx141_0 | simp only [Addr.add, Nat.zero_add] at hx141_0 | skip)
                              have HR141_0 := Aside0.mk hi141_0
                              have HC141_0 := Aside0.mk hl141_0
                              clear hi141_0 hl141_0
                              replace p141 := eq_true p141
                              replace q141 := eq_true q141
                              have ea_ := Option.some.inj (hx123_0.symm.trans hx141_0)
                              injection ea_ with ea_ en_ ec_
                              subst ea_
                              subst ec_
                              clear en_
                              have p55 : 0 ≤ (x7_2 : Int) := oda
                              have q55 : (x7_2 : Int) < (((rd_L2 x5_2 x6_1).length : Int) : Int) := oda
                              obtain ⟨go55, co55, eo55, gb55, gl55, cl55, HG55⟩ := Kd.R_form HL141_0.out (by omega)
                              (first | cases eo55 | (injection eo55 with ea_ en_ ec_; (first | subst ea_ | (injection ea_ with ea_; subst ea_)); subst ec_; clear en_))
                              have GB55 := Aside0.mk gb55
                              have GG55 := Aside0.mk HG55
                              clear gb55 gl55 HG55
                              (first | simp only [add_plain] at hx126_0 | skip)
                              obtain ⟨hx55_0, hf55_0⟩ := Kd.R_celln 0 HL141_0.out (x7_2 : Int) p55 q55
                              replace p55 := eq_true p55
                              replace q55 := eq_true q55
                              have hq56 : (x6_1 : Int) < (x5_2.length : Int) := (by have h_ : (x6_1 : Int) < ((x5_2.length : Int) : Int) := oda; first | exact h_ | (have e_ := (Kd.S_reads' HO_5.out).1; omega) | simpa only [List.length_set, List.length_set] using h_)
                              obtain ⟨oki56, ce56, hcl56, hM56, hcc56, hok56, hbk56⟩ := Kd.S_borrow HO_5.out [] (x6_1 : Int) (oda) hq56
                              obtain ⟨ve56_0, rfl, ge56_0⟩ := hM56
                              have hv56 := hcc56 0 _ rfl
                              rw [Nat.add_zero, show ((Kd.slice 3 (Kd.int .i64))).sz = 1 from rfl, Nat.mul_one] at hv56
                              replace hv56 := Option.some.inj (hv56.symm.trans HX141_0.out)
                              subst hv56
                              clear hcc56 hcl56
                              replace ge56_0 := (show Kd.R (Kd.int .i64) 3 _ _ _ _ (rd_L2 x5_2 x6_1) from ge56_0)
                              have HP56 := Kd.R_putg ge56_0 (x7_2 : Int) (rd (rd_L2 x5_2 x6_1) (ji37))
                              go_wp2
                              repeat (go_quiet (fail); try go_wp2)
                              (try simp only [← hl5_2])
                              go_roundg k2
                              case measure => have := HK1.out; have := HK2.out; omega
                              case rel => exact ⟨(y144), (wrap64 (x7_2 - 1)), Ye1, H', ⟨by have := HK1.out; have := HK2.out; omega⟩, ⟨by (try simp only [hl5_1]); (try simp only [hl5_2]); rw [Ny144.out, Ny142.out]; exact Kd.S_drewN (hbk56 HP56.2 (fun k_ e_ => by cases e_; exact ge56_0.1 _ rfl) ⟨_, rfl, HP56.1⟩) nq⟩, ⟨below_set (pw_below_drewN HB.out _) GB55.out⟩⟩
                             ·rw [if_neg c54] at H
                              exact absurd H (by simp)
                           ·rw [if_neg c42] at H
                            exact absurd H (by simp)
                          ·rw [if_neg c41] at H
                           exact absurd H (by simp)
                         ·rw [if_neg c40] at H
                          have c40b0 : decide ((rd (rd_L2 x5_2 (ji30)) x7_2) < (rd (rd_L2 x5_2 x6_1) (ji37))) = false := decide_eq_false c40
                          clear c40
                          by_cases c58 : x6_1 < (l0.length : Int)
                          ·rw [if_pos c58] at H
                           have c58b0 : decide (x6_1 < (l0.length : Int)) = true := decide_eq_true c58
                           clear c58
                           by_cases c59 : x7_2 < (l1.length : Int)
                           ·rw [if_pos c59] at H
                            have c59b0 : decide (x7_2 < (l1.length : Int)) = true := decide_eq_true c59
                            clear c59
                            by_cases c60 : (rdOf ByteArray.empty l0 x6_1).toList = (rdOf ByteArray.empty l1 x7_2).toList
                            ·rw [if_pos c60] at H
                             have c60b0 : ((rdOf ByteArray.empty l0 x6_1).toList == (rdOf ByteArray.empty l1 x7_2).toList) = true := beq_iff_eq.mpr c60
                             have c60b1 : ((rdOf ByteArray.empty l0 x6_1).toList != (rdOf ByteArray.empty l1 x7_2).toList) = false := bne_eq_false_iff_eq.mpr c60
                             clear c60
                             by_cases c61 : (ji37) < ((rd_L2 x5_2 (ji30)).length : Int)
                             ·rw [if_pos c61] at H
                              have c61b0 : decide ((ji37) < ((rd_L2 x5_2 (ji30)).length : Int)) = true := decide_eq_true c61
                              clear c61
                              by_cases c62 : (wrap64 ((rd (rd_L2 x5_2 (ji30)) (ji37)) + 1)) > (rd (rd_L2 x5_2 (ji30)) x7_2)
                              ·rw [if_pos c62] at H
                               have c62b0 : decide ((rd (rd_L2 x5_2 (ji30)) x7_2) < (wrap64 ((rd (rd_L2 x5_2 (ji30)) (ji37)) + 1))) = true := decide_eq_true c62
                               clear c62
                               by_cases c63 : x7_2 < ((rd_L2 x5_2 x6_1).length : Int)
                               ·rw [if_pos c63] at H
                                have c63b0 : decide (x7_2 < ((rd_L2 x5_2 x6_1).length : Int)) = true := decide_eq_true c63
                                clear c63
                                obtain ⟨y152, hy152⟩ : ∃ y_ : List Int, y_ = ((rd_L2 x5_2 x6_1).set (x7_2 : Int).toNat (wrap64 ((rd (rd_L2 x5_2 (ji30)) (ji37)) + 1))) := ⟨_, rfl⟩
                                replace H : (spec_l7Table.l1 k2 l0 l1 (x5_2.set (x6_1 : Int).toNat y152) x6_1 (wrap64 (x7_2 - 1))) = some r := by first | (rw [hy152]; with_reducible exact H) | (have H2_ := (Option.bind_some _ _).symm.trans H; rw [hy152]; with_reducible exact H2_) | (have H2_ := (Option.bind_some _ _).symm.trans H; with_reducible exact H2_) | with_reducible exact H | (rw [hy152]; exact H) | exact H
                                have Ny152 := Aside0.mk hy152
                                clear hy152
                                obtain ⟨y154, hy154⟩ : ∃ y_ : List (List Int), y_ = (x5_2.set (x6_1 : Int).toNat y152) := ⟨_, rfl⟩
                                replace H : (spec_l7Table.l1 k2 l0 l1 y154 x6_1 (wrap64 (x7_2 - 1))) = some r := by first | (rw [hy154]; with_reducible exact H) | (have H2_ := (Option.bind_some _ _).symm.trans H; rw [hy154]; with_reducible exact H2_) | (have H2_ := (Option.bind_some _ _).symm.trans H; with_reducible exact H2_) | with_reducible exact H | (rw [hy154]; exact H) | exact H
                                have Ny154 := Aside0.mk hy154
                                clear hy154
                                have H' := Aside0.mk H
                                clear H
                                have p121 : 0 ≤ ((ji30) : Int) := oda
                                have q121 : (ji30) < (x5_2.length : Int) := oda
                                obtain ⟨ad121, A121_0, c121_0, e121, hx121_0, hl121_0, hi121_0⟩ := at_L2 (Kd.S_reads' HO_5.out).2.2 (ji30) p121 q121
                                obtain rfl : (⟨go11, 0, none⟩ : Addr) = ad121 := (by injection e121)
                                obtain ⟨ce121, hce121, hMe121, hcc121⟩ := Kd.S_get HO_5.out [] (ji30) p121 (by first | exact q121 | exact oda | (have e_ := (Kd.S_reads' HO_5.out).1; omega))
                                obtain ⟨ve121_0, rfl, ge121_0⟩ := hMe121
                                have hv121_0 := hcc121 0 _ rfl
                                rw [Nat.add_zero, show ((Kd.slice 3 (Kd.int .i64))).sz = 1 from rfl, Nat.mul_one] at hv121_0
                                replace hv121_0 := Option.some.inj (hv121_0.symm.trans hx121_0)
                                rw [hv121_0] at ge121_0
                                have HL121_0 := Aside0.mk (show Kd.R (Kd.int .i64) 3 _ _ _ _ (rd_L2 x5_2 (ji30)) from ge121_0)
                                clear hv121_0 ge121_0
                                have HX121_0 := Aside0.mk hx121_0
                                clear hcc121 hce121
                                (first | simp only [add_plain] at hx121_0 | simp only [add_at] at hx121_0 | simp only [Addr.add, Nat.zero_add] at hx121_0 | skip)
                                have HR121_0 := Aside0.mk hi121_0
                                have HC121_0 := Aside0.mk hl121_0
                                clear hi121_0 hl121_0
                                replace p121 := eq_true p121
                                replace q121 := eq_true q121
                                have p122 : 0 ≤ (x7_2 : Int) := oda
                                have q122 : x7_2 < ((rd_L2 x5_2 (ji30)).length : Int) := oda
                                obtain ⟨ad122, e122, hx122_0⟩ := Kd.at_int (by repeat (first | (with_reducible exact HR121_0.out) | (with_reducible refine Kd.C_alloc ?_ _) | (with_reducible refine Kd.C_drewN ?_ _) | (with_reducible refine Kd.C_drew ?_) | exact HR121_0.out)) x7_2 p122 q122
                                cases e122
                                replace p122 := eq_true p122
                                replace q122 := eq_true q122
                                have p123 : 0 ≤ (x6_1 : Int) := oda
                                have q123 : x6_1 < (x5_2.length : Int) := oda
                                obtain ⟨ad123, A123_0, c123_0, e123, hx123_0, hl123_0, hi123_0⟩ := at_L2 (Kd.S_reads' HO_5.out).2.2 x6_1 p123 q123
                                obtain rfl : (⟨go11, 0, none⟩ : Addr) = ad123 := (by injection e123)
                                obtain ⟨ce123, hce123, hMe123, hcc123⟩ := Kd.S_get HO_5.out [] x6_1 p123 (by first | exact q123 | exact oda | (have e_ := (Kd.S_reads' HO_5.out).1; omega))
                                obtain ⟨ve123_0, rfl, ge123_0⟩ := hMe123
                                have hv123_0 := hcc123 0 _ rfl
                                rw [Nat.add_zero, show ((Kd.slice 3 (Kd.int .i64))).sz = 1 from rfl, Nat.mul_one] at hv123_0
                                replace hv123_0 := Option.some.inj (hv123_0.symm.trans hx123_0)
                                rw [hv123_0] at ge123_0
                                have HL123_0 := Aside0.mk (show Kd.R (Kd.int .i64) 3 _ _ _ _ (rd_L2 x5_2 x6_1) from ge123_0)
                                clear hv123_0 ge123_0
                                have HX123_0 := Aside0.mk hx123_0
                                clear hcc123 hce123
                                (first | simp only [add_plain] at hx123_0 | simp only [add_at] at hx123_0 | simp only [Addr.add, Nat.zero_add] at hx123_0 | skip)
                                have HR123_0 := Aside0.mk hi123_0
                                have HC123_0 := Aside0.mk hl123_0
                                clear hi123_0 hl123_0
                                replace p123 := eq_true p123
                                replace q123 := eq_true q123
                                have p124 : 0 ≤ ((ji37) : Int) := oda
                                have q124 : (ji37) < ((rd_L2 x5_2 x6_1).length : Int) := oda
                                obtain ⟨ad124, e124, hx124_0⟩ := Kd.at_int (by repeat (first | (with_reducible exact HR123_0.out) | (with_reducible refine Kd.C_alloc ?_ _) | (with_reducible refine Kd.C_drewN ?_ _) | (with_reducible refine Kd.C_drew ?_) | exact HR123_0.out)) (ji37) p124 q124
                                cases e124
                                replace p124 := eq_true p124
                                replace q124 := eq_true q124
                                have p145 : 0 ≤ (x6_1 : Int) := oda
                                have q145 : x6_1 < (l0.length : Int) := oda
                                obtain ⟨ad145, e145, hx145_0⟩ := Kd.at_string (Kd.C_below HR0.out HB.out) x6_1 p145 q145
                                cases e145
                                replace p145 := eq_true p145
                                replace q145 := eq_true q145
                                have p146 : 0 ≤ (x7_2 : Int) := oda
                                have q146 : x7_2 < (l1.length : Int) := oda
                                obtain ⟨ad146, e146, hx146_0⟩ := Kd.at_string (Kd.C_below HR1.out HB.out) x7_2 p146 q146
                                cases e146
                                replace p146 := eq_true p146
                                replace q146 := eq_true q146
                                have p147 : 0 ≤ ((ji30) : Int) := oda
                                have q147 : (ji30) < (x5_2.length : Int) := oda
                                obtain ⟨ad147, A147_0, c147_0, e147, hx147_0, hl147_0, hi147_0⟩ := at_L2 (Kd.S_reads' HO_5.out).2.2 (ji30) p147 q147
                                obtain rfl : (⟨go11, 0, none⟩ : Addr) = ad147 := (by injection e147)
                                obtain ⟨ce147, hce147, hMe147, hcc147⟩ := Kd.S_get HO_5.out [] (ji30) p147 (by first | exact q147 | exact oda | (have e_ := (Kd.S_reads' HO_5.out).1; omega))
                                obtain ⟨ve147_0, rfl, ge147_0⟩ := hMe147
                                have hv147_0 := hcc147 0 _ rfl
                                rw [Nat.add_zero, show ((Kd.slice 3 (Kd.int .i64))).sz = 1 from rfl, Nat.mul_one] at hv147_0
                                replace hv147_0 := Option.some.inj (hv147_0.symm.trans hx147_0)
                                rw [hv147_0] at ge147_0
                                have HL147_0 := Aside0.mk (show Kd.R (Kd.int .i64) 3 _ _ _ _ (rd_L2 x5_2 (ji30)) from ge147_0)
                                clear hv147_0 ge147_0
                                have HX147_0 := Aside0.mk hx147_0
                                clear hcc147 hce147
                                (first | simp only [add_plain] at hx147_0 | simp only [add_at] at hx147_0 | simp only [Addr.add, Nat.zero_add] at hx147_0 | skip)
                                have HR147_0 := Aside0.mk hi147_0
                                have HC147_0 := Aside0.mk hl147_0
                                clear hi147_0 hl147_0
                                replace p147 := eq_true p147
                                replace q147 := eq_true q147
                                have ea_ := Option.some.inj (hx121_0.symm.trans hx147_0)
                                injection ea_ with ea_ en_ ec_
                                subst ea_
                                subst ec_
                                clear en_
                                have p148 : 0 ≤ ((ji37) : Int) := oda
                                have q148 : (ji37) < ((rd_L2 x5_2 (ji30)).length : Int) := oda
                                obtain ⟨ad148, e148, hx148_0⟩ := Kd.at_int (by repeat (first | (with_reducible exact HR147_0.out) | (with_reducible refine Kd.C_alloc ?_ _) | (with_reducible refine Kd.C_drewN ?_ _) | (with_reducible refine Kd.C_drew ?_) | exact HR147_0.out)) (ji37) p148 q148
                                cases e148
                                replace p148 := eq_true p148
                                replace q148 := eq_true q148
                                have p149 : 0 ≤ ((ji30) : Int) := oda
                                have q149 : (ji30) < (x5_2.length : Int) := oda
                                obtain ⟨ad149, A149_0, c149_0, e149, hx149_0, hl149_0, hi149_0⟩ := at_L2 (Kd.S_reads' HO_5.out).2.2 (ji30) p149 q149
                                obtain rfl : (⟨go11, 0, none⟩ : Addr) = ad149 := (by injection e149)
                                obtain ⟨ce149, hce149, hMe149, hcc149⟩ := Kd.S_get HO_5.out [] (ji30) p149 (by first | exact q149 | exact oda | (have e_ := (Kd.S_reads' HO_5.out).1; omega))
                                obtain ⟨ve149_0, rfl, ge149_0⟩ := hMe149
                                have hv149_0 := hcc149 0 _ rfl
                                rw [Nat.add_zero, show ((Kd.slice 3 (Kd.int .i64))).sz = 1 from rfl, Nat.mul_one] at hv149_0
                                replace hv149_0 := Option.some.inj (hv149_0.symm.trans hx149_0)
                                rw [hv149_0] at ge149_0
                                have HL149_0 := Aside0.mk (show Kd.R (Kd.int .i64) 3 _ _ _ _ (rd_L2 x5_2 (ji30)) from ge149_0)
                                clear hv149_0 ge149_0
                                have HX149_0 := Aside0.mk hx149_0
                                clear hcc149 hce149
                                (first | simp only [add_plain] at hx149_0 | simp only [add_at] at hx149_0 | simp only [Addr.add, Nat.zero_add] at hx149_0 | skip)
                                have HR149_0 := Aside0.mk hi149_0
                                have HC149_0 := Aside0.mk hl149_0
                                clear hi149_0 hl149_0
                                replace p149 := eq_true p149
                                replace q149 := eq_true q149
                                have ea_ := Option.some.inj (hx121_0.symm.trans hx149_0)
                                injection ea_ with ea_ en_ ec_
                                subst ea_
                                subst ec_
                                clear en_
                                have p150 : 0 ≤ ((ji37) : Int) := oda
                                have q150 : (ji37) < ((rd_L2 x5_2 (ji30)).length : Int) := oda
                                obtain ⟨ad150, e150, hx150_0⟩ := Kd.at_int (by repeat (first | (with_reducible exact HR149_0.out) | (with_reducible refine Kd.C_alloc ?_ _) | (with_reducible refine Kd.C_drewN ?_ _) | (with_reducible refine Kd.C_drew ?_) | exact HR149_0.out)) (ji37) p150 q150
                                cases e150
                                replace p150 := eq_true p150
                                replace q150 := eq_true q150
                                have p151 : 0 ≤ (x6_1 : Int) := oda
                                have q151 : x6_1 < (x5_2.length : Int) := oda
                                obtain ⟨ad151, A151_0, c151_0, e151, hx151_0, hl151_0, hi151_0⟩ := at_L2 (Kd.S_reads' HO_5.out).2.2 x6_1 p151 q151
                                obtain rfl : (⟨go11, 0, none⟩ : Addr) = ad151 := (by injection e151)
                                obtain ⟨ce151, hce151, hMe151, hcc151⟩ := Kd.S_get HO_5.out [] x6_1 p151 (by first | exact q151 | exact oda | (have e_ := (Kd.S_reads' HO_5.out).1; omega))
                                obtain ⟨ve151_0, rfl, ge151_0⟩ := hMe151
                                have hv151_0 := hcc151 0 _ rfl
                                rw [Nat.add_zero, show ((Kd.slice 3 (Kd.int .i64))).sz = 1 from rfl, Nat.mul_one] at hv151_0
                                replace hv151_0 := Option.some.inj (hv151_0.symm.trans hx151_0)
                                rw [hv151_0] at ge151_0
                                have HL151_0 := Aside0.mk (show Kd.R (Kd.int .i64) 3 _ _ _ _ (rd_L2 x5_2 x6_1) from ge151_0)
                                clear hv151_0 ge151_0
                                have HX151_0 := Aside0.mk hx151_0
                                clear hcc151 hce151
                                (first | simp only [add_plain] at hx151_0 | simp only [add_at] at hx151_0 | simp only [Addr.add, Nat.zero_add] at hx151_0 | skip)
                                have HR151_0 := Aside0.mk hi151_0
                                have HC151_0 := Aside0.mk hl151_0
                                clear hi151_0 hl151_0
                                replace p151 := eq_true p151
                                replace q151 := eq_true q151
                                have ea_ := Option.some.inj (hx123_0.symm.trans hx151_0)
                                injection ea_ with ea_ en_ ec_
                                subst ea_
                                subst ec_
                                clear en_
                                have p64 : 0 ≤ (x7_2 : Int) := oda
                                have q64 : (x7_2 : Int) < (((rd_L2 x5_2 x6_1).length : Int) : Int) := oda
                                obtain ⟨go64, co64, eo64, gb64, gl64, cl64, HG64⟩ := Kd.R_form HL151_0.out (by omega)
                                (first | cases eo64 | (injection eo64 with ea_ en_ ec_; (first | subst ea_ | (injection ea_ with ea_; subst ea_)); subst ec_; clear en_))
                                have GB64 := Aside0.mk gb64
                                have GG64 := Aside0.mk HG64
                                clear gb64 gl64 HG64
                                (first | simp only [add_plain] at hx124_0 | skip)
                                obtain ⟨hx64_0, hf64_0⟩ := Kd.R_celln 0 HL151_0.out (x7_2 : Int) p64 q64
                                replace p64 := eq_true p64
                                replace q64 := eq_true q64
                                have hq65 : (x6_1 : Int) < (x5_2.length : Int) := (by have h_ : (x6_1 : Int) < ((x5_2.length : Int) : Int) := oda; first | exact h_ | (have e_ := (Kd.S_reads' HO_5.out).1; omega) | simpa only [List.length_set, List.length_set] using h_)
                                obtain ⟨oki65, ce65, hcl65, hM65, hcc65, hok65, hbk65⟩ := Kd.S_borrow HO_5.out [] (x6_1 : Int) (oda) hq65
                                obtain ⟨ve65_0, rfl, ge65_0⟩ := hM65
                                have hv65 := hcc65 0 _ rfl
                                rw [Nat.add_zero, show ((Kd.slice 3 (Kd.int .i64))).sz = 1 from rfl, Nat.mul_one] at hv65
                                replace hv65 := Option.some.inj (hv65.symm.trans HX151_0.out)
                                subst hv65
                                clear hcc65 hcl65
                                replace ge65_0 := (show Kd.R (Kd.int .i64) 3 _ _ _ _ (rd_L2 x5_2 x6_1) from ge65_0)
                                have HP65 := Kd.R_putg ge65_0 (x7_2 : Int) (wrap64 ((rd (rd_L2 x5_2 (ji30)) (ji37)) + 1))
                                go_wp2
                                repeat (go_quiet (fail); try go_wp2)
                                (try simp only [← hl5_2])
                                go_roundg k2
                                case measure => have := HK1.out; have := HK2.out; omega
                                case rel => exact ⟨(y154), (wrap64 (x7_2 - 1)), Ye1, H', ⟨by have := HK1.out; have := HK2.out; omega⟩, ⟨by (try simp only [hl5_1]); (try simp only [hl5_2]); rw [Ny154.out, Ny152.out]; exact Kd.S_drewN (hbk65 HP65.2 (fun k_ e_ => by cases e_; exact ge65_0.1 _ rfl) ⟨_, rfl, HP65.1⟩) nq⟩, ⟨below_set (pw_below_drewN HB.out _) GB64.out⟩⟩
                               ·rw [if_neg c63] at H
                                exact absurd H (by simp)
                              ·rw [if_neg c62] at H
                               have c62b0 : decide ((rd (rd_L2 x5_2 (ji30)) x7_2) < (wrap64 ((rd (rd_L2 x5_2 (ji30)) (ji37)) + 1))) = false := decide_eq_false c62
                               clear c62
                               by_cases c67 : x7_2 < ((rd_L2 x5_2 x6_1).length : Int)
                               ·rw [if_pos c67] at H
                                have c67b0 : decide (x7_2 < ((rd_L2 x5_2 x6_1).length : Int)) = true := decide_eq_true c67
                                clear c67
                                obtain ⟨y156, hy156⟩ : ∃ y_ : List Int, y_ = ((rd_L2 x5_2 x6_1).set (x7_2 : Int).toNat (rd (rd_L2 x5_2 (ji30)) x7_2)) := ⟨_, rfl⟩
                                replace H : (spec_l7Table.l1 k2 l0 l1 (x5_2.set (x6_1 : Int).toNat y156) x6_1 (wrap64 (x7_2 - 1))) = some r := by first | (rw [hy156]; with_reducible exact H) | (have H2_ := (Option.bind_some _ _).symm.trans H; rw [hy156]; with_reducible exact H2_) | (have H2_ := (Option.bind_some _ _).symm.trans H; with_reducible exact H2_) | with_reducible exact H | (rw [hy156]; exact H) | exact H
                                have Ny156 := Aside0.mk hy156
                                clear hy156
                                obtain ⟨y158, hy158⟩ : ∃ y_ : List (List Int), y_ = (x5_2.set (x6_1 : Int).toNat y156) := ⟨_, rfl⟩
                                replace H : (spec_l7Table.l1 k2 l0 l1 y158 x6_1 (wrap64 (x7_2 - 1))) = some r := by first | (rw [hy158]; with_reducible exact H) | (have H2_ := (Option.bind_some _ _).symm.trans H; rw [hy158]; with_reducible exact H2_) | (have H2_ := (Option.bind_some _ _).symm.trans H; with_reducible exact H2_) | with_reducible exact H | (rw [hy158]; exact H) | exact H
                                have Ny158 := Aside0.mk hy158
                                clear hy158
                                have H' := Aside0.mk H
                                clear H
                                have p121 : 0 ≤ ((ji30) : Int) := oda
                                have q121 : (ji30) < (x5_2.length : Int) := oda
                                obtain ⟨ad121, A121_0, c121_0, e121, hx121_0, hl121_0, hi121_0⟩ := at_L2 (Kd.S_reads' HO_5.out).2.2 (ji30) p121 q121
                                obtain rfl : (⟨go11, 0, none⟩ : Addr) = ad121 := (by injection e121)
                                obtain ⟨ce121, hce121, hMe121, hcc121⟩ := Kd.S_get HO_5.out [] (ji30) p121 (by first | exact q121 | exact oda | (have e_ := (Kd.S_reads' HO_5.out).1; omega))
                                obtain ⟨ve121_0, rfl, ge121_0⟩ := hMe121
                                have hv121_0 := hcc121 0 _ rfl
                                rw [Nat.add_zero, show ((Kd.slice 3 (Kd.int .i64))).sz = 1 from rfl, Nat.mul_one] at hv121_0
                                replace hv121_0 := Option.some.inj (hv121_0.symm.trans hx121_0)
                                rw [hv121_0] at ge121_0
                                have HL121_0 := Aside0.mk (show Kd.R (Kd.int .i64) 3 _ _ _ _ (rd_L2 x5_2 (ji30)) from ge121_0)
                                clear hv121_0 ge121_0
                                have HX121_0 := Aside0.mk hx121_0
                                clear hcc121 hce121
                                (first | simp only [add_plain] at hx121_0 | simp only [add_at] at hx121_0 | simp only [Addr.add, Nat.zero_add] at hx121_0 | skip)
                                have HR121_0 := Aside0.mk hi121_0
                                have HC121_0 := Aside0.mk hl121_0
                                clear hi121_0 hl121_0
                                replace p121 := eq_true p121
                                replace q121 := eq_true q121
                                have p122 : 0 ≤ (x7_2 : Int) := oda
                                have q122 : x7_2 < ((rd_L2 x5_2 (ji30)).length : Int) := oda
                                obtain ⟨ad122, e122, hx122_0⟩ := Kd.at_int (by repeat (first | (with_reducible exact HR121_0.out) | (with_reducible refine Kd.C_alloc ?_ _) | (with_reducible refine Kd.C_drewN ?_ _) | (with_reducible refine Kd.C_drew ?_) | exact HR121_0.out)) x7_2 p122 q122
                                cases e122
                                replace p122 := eq_true p122
                                replace q122 := eq_true q122
                                have p123 : 0 ≤ (x6_1 : Int) := oda
                                have q123 : x6_1 < (x5_2.length : Int) := oda
                                obtain ⟨ad123, A123_0, c123_0, e123, hx123_0, hl123_0, hi123_0⟩ := at_L2 (Kd.S_reads' HO_5.out).2.2 x6_1 p123 q123
                                obtain rfl : (⟨go11, 0, none⟩ : Addr) = ad123 := (by injection e123)
                                obtain ⟨ce123, hce123, hMe123, hcc123⟩ := Kd.S_get HO_5.out [] x6_1 p123 (by first | exact q123 | exact oda | (have e_ := (Kd.S_reads' HO_5.out).1; omega))
                                obtain ⟨ve123_0, rfl, ge123_0⟩ := hMe123
                                have hv123_0 := hcc123 0 _ rfl
                                rw [Nat.add_zero, show ((Kd.slice 3 (Kd.int .i64))).sz = 1 from rfl, Nat.mul_one] at hv123_0
                                replace hv123_0 := Option.some.inj (hv123_0.symm.trans hx123_0)
                                rw [hv123_0] at ge123_0
                                have HL123_0 := Aside0.mk (show Kd.R (Kd.int .i64) 3 _ _ _ _ (rd_L2 x5_2 x6_1) from ge123_0)
                                clear hv123_0 ge123_0
                                have HX123_0 := Aside0.mk hx123_0
                                clear hcc123 hce123
                                (first | simp only [add_plain] at hx123_0 | simp only [add_at] at hx123_0 | simp only [Addr.add, Nat.zero_add] at hx123_0 | skip)
                                have HR123_0 := Aside0.mk hi123_0
                                have HC123_0 := Aside0.mk hl123_0
                                clear hi123_0 hl123_0
                                replace p123 := eq_true p123
                                replace q123 := eq_true q123
                                have p124 : 0 ≤ ((ji37) : Int) := oda
                                have q124 : (ji37) < ((rd_L2 x5_2 x6_1).length : Int) := oda
                                obtain ⟨ad124, e124, hx124_0⟩ := Kd.at_int (by repeat (first | (with_reducible exact HR123_0.out) | (with_reducible refine Kd.C_alloc ?_ _) | (with_reducible refine Kd.C_drewN ?_ _) | (with_reducible refine Kd.C_drew ?_) | exact HR123_0.out)) (ji37) p124 q124
                                cases e124
                                replace p124 := eq_true p124
                                replace q124 := eq_true q124
                                have p145 : 0 ≤ (x6_1 : Int) := oda
                                have q145 : x6_1 < (l0.length : Int) := oda
                                obtain ⟨ad145, e145, hx145_0⟩ := Kd.at_string (Kd.C_below HR0.out HB.out) x6_1 p145 q145
                                cases e145
                                replace p145 := eq_true p145
                                replace q145 := eq_true q145
                                have p146 : 0 ≤ (x7_2 : Int) := oda
                                have q146 : x7_2 < (l1.length : Int) := oda
                                obtain ⟨ad146, e146, hx146_0⟩ := Kd.at_string (Kd.C_below HR1.out HB.out) x7_2 p146 q146
                                cases e146
                                replace p146 := eq_true p146
                                replace q146 := eq_true q146
                                have p147 : 0 ≤ ((ji30) : Int) := oda
                                have q147 : (ji30) < (x5_2.length : Int) := oda
                                obtain ⟨ad147, A147_0, c147_0, e147, hx147_0, hl147_0, hi147_0⟩ := at_L2 (Kd.S_reads' HO_5.out).2.2 (ji30) p147 q147
                                obtain rfl : (⟨go11, 0, none⟩ : Addr) = ad147 := (by injection e147)
                                obtain ⟨ce147, hce147, hMe147, hcc147⟩ := Kd.S_get HO_5.out [] (ji30) p147 (by first | exact q147 | exact oda | (have e_ := (Kd.S_reads' HO_5.out).1; omega))
                                obtain ⟨ve147_0, rfl, ge147_0⟩ := hMe147
                                have hv147_0 := hcc147 0 _ rfl
                                rw [Nat.add_zero, show ((Kd.slice 3 (Kd.int .i64))).sz = 1 from rfl, Nat.mul_one] at hv147_0
                                replace hv147_0 := Option.some.inj (hv147_0.symm.trans hx147_0)
                                rw [hv147_0] at ge147_0
                                have HL147_0 := Aside0.mk (show Kd.R (Kd.int .i64) 3 _ _ _ _ (rd_L2 x5_2 (ji30)) from ge147_0)
                                clear hv147_0 ge147_0
                                have HX147_0 := Aside0.mk hx147_0
                                clear hcc147 hce147
                                (first | simp only [add_plain] at hx147_0 | simp only [add_at] at hx147_0 | simp only [Addr.add, Nat.zero_add] at hx147_0 | skip)
                                have HR147_0 := Aside0.mk hi147_0
                                have HC147_0 := Aside0.mk hl147_0
                                clear hi147_0 hl147_0
                                replace p147 := eq_true p147
                                replace q147 := eq_true q147
                                have ea_ := Option.some.inj (hx121_0.symm.trans hx147_0)
                                injection ea_ with ea_ en_ ec_
                                subst ea_
                                subst ec_
                                clear en_
                                have p148 : 0 ≤ ((ji37) : Int) := oda
                                have q148 : (ji37) < ((rd_L2 x5_2 (ji30)).length : Int) := oda
                                obtain ⟨ad148, e148, hx148_0⟩ := Kd.at_int (by repeat (first | (with_reducible exact HR147_0.out) | (with_reducible refine Kd.C_alloc ?_ _) | (with_reducible refine Kd.C_drewN ?_ _) | (with_reducible refine Kd.C_drew ?_) | exact HR147_0.out)) (ji37) p148 q148
                                cases e148
                                replace p148 := eq_true p148
                                replace q148 := eq_true q148
                                have p155 : 0 ≤ (x6_1 : Int) := oda
                                have q155 : x6_1 < (x5_2.length : Int) := oda
                                obtain ⟨ad155, A155_0, c155_0, e155, hx155_0, hl155_0, hi155_0⟩ := at_L2 (Kd.S_reads' HO_5.out).2.2 x6_1 p155 q155
                                obtain rfl : (⟨go11, 0, none⟩ : Addr) = ad155 := (by injection e155)
                                obtain ⟨ce155, hce155, hMe155, hcc155⟩ := Kd.S_get HO_5.out [] x6_1 p155 (by first | exact q155 | exact oda | (have e_ := (Kd.S_reads' HO_5.out).1; omega))
                                obtain ⟨ve155_0, rfl, ge155_0⟩ := hMe155
                                have hv155_0 := hcc155 0 _ rfl
                                rw [Nat.add_zero, show ((Kd.slice 3 (Kd.int .i64))).sz = 1 from rfl, Nat.mul_one] at hv155_0
                                replace hv155_0 := Option.some.inj (hv155_0.symm.trans hx155_0)
                                rw [hv155_0] at ge155_0
                                have HL155_0 := Aside0.mk (show Kd.R (Kd.int .i64) 3 _ _ _ _ (rd_L2 x5_2 x6_1) from ge155_0)
                                clear hv155_0 ge155_0
                                have HX155_0 := Aside0.mk hx155_0
                                clear hcc155 hce155
                                (first | simp only [add_plain] at hx155_0 | simp only [add_at] at hx155_0 | simp only [Addr.add, Nat.zero_add] at hx155_0 | skip)
                                have HR155_0 := Aside0.mk hi155_0
                                have HC155_0 := Aside0.mk hl155_0
                                clear hi155_0 hl155_0
                                replace p155 := eq_true p155
                                replace q155 := eq_true q155
                                have ea_ := Option.some.inj (hx123_0.symm.trans hx155_0)
                                injection ea_ with ea_ en_ ec_
                                subst ea_
                                subst ec_
                                clear en_
                                have p68 : 0 ≤ (x7_2 : Int) := oda
                                have q68 : (x7_2 : Int) < (((rd_L2 x5_2 x6_1).length : Int) : Int) := oda
                                obtain ⟨go68, co68, eo68, gb68, gl68, cl68, HG68⟩ := Kd.R_form HL155_0.out (by omega)
                                (first | cases eo68 | (injection eo68 with ea_ en_ ec_; (first | subst ea_ | (injection ea_ with ea_; subst ea_)); subst ec_; clear en_))
                                have GB68 := Aside0.mk gb68
                                have GG68 := Aside0.mk HG68
                                clear gb68 gl68 HG68
                                (first | simp only [add_plain] at hx124_0 | skip)
                                obtain ⟨hx68_0, hf68_0⟩ := Kd.R_celln 0 HL155_0.out (x7_2 : Int) p68 q68
                                replace p68 := eq_true p68
                                replace q68 := eq_true q68
                                have hq69 : (x6_1 : Int) < (x5_2.length : Int) := (by have h_ : (x6_1 : Int) < ((x5_2.length : Int) : Int) := oda; first | exact h_ | (have e_ := (Kd.S_reads' HO_5.out).1; omega) | simpa only [List.length_set, List.length_set] using h_)
                                obtain ⟨oki69, ce69, hcl69, hM69, hcc69, hok69, hbk69⟩ := Kd.S_borrow HO_5.out [] (x6_1 : Int) (oda) hq69
                                obtain ⟨ve69_0, rfl, ge69_0⟩ := hM69
                                have hv69 := hcc69 0 _ rfl
                                rw [Nat.add_zero, show ((Kd.slice 3 (Kd.int .i64))).sz = 1 from rfl, Nat.mul_one] at hv69
                                replace hv69 := Option.some.inj (hv69.symm.trans HX155_0.out)
                                subst hv69
                                clear hcc69 hcl69
                                replace ge69_0 := (show Kd.R (Kd.int .i64) 3 _ _ _ _ (rd_L2 x5_2 x6_1) from ge69_0)
                                have HP69 := Kd.R_putg ge69_0 (x7_2 : Int) (rd (rd_L2 x5_2 (ji30)) x7_2)
                                go_wp2
                                repeat (go_quiet (fail); try go_wp2)
                                (try simp only [← hl5_2])
                                go_roundg k2
                                case measure => have := HK1.out; have := HK2.out; omega
                                case rel => exact ⟨(y158), (wrap64 (x7_2 - 1)), Ye1, H', ⟨by have := HK1.out; have := HK2.out; omega⟩, ⟨by (try simp only [hl5_1]); (try simp only [hl5_2]); rw [Ny158.out, Ny156.out]; exact Kd.S_drewN (hbk69 HP69.2 (fun k_ e_ => by cases e_; exact ge69_0.1 _ rfl) ⟨_, rfl, HP69.1⟩) nq⟩, ⟨below_set (pw_below_drewN HB.out _) GB68.out⟩⟩
                               ·rw [if_neg c67] at H
                                exact absurd H (by simp)
                             ·rw [if_neg c61] at H
                              exact absurd H (by simp)
                            ·rw [if_neg c60] at H
                             have c60b0 : ((rdOf ByteArray.empty l0 x6_1).toList == (rdOf ByteArray.empty l1 x7_2).toList) = false := beq_eq_false_iff_ne.mpr c60
                             have c60b1 : ((rdOf ByteArray.empty l0 x6_1).toList != (rdOf ByteArray.empty l1 x7_2).toList) = true := bne_iff_ne.mpr c60
                             by_cases c71 : x7_2 < ((rd_L2 x5_2 x6_1).length : Int)
                             ·rw [if_pos c71] at H
                              have c71b0 : decide (x7_2 < ((rd_L2 x5_2 x6_1).length : Int)) = true := decide_eq_true c71
                              clear c71
                              obtain ⟨y160, hy160⟩ : ∃ y_ : List Int, y_ = ((rd_L2 x5_2 x6_1).set (x7_2 : Int).toNat (rd (rd_L2 x5_2 (ji30)) x7_2)) := ⟨_, rfl⟩
                              replace H : (spec_l7Table.l1 k2 l0 l1 (x5_2.set (x6_1 : Int).toNat y160) x6_1 (wrap64 (x7_2 - 1))) = some r := by first | (rw [hy160]; with_reducible exact H) | (have H2_ := (Option.bind_some _ _).symm.trans H; rw [hy160]; with_reducible exact H2_) | (have H2_ := (Option.bind_some _ _).symm.trans H; with_reducible exact H2_) | with_reducible exact H | (rw [hy160]; exact H) | exact H
                              have Ny160 := Aside0.mk hy160
                              clear hy160
                              obtain ⟨y162, hy162⟩ : ∃ y_ : List (List Int), y_ = (x5_2.set (x6_1 : Int).toNat y160) := ⟨_, rfl⟩
                              replace H : (spec_l7Table.l1 k2 l0 l1 y162 x6_1 (wrap64 (x7_2 - 1))) = some r := by first | (rw [hy162]; with_reducible exact H) | (have H2_ := (Option.bind_some _ _).symm.trans H; rw [hy162]; with_reducible exact H2_) | (have H2_ := (Option.bind_some _ _).symm.trans H; with_reducible exact H2_) | with_reducible exact H | (rw [hy162]; exact H) | exact H
                              have Ny162 := Aside0.mk hy162
                              clear hy162
                              have H' := Aside0.mk H
                              clear H
                              have p121 : 0 ≤ ((ji30) : Int) := oda
                              have q121 : (ji30) < (x5_2.length : Int) := oda
                              obtain ⟨ad121, A121_0, c121_0, e121, hx121_0, hl121_0, hi121_0⟩ := at_L2 (Kd.S_reads' HO_5.out).2.2 (ji30) p121 q121
                              obtain rfl : (⟨go11, 0, none⟩ : Addr) = ad121 := (by injection e121)
                              obtain ⟨ce121, hce121, hMe121, hcc121⟩ := Kd.S_get HO_5.out [] (ji30) p121 (by first | exact q121 | exact oda | (have e_ := (Kd.S_reads' HO_5.out).1; omega))
                              obtain ⟨ve121_0, rfl, ge121_0⟩ := hMe121
                              have hv121_0 := hcc121 0 _ rfl
                              rw [Nat.add_zero, show ((Kd.slice 3 (Kd.int .i64))).sz = 1 from rfl, Nat.mul_one] at hv121_0
                              replace hv121_0 := Option.some.inj (hv121_0.symm.trans hx121_0)
                              rw [hv121_0] at ge121_0
                              have HL121_0 := Aside0.mk (show Kd.R (Kd.int .i64) 3 _ _ _ _ (rd_L2 x5_2 (ji30)) from ge121_0)
                              clear hv121_0 ge121_0
                              have HX121_0 := Aside0.mk hx121_0
                              clear hcc121 hce121
                              (first | simp only [add_plain] at hx121_0 | simp only [add_at] at hx121_0 | simp only [Addr.add, Nat.zero_add] at hx121_0 | skip)
                              have HR121_0 := Aside0.mk hi121_0
                              have HC121_0 := Aside0.mk hl121_0
                              clear hi121_0 hl121_0
                              replace p121 := eq_true p121
                              replace q121 := eq_true q121
                              have p122 : 0 ≤ (x7_2 : Int) := oda
                              have q122 : x7_2 < ((rd_L2 x5_2 (ji30)).length : Int) := oda
                              obtain ⟨ad122, e122, hx122_0⟩ := Kd.at_int (by repeat (first | (with_reducible exact HR121_0.out) | (with_reducible refine Kd.C_alloc ?_ _) | (with_reducible refine Kd.C_drewN ?_ _) | (with_reducible refine Kd.C_drew ?_) | exact HR121_0.out)) x7_2 p122 q122
                              cases e122
                              replace p122 := eq_true p122
                              replace q122 := eq_true q122
                              have p123 : 0 ≤ (x6_1 : Int) := oda
                              have q123 : x6_1 < (x5_2.length : Int) := oda
                              obtain ⟨ad123, A123_0, c123_0, e123, hx123_0, hl123_0, hi123_0⟩ := at_L2 (Kd.S_reads' HO_5.out).2.2 x6_1 p123 q123
                              obtain rfl : (⟨go11, 0, none⟩ : Addr) = ad123 := (by injection e123)
                              obtain ⟨ce123, hce123, hMe123, hcc123⟩ := Kd.S_get HO_5.out [] x6_1 p123 (by first | exact q123 | exact oda | (have e_ := (Kd.S_reads' HO_5.out).1; omega))
                              obtain ⟨ve123_0, rfl, ge123_0⟩ := hMe123
                              have hv123_0 := hcc123 0 _ rfl
                              rw [Nat.add_zero, show ((Kd.slice 3 (Kd.int .i64))).sz = 1 from rfl, Nat.mul_one] at hv123_0
                              replace hv123_0 := Option.some.inj (hv123_0.symm.trans hx123_0)
                              rw [hv123_0] at ge123_0
                              have HL123_0 := Aside0.mk (show Kd.R (Kd.int .i64) 3 _ _ _ _ (rd_L2 x5_2 x6_1) from ge123_0)
                              clear hv123_0 ge123_0
                              have HX123_0 := Aside0.mk hx123_0
                              clear hcc123 hce123
                              (first | simp only [add_plain] at hx123_0 | simp only [add_at] at hx123_0 | simp only [Addr.add, Nat.zero_add] at hx123_0 | skip)
                              have HR123_0 := Aside0.mk hi123_0
                              have HC123_0 := Aside0.mk hl123_0
                              clear hi123_0 hl123_0
                              replace p123 := eq_true p123
                              replace q123 := eq_true q123
                              have p124 : 0 ≤ ((ji37) : Int) := oda
                              have q124 : (ji37) < ((rd_L2 x5_2 x6_1).length : Int) := oda
                              obtain ⟨ad124, e124, hx124_0⟩ := Kd.at_int (by repeat (first | (with_reducible exact HR123_0.out) | (with_reducible refine Kd.C_alloc ?_ _) | (with_reducible refine Kd.C_drewN ?_ _) | (with_reducible refine Kd.C_drew ?_) | exact HR123_0.out)) (ji37) p124 q124
                              cases e124
                              replace p124 := eq_true p124
                              replace q124 := eq_true q124
                              have p145 : 0 ≤ (x6_1 : Int) := oda
                              have q145 : x6_1 < (l0.length : Int) := oda
                              obtain ⟨ad145, e145, hx145_0⟩ := Kd.at_string (Kd.C_below HR0.out HB.out) x6_1 p145 q145
                              cases e145
                              replace p145 := eq_true p145
                              replace q145 := eq_true q145
                              have p146 : 0 ≤ (x7_2 : Int) := oda
                              have q146 : x7_2 < (l1.length : Int) := oda
                              obtain ⟨ad146, e146, hx146_0⟩ := Kd.at_string (Kd.C_below HR1.out HB.out) x7_2 p146 q146
                              cases e146
                              replace p146 := eq_true p146
                              replace q146 := eq_true q146
                              have p159 : 0 ≤ (x6_1 : Int) := oda
                              have q159 : x6_1 < (x5_2.length : Int) := oda
                              obtain ⟨ad159, A159_0, c159_0, e159, hx159_0, hl159_0, hi159_0⟩ := at_L2 (Kd.S_reads' HO_5.out).2.2 x6_1 p159 q159
                              obtain rfl : (⟨go11, 0, none⟩ : Addr) = ad159 := (by injection e159)
                              obtain ⟨ce159, hce159, hMe159, hcc159⟩ := Kd.S_get HO_5.out [] x6_1 p159 (by first | exact q159 | exact oda | (have e_ := (Kd.S_reads' HO_5.out).1; omega))
                              obtain ⟨ve159_0, rfl, ge159_0⟩ := hMe159
                              have hv159_0 := hcc159 0 _ rfl
                              rw [Nat.add_zero, show ((Kd.slice 3 (Kd.int .i64))).sz = 1 from rfl, Nat.mul_one] at hv159_0
                              replace hv159_0 := Option.some.inj (hv159_0.symm.trans hx159_0)
                              rw [hv159_0] at ge159_0
                              have HL159_0 := Aside0.mk (show Kd.R (Kd.int .i64) 3 _ _ _ _ (rd_L2 x5_2 x6_1) from ge159_0)
                              clear hv159_0 ge159_0
                              have HX159_0 := Aside0.mk hx159_0
                              clear hcc159 hce159
                              (first | simp only [add_plain] at hx159_0 | simp only [add_at] at hx159_0 | simp only [Addr.add, Nat.zero_add] at hx159_0 | skip)
                              have HR159_0 := Aside0.mk hi159_0
                              have HC159_0 := Aside0.mk hl159_0
                              clear hi159_0 hl159_0
                              replace p159 := eq_true p159
                              replace q159 := eq_true q159
                              have ea_ := Option.some.inj (hx123_0.symm.trans hx159_0)
                              injection ea_ with ea_ en_ ec_
                              subst ea_
                              subst ec_
                              clear en_
                              have p72 : 0 ≤ (x7_2 : Int) := oda
                              have q72 : (x7_2 : Int) < (((rd_L2 x5_2 x6_1).length : Int) : Int) := oda
                              obtain ⟨go72, co72, eo72, gb72, gl72, cl72, HG72⟩ := Kd.R_form HL159_0.out (by omega)
                              (first | cases eo72 | (injection eo72 with ea_ en_ ec_; (first | subst ea_ | (injection ea_ with ea_; subst ea_)); subst ec_; clear en_))
                              have GB72 := Aside0.mk gb72
                              have GG72 := Aside0.mk HG72
                              clear gb72 gl72 HG72
                              (first | simp only [add_plain] at hx124_0 | skip)
                              obtain ⟨hx72_0, hf72_0⟩ := Kd.R_celln 0 HL159_0.out (x7_2 : Int) p72 q72
                              replace p72 := eq_true p72
                              replace q72 := eq_true q72
                              have hq73 : (x6_1 : Int) < (x5_2.length : Int) := (by have h_ : (x6_1 : Int) < ((x5_2.length : Int) : Int) := oda; first | exact h_ | (have e_ := (Kd.S_reads' HO_5.out).1; omega) | simpa only [List.length_set, List.length_set] using h_)
                              obtain ⟨oki73, ce73, hcl73, hM73, hcc73, hok73, hbk73⟩ := Kd.S_borrow HO_5.out [] (x6_1 : Int) (oda) hq73
                              obtain ⟨ve73_0, rfl, ge73_0⟩ := hM73
                              have hv73 := hcc73 0 _ rfl
                              rw [Nat.add_zero, show ((Kd.slice 3 (Kd.int .i64))).sz = 1 from rfl, Nat.mul_one] at hv73
                              replace hv73 := Option.some.inj (hv73.symm.trans HX159_0.out)
                              subst hv73
                              clear hcc73 hcl73
                              replace ge73_0 := (show Kd.R (Kd.int .i64) 3 _ _ _ _ (rd_L2 x5_2 x6_1) from ge73_0)
                              have HP73 := Kd.R_putg ge73_0 (x7_2 : Int) (rd (rd_L2 x5_2 (ji30)) x7_2)
                              go_wp2
                              repeat (go_quiet (fail); try go_wp2)
                              (try simp only [← hl5_2])
                              go_roundg k2
                              case measure => have := HK1.out; have := HK2.out; omega
                              case rel => exact ⟨(y162), (wrap64 (x7_2 - 1)), Ye1, H', ⟨by have := HK1.out; have := HK2.out; omega⟩, ⟨by (try simp only [hl5_1]); (try simp only [hl5_2]); rw [Ny162.out, Ny160.out]; exact Kd.S_drewN (hbk73 HP73.2 (fun k_ e_ => by cases e_; exact ge73_0.1 _ rfl) ⟨_, rfl, HP73.1⟩) nq⟩, ⟨below_set (pw_below_drewN HB.out _) GB72.out⟩⟩
                             ·rw [if_neg c71] at H
                              exact absurd H (by simp)
                           ·rw [if_neg c59] at H
                            exact absurd H (by simp)
                          ·rw [if_neg c58] at H
                           exact absurd H (by simp)
                        ·rw [if_neg c39] at H
                         exact absurd H (by simp)
                       ·rw [if_neg c38] at H
                        exact absurd H (by simp)
                      ·rw [if_neg c36] at H
                       exact absurd H (by simp)
                     ·rw [if_neg c35] at H
                      exact absurd H (by simp)
                    ·rw [if_neg c34] at H
                     exact absurd H (by simp)
                   ·rw [if_neg c33] at H
                    exact absurd H (by simp)
                  ·rw [if_neg c32] at H
                   exact absurd H (by simp)
                 ·rw [if_neg c31] at H
                  exact absurd H (by simp)
                ·rw [if_neg c29] at H
                 have c29b0 : decide (0 ≤ x7_2) = false := decide_eq_false c29
                 clear c29
                 have H' := Aside0.mk H
                 clear H
                 go_wp2
                 repeat (go_quiet (fail); try go_wp2)
                 (try simp only [← hl5_1, ← hl5_2])
                 go_roundg k2
                 case measure => have := HK1.out; have := HK2.out; omega
                 case rel => exact ⟨(x5_2), (wrap64 (x6_1 - 1)), Ye1, H', ⟨by have := HK1.out; have := HK2.out; omega⟩, ⟨by (try simp only [hl5_1]); (try simp only [hl5_2]); (with_reducible repeat (first | apply Kd.S_alloc | apply Kd.S_drewN | apply Kd.S_drew)); exact HO_5.out⟩, ⟨be HB.out⟩⟩
             ·rw [if_neg c23] at H
              exact absurd H (by simp)
            ·rw [if_neg c22] at H
             exact absurd H (by simp)
           ·rw [if_neg c21] at H
            exact absurd H (by simp)
          ·rw [if_neg c20] at H
           exact absurd H (by simp)
         ·rw [if_neg c18] at H
          have c18b0 : decide (0 ≤ x6_1) = false := decide_eq_false c18
          clear c18
          obtain rfl := Option.some.inj H
          go_wp2
          repeat (go_quiet (fail); try go_wp2)
          go_ret
          exact ⟨_, by first | rfl | (simp [errW_none, errW_some] <;> rfl) | (simp only [← hji3, ← hji6]; first | rfl | (simp [errW_none, errW_some] <;> rfl)) | (simp [*, errW_none, errW_some] <;> rfl), by (with_reducible repeat (first | apply Kd.S_alloc | apply Kd.S_drewN | apply Kd.S_drew)); exact HO_5.out, be HB.out⟩
      ·rw [if_neg c10] at H
       exact absurd H (by simp)
     ·rw [if_neg c9] at H
      exact absurd H (by simp)
    ·rw [if_neg c8] at H
     exact absurd H (by simp)
   ·rw [if_neg c7] at H
    exact absurd H (by simp)
  ·rw [if_neg c5] at H
   exact absurd H (by simp)
 ·rw [if_neg c4] at H
  exact absurd H (by simp)

end Go.Proofs.YtkmfnmeilooogaaDoor.P


namespace Go.Proofs.YtkmfnmeilooogaaDoor.P
open Go.RowKit Go.Proofs.YtkmfnmeilooogaaDoorW.PrintWords Go.Proofs.YtkmfnmeilooogaaDoorW.PrintLast Go.Proofs.YtkmfnmeilooogaaDoorW.PrintMore
attribute [local go_sem] max2_int min2_int max_two min_two max_three min_three max_four min_four
set_option linter.unusedVariables false
set_option linter.unusedSimpArgs false

/-! ### spec_Common: function 25 -/
mutual
def spec_Common.j0 : Nat → List ByteArray → List ByteArray → List (S63) → Bool → Option ((List (S63)))
 | 0, _, _, _, _ => none
 | k + 1, x0, x1, x5, x18 => if x18 = true then (some x5) else ((spec_l7Table.f k x0 x1).bind fun t179 => (spec_Common.l0 k x0 x1 x5 t179 0 0))
def spec_Common.l0 : Nat → List ByteArray → List ByteArray → List (S63) → List (List Int) → Int → Int → Option ((List (S63)))
 | 0, _, _, _, _, _, _ => none
 | k + 1, x0, x1, x5, x6, x7, x8 => if 0 ≤ x7 then (if x7 < (x6.length : Int) then (if 0 ≤ x8 then (if x8 < ((rd_L2 x6 x7).length : Int) then (if (rd (rd_L2 x6 x7) x8) > 0 then ((spec_l7First.f k x0 x1 x6 x7 x8).bind fun bt184 => (if x5.length < 8796093022208 then (spec_Common.l0 k x0 x1 (x5 ++ [(⟨bt184.1, bt184.2⟩ : S63)]) x6 (wrap64 (bt184.1 + 1)) (wrap64 (bt184.2 + 1))) else (none))) else (some x5)) else (none)) else (none)) else (none)) else (none)
end
def spec_Common.f (k : Nat) (l0 : List ByteArray) (l1 : List ByteArray) : Option ((List (S63))) := (some (([] : List (S63)) : List (S63))).bind fun y176 => (if (l0.length : Int) > 1500 then (spec_Common.j0 k l0 l1 y176 true) else (spec_Common.j0 k l0 l1 y176 (decide ((l1.length : Int) > 1500))))
theorem spec_Common.mono_l : ∀ k, (∀ y0 y1 y2 y3, LeO (spec_Common.j0 k y0 y1 y2 y3) (spec_Common.j0 (k + 1) y0 y1 y2 y3)) ∧ (∀ y0 y1 y2 y3 y4 y5, LeO (spec_Common.l0 k y0 y1 y2 y3 y4 y5) (spec_Common.l0 (k + 1) y0 y1 y2 y3 y4 y5))
 | 0 => ⟨fun _ _ _ _ r h => by simp [spec_Common.j0] at h, fun _ _ _ _ _ _ r h => by simp [spec_Common.l0] at h⟩
 | k + 1 => by
  obtain ⟨ih0, ih1⟩ := spec_Common.mono_l k
  refine ⟨?_, ?_⟩
  ·intro y0 y1 y2 y3
   unfold spec_Common.j0
   repeat' first
   | (with_reducible exact ih0 _ _ _ _)
   | (with_reducible exact ih1 _ _ _ _ _ _)
   | (with_reducible exact spec_l7First.mono _ _ _ _ _ _)
   | (with_reducible exact spec_l7Table.mono _ _ _)
   | (with_reducible exact LeO.refl _)
   | (with_reducible exact LeO.none _)
   | (with_reducible refine LeO.ite ?_ ?_)
   | (with_reducible refine LeO.bind ?_ (fun _ => ?_))
   | exact ih0 _ _ _ _
   | exact ih1 _ _ _ _ _ _
   | exact spec_l7First.mono _ _ _ _ _ _
   | exact spec_l7Table.mono _ _ _
   | exact LeO.none _
   | refine LeO.ite ?_ ?_
   | refine LeO.bind ?_ (fun _ => ?_)
  ·intro y0 y1 y2 y3 y4 y5
   unfold spec_Common.l0
   repeat' first
   | (with_reducible exact ih0 _ _ _ _)
   | (with_reducible exact ih1 _ _ _ _ _ _)
   | (with_reducible exact spec_l7First.mono _ _ _ _ _ _)
   | (with_reducible exact spec_l7Table.mono _ _ _)
   | (with_reducible exact LeO.refl _)
   | (with_reducible exact LeO.none _)
   | (with_reducible refine LeO.ite ?_ ?_)
   | (with_reducible refine LeO.bind ?_ (fun _ => ?_))
   | exact ih0 _ _ _ _
   | exact ih1 _ _ _ _ _ _
   | exact spec_l7First.mono _ _ _ _ _ _
   | exact spec_l7Table.mono _ _ _
   | exact LeO.none _
   | refine LeO.ite ?_ ?_
   | refine LeO.bind ?_ (fun _ => ?_)
theorem spec_Common.mono : ∀ a0 a1 k, LeO (spec_Common.f k a0 a1) (spec_Common.f (k + 1) a0 a1) := by
 intro a0 a1 k
 obtain ⟨ih0, ih1⟩ := spec_Common.mono_l k
 unfold spec_Common.f
 repeat' first
   | (with_reducible exact ih0 _ _ _ _)
   | (with_reducible exact ih1 _ _ _ _ _ _)
   | (with_reducible exact spec_l7First.mono _ _ _ _ _ _)
   | (with_reducible exact spec_l7Table.mono _ _ _)
   | (with_reducible exact LeO.refl _)
   | (with_reducible exact LeO.none _)
   | (with_reducible refine LeO.ite ?_ ?_)
   | (with_reducible refine LeO.bind ?_ (fun _ => ?_))
   | exact ih0 _ _ _ _
   | exact ih1 _ _ _ _ _ _
   | exact spec_l7First.mono _ _ _ _ _ _
   | exact spec_l7Table.mono _ _ _
   | exact LeO.none _
   | refine LeO.ite ?_ ?_
   | refine LeO.bind ?_ (fun _ => ?_)
set_option maxHeartbeats 8000000 in
set_option maxRecDepth 100000 in
theorem spec_Common.calls (k : Nat) (A0 : Option Addr) (c0 : Nat) (l0 : List ByteArray) (A1 : Option Addr) (c1 : Nat) (l1 : List ByteArray) (r : List (S63)) (w : World) (hr0 : Kd.C Kd.string w A0 l0.length l0) (hc0 : l0.length ≤ c0) (hr1 : Kd.C Kd.string w A1 l1.length l1) (hc1 : l1.length ≤ c1) (h : spec_Common.f k l0 l1 = some r) :
  Calls Tryd.prog 25 #[.slice A0 l0.length c0, .slice A1 l1.length c1] w fun e w' => ∃ v0_ : Value, e = .returned (v0_) ∧ Kd.R k63 63 w' w.heap.size (fun _ => True) v0_ r ∧ Below w.heap.size w w' := by
 have hu63 := Tryd.underlying63
 have HR0 := Aside0.mk hr0
 have HC0 := Aside0.mk hc0
 clear hr0 hc0
 have HR1 := Aside0.mk hr1
 have HC1 := Aside0.mk hc1
 clear hr1 hc1
 have HB := Aside0.mk (Below.refl w.heap.size w)
 have H : ((some (([] : List (S63)) : List (S63))).bind fun y176 => (if (l0.length : Int) > 1500 then (spec_Common.j0 k l0 l1 y176 true) else (spec_Common.j0 k l0 l1 y176 (decide ((l1.length : Int) > 1500))))) = some r := h
 clear h
 obtain ⟨y176, hy176⟩ : ∃ y_ : List (S63), y_ = (([] : List (S63))) := ⟨_, rfl⟩
 replace H : (if (l0.length : Int) > 1500 then (spec_Common.j0 k l0 l1 y176 true) else (spec_Common.j0 k l0 l1 y176 (decide ((l1.length : Int) > 1500)))) = some r := by first | (rw [hy176]; with_reducible exact H) | (have H2_ := (Option.bind_some _ _).symm.trans H; rw [hy176]; with_reducible exact H2_) | (have H2_ := (Option.bind_some _ _).symm.trans H; with_reducible exact H2_) | with_reducible exact H | (rw [hy176]; exact H) | exact H
 have Ny176 := Aside0.mk hy176
 clear hy176
 have HC3 := Aside0.mk H
 clear H
 go_enter Tryd.func25, Tryd.ntmps25
 go_upto_region 2 with (first | ((with_reducible refine gd 10 rfl ?_); (try (refine gate_guard (by rfl) ?_; dsimp only)); refine Kd.R_lit k63 _ 63 ?hg (N := 10) ?hd (xs := ([] : List (S63))) (inner := []) (ok := fun _ => True) (okp := fun _ => True) ?hr ?hp (fun _ hk => hk) trivial (Below.refl _ _) (Nat.le_refl _) (by simp) ?_; (case hd => rfl); (case hg => rfl); (case hr => first | (go_simp; done) | (go_simp; rfl)); (case hp => exact (Reps.none _ _)); intro v177 w4 ho5 hb hg_ hnew_; clear hg_ hnew_; (first | rw [← Ny176.out] at ho5 | (simp only [Int.reduceToNat] at ho5; rw [← Ny176.out] at ho5)); refine Ya2 (Kd.R_lower ho5 (below_size (be HB.out))) (below_step (be HB.out) hb) ?_; clear HB; intro HO178 HB; clear hb ho5))
 (try simp only [Act.put, List.setIfInBounds_toArray, List.set_cons_zero, List.set_cons_succ])
 go_cut [18] (fun v18 wc => ∃ (kq : Nat) (x18_2 : Bool), v18 = .bool x18_2 ∧ Aside0 (spec_Common.j0 kq l0 l1 y176 x18_2 = some r) ∧ Aside0 (kq ≤ k) ∧ Aside0 (Kd.R k63 63 wc w.heap.size (fun _ => True) v177 y176) ∧ Aside0 (Below w.heap.size w wc))
 case first =>
  have H := HC3.out
  clear HC3
  by_cases c6 : (l0.length : Int) > 1500
  ·rw [if_pos c6] at H
   have c6b0 : decide (1500 < (l0.length : Int)) = true := decide_eq_true c6
   have c6b1 : decide (1500 < l0.length) = true := decide_eq_true (by omega)
   clear c6
   (first | rw [c6b0] | (simp only [i64_w, i32_w]; rw [c6b0]) | skip)
   have H' := Aside0.mk H
   clear H
   go_wp2
   go_meet
   case rel => exact ⟨_, (true), Ye1, H', ⟨by first | omega | exact Nat.le_refl _⟩, ⟨kr HO178.out⟩, ⟨be HB.out⟩⟩
  ·rw [if_neg c6] at H
   have c6b0 : decide (1500 < (l0.length : Int)) = false := decide_eq_false c6
   have c6b1 : decide (1500 < l0.length) = false := decide_eq_false (by omega)
   clear c6
   (first | rw [c6b0] | (simp only [i64_w, i32_w]; rw [c6b0]) | skip)
   have H' := Aside0.mk H
   clear H
   go_wp2
   go_meet
   case rel => exact ⟨_, (decide ((l1.length : Int) > 1500)), Ye1, H', ⟨by first | omega | exact Nat.le_refl _⟩, ⟨kr HO178.out⟩, ⟨be HB.out⟩⟩
 case rest =>
  clear HC3
  try clear c1
  try clear c2
  try clear p2
  try clear c6
  try clear c6b0
  try clear c6b1
  obtain ⟨kq, x18_2, rfl, HA, HJ2, HO_5, HB⟩ := hcut
  cases kq with
  | zero => exact absurd HA.out (by simp [spec_Common.j0])
  | succ kj2 =>
   have H := HA.out
   clear HA
   simp only [spec_Common.j0] at H
   by_cases c7 : x18_2 = true
   ·subst c7
    have H1 : (some y176) = some r := by rw [if_pos rfl] at H; exact H
    clear H
    have H := H1
    clear H1
    obtain rfl := Option.some.inj H
    go_wp2
    go_ret
    exact ⟨_, Ye2, kr HO_5.out, be HB.out⟩
   ·replace c7 := Bool.eq_false_iff.mpr c7
    subst c7
    have H1 : ((spec_l7Table.f kj2 l0 l1).bind fun t179 => (spec_Common.l0 kj2 l0 l1 y176 t179 0 0)) = some r := by rw [if_neg (show ¬ (false = true) by decide)] at H; exact H
    clear H
    have H := H1
    clear H1
    replace H := Option.bind_eq_some_iff.mp H
    obtain ⟨t179, A80, H⟩ := H
    replace H : (spec_Common.l0 kj2 l0 l1 y176 t179 0 0) = some r := H
    have A8 := Aside0.mk A80
    clear A80
    have H' := Aside0.mk H
    clear H
    go_wp2_with (first | ((with_reducible refine gc 61 rfl ?_); refine gl (some 22) _ (#[.slice A0 l0.length c0, .slice A1 l1.length c1]) Tryd.func61 ?_; (with_reducible refine (spec_l7Table.calls kj2 _ _ l0 _ _ l1 t179 _ ?side1 ?side2 ?side3 ?side4 A8.out).mono ?_); (case side1 => exact cb (Kd.C_below HR0.out HB.out)); (case side2 => exact HC0.out); (case side3 => exact cb (Kd.C_below HR1.out HB.out)); (case side4 => exact HC1.out); rintro e w9 ⟨v180, rfl, ho0, hb⟩; refine ⟨_, rfl, ?_⟩; refine Ya3 (Kd.R_below (kr HO_5.out) hb) (Kd.S_lower ho0 (below_size (be HB.out))) (below_step (be HB.out) hb) ?_; clear HO_5 HB; intro HO_5 HO181 HB; (try clear hb); (try clear hb2); (try clear hk); (try clear hi); (try clear ho0)))
    go_loopg [5, 7, 8] kj2 (fun kq v5 v7 v8 w' => ∃ (x5_2 : List (S63)) (x7_2 : Int) (x8_2 : Int), v7 = .int .i64 x7_2 ∧ v8 = .int .i64 x8_2 ∧ Aside0 (spec_Common.l0 kq l0 l1 x5_2 t179 x7_2 x8_2 = some r) ∧ Aside0 (kq ≤ kj2) ∧ Aside0 (Kd.R k63 63 w' w.heap.size (fun _ => True) v5 x5_2) ∧ Aside0 (Kd.S (Kd.slice 3 (Kd.int .i64)) 101 w' w.heap.size (fun _ => True) v180 t179) ∧ Aside0 (Below w.heap.size w w'))
    case atStart => exact ⟨(y176), (0), (0), Ye1, Ye1, H', ⟨Nat.le_refl _⟩, ⟨kr HO_5.out⟩, ⟨by (with_reducible repeat (first | apply Kd.S_alloc | apply Kd.S_drewN | apply Kd.S_drew)); exact HO181.out⟩, ⟨be HB.out⟩⟩
    case round =>
     clear H'
     try clear c1
     try clear c2
     try clear p2
     try clear c6
     try clear c6b0
     try clear c6b1
     try clear c7
     try clear p2
     obtain ⟨x5_2, x7_2, x8_2, rfl, rfl, HA, HK2, HO_5, HO_6, HB⟩ := hrel
     cases gk with
     | zero => exact absurd HA.out (by simp [spec_Common.l0])
     | succ k2 =>
      have H := HA.out
      clear HA
      simp only [spec_Common.l0] at H
      by_cases c10 : 0 ≤ x7_2
      ·rw [if_pos c10] at H
       have c10b0 : decide (0 ≤ x7_2) = true := decide_eq_true c10
       clear c10
       by_cases c11 : x7_2 < (t179.length : Int)
       ·rw [if_pos c11] at H
        have c11b0 : decide (x7_2 < (t179.length : Int)) = true := decide_eq_true c11
        clear c11
        by_cases c12 : 0 ≤ x8_2
        ·rw [if_pos c12] at H
         have c12b0 : decide (0 ≤ x8_2) = true := decide_eq_true c12
         clear c12
         by_cases c13 : x8_2 < ((rd_L2 t179 x7_2).length : Int)
         ·rw [if_pos c13] at H
          have c13b0 : decide (x8_2 < ((rd_L2 t179 x7_2).length : Int)) = true := decide_eq_true c13
          clear c13
          by_cases c14 : (rd (rd_L2 t179 x7_2) x8_2) > 0
          ·rw [if_pos c14] at H
           have c14b0 : decide (0 < (rd (rd_L2 t179 x7_2) x8_2)) = true := decide_eq_true c14
           clear c14
           replace H := Option.bind_eq_some_iff.mp H
           obtain ⟨⟨t184, t185⟩, A150, H⟩ := H
           replace H : (if x5_2.length < 8796093022208 then (spec_Common.l0 k2 l0 l1 (x5_2 ++ [(⟨t184, t185⟩ : S63)]) t179 (wrap64 (t184 + 1)) (wrap64 (t185 + 1))) else (none)) = some r := H
           have A15 := Aside0.mk A150
           clear A150
           by_cases c16 : x5_2.length < 8796093022208
           ·rw [if_pos c16] at H
            have LMc16 := Aside0.mk c16
            clear c16
            obtain ⟨y187, hy187⟩ : ∃ y_ : List (S63), y_ = (x5_2 ++ [(⟨t184, t185⟩ : S63)]) := ⟨_, rfl⟩
            replace H : (spec_Common.l0 k2 l0 l1 y187 t179 (wrap64 (t184 + 1)) (wrap64 (t185 + 1))) = some r := by first | (rw [hy187]; with_reducible exact H) | (have H2_ := (Option.bind_some _ _).symm.trans H; rw [hy187]; with_reducible exact H2_) | (have H2_ := (Option.bind_some _ _).symm.trans H; with_reducible exact H2_) | with_reducible exact H | (rw [hy187]; exact H) | exact H
            have Ny187 := Aside0.mk hy187
            clear hy187
            have H' := Aside0.mk H
            clear H
            obtain ⟨Ao17, co17, eo17⟩ := Kd.S_slice HO_6.out
            subst eo17
            have p182 : 0 ≤ (x7_2 : Int) := oda
            have q182 : x7_2 < (t179.length : Int) := oda
            obtain ⟨ad182, A182_0, c182_0, e182, hx182_0, hl182_0, hi182_0⟩ := at_L2 (Kd.S_reads' HO_6.out).2.2 x7_2 p182 q182
            cases e182
            obtain ⟨ce182, hce182, hMe182, hcc182⟩ := Kd.S_get HO_6.out [] x7_2 p182 (by first | exact q182 | exact oda | (have e_ := (Kd.S_reads' HO_6.out).1; omega))
            obtain ⟨ve182_0, rfl, ge182_0⟩ := hMe182
            have hv182_0 := hcc182 0 _ rfl
            rw [Nat.add_zero, show ((Kd.slice 3 (Kd.int .i64))).sz = 1 from rfl, Nat.mul_one] at hv182_0
            replace hv182_0 := Option.some.inj (hv182_0.symm.trans hx182_0)
            rw [hv182_0] at ge182_0
            have HL182_0 := Aside0.mk (show Kd.R (Kd.int .i64) 3 _ _ _ _ (rd_L2 t179 x7_2) from ge182_0)
            clear hv182_0 ge182_0
            clear hcc182 hce182
            have HR182_0 := Aside0.mk hi182_0
            have HC182_0 := Aside0.mk hl182_0
            clear hi182_0 hl182_0
            replace p182 := eq_true p182
            replace q182 := eq_true q182
            have p183 : 0 ≤ (x8_2 : Int) := oda
            have q183 : x8_2 < ((rd_L2 t179 x7_2).length : Int) := oda
            obtain ⟨ad183, e183, hx183_0⟩ := Kd.at_int (by repeat (first | (with_reducible exact HR182_0.out) | (with_reducible refine Kd.C_alloc ?_ _) | (with_reducible refine Kd.C_drewN ?_ _) | (with_reducible refine Kd.C_drew ?_) | exact HR182_0.out)) x8_2 p183 q183
            cases e183
            replace p183 := eq_true p183
            replace q183 := eq_true q183
            go_wp2_with (first | ((with_reducible refine gc 62 rfl ?_); refine gl (some 36) _ (#[.slice A0 l0.length c0, .slice A1 l1.length c1, .slice (some ad182) t179.length co17, .int .i64 x7_2, .int .i64 x8_2]) Tryd.func62 ?_; (with_reducible refine (spec_l7First.calls k2 _ _ l0 _ _ l1 _ _ t179 x7_2 x8_2 t184 t185 _ ?side1 ?side2 ?side3 ?side4 ?side5 ?side6 A15.out).mono ?_); (case side1 => exact cb (Kd.C_below HR0.out HB.out)); (case side2 => exact HC0.out); (case side3 => exact cb (Kd.C_below HR1.out HB.out)); (case side4 => exact HC1.out); (case side5 => repeat (first | exact (Kd.S_reads' HO_6.out).2.2 | (with_reducible refine Kd.C_alloc ?_ _) | (with_reducible refine Kd.C_drewN ?_ _) | (with_reducible refine Kd.C_drew ?_))); (case side6 => exact (Kd.S_reads' HO_6.out).2.1); rintro e w18 ⟨rfl, hb⟩; refine ⟨_, rfl, ?_⟩; refine Ya5 (Kd.R_below (kr HO_5.out) hb) (Kd.S_below (by (with_reducible repeat (first | apply Kd.S_alloc | apply Kd.S_drewN | apply Kd.S_drew)); exact HO_6.out) hb) (Kd.R_below (kr HL182_0.out) hb) (Kd.C_below (by repeat (first | (with_reducible exact HR182_0.out) | (with_reducible refine Kd.C_alloc ?_ _) | (with_reducible refine Kd.C_drewN ?_ _) | (with_reducible refine Kd.C_drew ?_) | exact HR182_0.out)) hb) (below_step (be HB.out) hb) ?_; clear HO_5 HO_6 HL182_0 HR182_0 HB; intro HO_5 HO_6 HL182_0 HR182_0 HB; (try clear hb); (try clear hb2); (try clear hk); (try clear hi)) | ((with_reducible refine gd 9 rfl ?_); (try (refine gate_guard (by rfl) ?_; dsimp only)); refine bx 9 63 (#[.int .i64 0, .int .i64 0]) ?_; intro gb186 hg w19 hbox hb; refine Ya8 (Kd.R_below (Kd.R_elderB (kr HO_5.out) gb186 (Nat.le_of_eq hg.symm)) hb) (Kd.S_below (by (with_reducible repeat (first | apply Kd.S_alloc | apply Kd.S_drewN | apply Kd.S_drew)); exact HO_6.out) hb) (Kd.R_below (kr HL182_0.out) hb) (Kd.C_below (by repeat (first | (with_reducible exact HR182_0.out) | (with_reducible refine Kd.C_alloc ?_ _) | (with_reducible refine Kd.C_drewN ?_ _) | (with_reducible refine Kd.C_drew ?_) | exact HR182_0.out)) hb) (below_step (be HB.out) hb) (hbox) (bs hg (be HB.out)) (bs hg (be HB.out)) ?_; clear HO_5 HO_6 HL182_0 HR182_0 HB; intro HO_5 HO_6 HL182_0 HR182_0 HB BK186 GW186 GE186; clear hb hbox hg; have ⟨hcz20_0, hcz20_1, hfz20_0, hfz20_1⟩ := Yc2 BK186.out) | ((with_reducible refine gate_builtin (b := .append) (xs := #[.tmp 37, .tmp 39]) rfl ?_); (try (refine gate_guard (by rfl) ?_; dsimp only)); at_builtin; refine Kd.R_append k63 (w0 := w) w.heap.size rfl (.tmp 37) (.tmp 39) 57 63 (.agg #[(.int .i64 0), (.int .i64 0)]) 16 rfl Tryd.underlying57 info63 rfl (by decide) (by omega) u5 x5_2 (⟨t184, t185⟩ : S63) [.int .i64 t184, .int .i64 t185] (fun k_ => k_ ≠ gb186) (fun _ => False) rfl (by first | (go_simp; done) | (go_simp; rfl)) ?aP (fun _ hk => hk.elim) ?aF ?aO ?aB ?aS ?aL ?_; (case aP => exact k63_mkM _ _ _ (⟨t184, t185⟩ : S63)); (case aB => exact (bf HB.out)); (case aF => exact (fun k_ hk => Kd.freshB (g := gb186) (o := .cells #[.int .i64 t184, .int .i64 t185] 63 (0, 0)) (bp BK186.out) k_ hk)); (case aO => exact (by (with_reducible repeat (first | apply Kd.R_alloc | apply Kd.R_drewN | apply Kd.R_drew)); exact Kd.R_mono (Kd.R_far (p := ⟨gb186, 1, none⟩) (Kd.R_far (p := ⟨gb186, 0, none⟩) (Kd.R_mono HO_5.out (fun k_ hk => (⟨hk, hk.2⟩ : _ ∧ k_ ≠ gb186))) (fun _ hk => hk.2) (.int .i64 t184)) (fun _ hk => hk.2) (.int .i64 t185)) (fun _ hk => hk.1.2))); (case aS => exact (below_size (bf HB.out))); (case aL => have := LMc16.out; omega); intro v188 w21 ho hb hg hat; rw [← Ny187.out] at ho; refine Ya5 (Kd.S_over' (by (with_reducible repeat (first | apply Kd.S_alloc | apply Kd.S_drewN | apply Kd.S_drew)); exact (Kd.S_mono (Kd.S_far (p := ⟨gb186, 1, none⟩) (Kd.S_far (p := ⟨gb186, 0, none⟩) (Kd.S_types HO_6.out BK186.out (by decide)) (fun _ hk => hk.2) (.int .i64 t184)) (fun _ hk => hk.2) (.int .i64 t185)) (fun _ h_ => h_.1))) (Kd.R_typed (rp HO_5.out (fun k_ hk => hk.2))) (by decide) hg) (Kd.R_over' (rf HL182_0 BK186) (Kd.R_typed (rp HO_5.out (fun k_ hk => hk.2))) (by decide) hg) (blk_grown (g := gb186) (o := .cells #[.int .i64 t184, .int .i64 t185] 63 (0, 0)) (bp BK186.out) hg (Kd.R_away HO_5.out (fun _ hk => hk.2))) (hb) (ho) ?_; clear HO_6 HL182_0 BK186 HB HO_5; intro HO_6 HL182_0 BK186 HB HO189; clear ho hb hg hat; have ⟨hcz22_0, hcz22_1, hfz22_0, hfz22_1⟩ := Yc2 BK186.out))
            go_roundg k2
            case measure => have := HJ2.out; have := HK2.out; omega
            case rel => exact ⟨(y187), (wrap64 (t184 + 1)), (wrap64 (t185 + 1)), Ye1, Ye1, H', ⟨by have := HJ2.out; have := HK2.out; omega⟩, ⟨by (with_reducible repeat (first | apply Kd.R_alloc | apply Kd.R_drewN | apply Kd.R_drew)); exact Kd.R_mono HO189.out (fun _ hk => trivial)⟩, ⟨by (with_reducible repeat (first | apply Kd.S_alloc | apply Kd.S_drewN | apply Kd.S_drew)); exact HO_6.out⟩, ⟨bf HB.out⟩⟩
           ·rw [if_neg c16] at H
            exact absurd H (by simp)
          ·rw [if_neg c14] at H
           have c14b0 : decide (0 < (rd (rd_L2 t179 x7_2) x8_2)) = false := decide_eq_false c14
           clear c14
           obtain rfl := Option.some.inj H
           obtain ⟨Ao23, co23, eo23⟩ := Kd.S_slice HO_6.out
           subst eo23
           have p182 : 0 ≤ (x7_2 : Int) := oda
           have q182 : x7_2 < (t179.length : Int) := oda
           obtain ⟨ad182, A182_0, c182_0, e182, hx182_0, hl182_0, hi182_0⟩ := at_L2 (Kd.S_reads' HO_6.out).2.2 x7_2 p182 q182
           cases e182
           obtain ⟨ce182, hce182, hMe182, hcc182⟩ := Kd.S_get HO_6.out [] x7_2 p182 (by first | exact q182 | exact oda | (have e_ := (Kd.S_reads' HO_6.out).1; omega))
           obtain ⟨ve182_0, rfl, ge182_0⟩ := hMe182
           have hv182_0 := hcc182 0 _ rfl
           rw [Nat.add_zero, show ((Kd.slice 3 (Kd.int .i64))).sz = 1 from rfl, Nat.mul_one] at hv182_0
           replace hv182_0 := Option.some.inj (hv182_0.symm.trans hx182_0)
           rw [hv182_0] at ge182_0
           have HL182_0 := Aside0.mk (show Kd.R (Kd.int .i64) 3 _ _ _ _ (rd_L2 t179 x7_2) from ge182_0)
           clear hv182_0 ge182_0
           clear hcc182 hce182
           have HR182_0 := Aside0.mk hi182_0
           have HC182_0 := Aside0.mk hl182_0
           clear hi182_0 hl182_0
           replace p182 := eq_true p182
           replace q182 := eq_true q182
           have p183 : 0 ≤ (x8_2 : Int) := oda
           have q183 : x8_2 < ((rd_L2 t179 x7_2).length : Int) := oda
           obtain ⟨ad183, e183, hx183_0⟩ := Kd.at_int (by repeat (first | (with_reducible exact HR182_0.out) | (with_reducible refine Kd.C_alloc ?_ _) | (with_reducible refine Kd.C_drewN ?_ _) | (with_reducible refine Kd.C_drew ?_) | exact HR182_0.out)) x8_2 p183 q183
           cases e183
           replace p183 := eq_true p183
           replace q183 := eq_true q183
           go_wp2
           go_ret
           exact ⟨_, Ye2, kr HO_5.out, be HB.out⟩
         ·rw [if_neg c13] at H
          exact absurd H (by simp)
        ·rw [if_neg c12] at H
         exact absurd H (by simp)
       ·rw [if_neg c11] at H
        exact absurd H (by simp)
      ·rw [if_neg c10] at H
       exact absurd H (by simp)

end Go.Proofs.YtkmfnmeilooogaaDoor.P

