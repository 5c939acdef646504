/- Several texts of this claim in one file: YtkmfnmeilooogaaDoorPImplMergeText, YtkmfnmeilooogaaDoorPLawsFnExactMergeText. -/
import Derived.Test.YtkmfnmeilooogaaDoorM3
import Derived.Test.YtkmfnmeilooogaaDoorM6
import Derived.Test.YtkmfnmeilooogaaDoorM8
import Derived.Test.YtkmfnmeilooogaaDoorM5
import Derived.Deep.QuietTactic
import Derived.Deep.RegionHeld3
import Derived.Deep.DeepCutAuto
import Derived.Test.YtkmfnmeilooogaaDoorM4
import Derived.Test.YtkmfnmeilooogaaDoorM7
namespace Go.Proofs.YtkmfnmeilooogaaDoor.P
open Go.RowKit Go.Proofs.YtkmfnmeilooogaaDoorW.PrintWords Go.Proofs.YtkmfnmeilooogaaDoorW.PrintLast Go.Proofs.YtkmfnmeilooogaaDoorW.PrintMore
attribute [local go_sem] max2_int min2_int max_two min_two max_three min_three max_four min_four
set_option linter.unusedVariables false
set_option linter.unusedSimpArgs false

/-! ### impl_MergeText: function 9 -/
/- Walked by hand. -/
open Go.Proofs.YtkmfnmeilooogaaDoor.Pure
theorem set2 {W w' : World} {b : Nat} {t : TypeId} {c0 c1 x0 x1 : Value} (h : W.heap[b]? = some (.cells #[c0, c1] t (0, 0))) (hw : w' = (W.setCell ⟨b, 0, none⟩ x0).setCell ⟨b, 1, none⟩ x1) :
  w'.heap[b]? = some (.cells #[x0, x1] t (0, 0)) ∧ W.grownBy w' (some b) ∧ w'.heap.size = W.heap.size := by
 subst hw
 exact ⟨blk_put (blk_put h 0 x0 rfl) 1 x1 rfl, grown_then (grown_set _ _ _ _) (grown_set _ _ _ _), by simp only [size_set]⟩
theorem IMapAt.frame {w0 w : World} {b bx : Nat} {M : List (Int × Int)} (h : IMapAt w0 b M) (hf : FrameBut w0 bx w) (hn : b ≠ bx) : IMapAt w b M := by
 obtain ⟨es, clock, hb, rest⟩ := h
 exact ⟨es, clock, hf.blk hb hn, rest⟩
theorem int_zero (w : World) : (zeroValue 3).run Tryd.prog w = .ok (.int .i64 0) w := by kernel_rfl
/-- The pairs as a map. -/
def impl_MergeText.ip (l : List (Nat × Nat)) : List (Int × Int) := l.map fun p => ((p.1 : Int), (p.2 : Int))
theorem impl_MergeText.ip_has (l : List (Nat × Nat)) (n : Nat) : imhas (n : Int) (impl_MergeText.ip l) = (withP l n).isSome ∧ imget (n : Int) (impl_MergeText.ip l) = ((withP l n).getD 0 : Nat) := by
 induction l with
 | nil => exact ⟨rfl, rfl⟩
 | cons p r ih =>
  unfold impl_MergeText.ip at ih ⊢
  rw [List.map_cons, imhas, imget, withP]
  by_cases h : p.1 = n
  ·subst h
   simp
  ·have q : ¬ ((p.1 : Int) = (n : Int)) := by omega
   simp only [if_neg h, if_neg q]
   exact ih
theorem imput_new (k v : Int) : ∀ M : List (Int × Int), (∀ p ∈ M, p.1 ≠ k) → imput k v M = M ++ [(k, v)]
 | [], _ => rfl
 | p :: r, h => by
  rw [imput, if_neg (h p List.mem_cons_self), imput_new k v r (fun q hq => h q (List.mem_cons_of_mem _ hq))]
  rfl
theorem impl_MergeText.ip_put {l : List (Nat × Nat)} (h : l.Pairwise upP) (i : Nat) (hi : i < l.length) : imput (l[i].1 : Int) (l[i].2 : Int) (impl_MergeText.ip (l.take i)) = impl_MergeText.ip (l.take (i + 1)) := by
 rw [imput_new]
 ·unfold impl_MergeText.ip
  rw [List.take_succ_eq_append_getElem hi, List.map_append]
  rfl
 ·intro p hp
  unfold impl_MergeText.ip at hp
  obtain ⟨q, hq, rfl⟩ := List.mem_map.1 hp
  obtain ⟨j, hj, rfl⟩ := List.getElem_of_mem hq
  rw [List.length_take] at hj
  rw [List.getElem_take]
  have := (List.pairwise_iff_getElem.1 h j i (by omega) hi (by omega)).1
  show ((_ : Nat) : Int) ≠ _
  omega
def impl_MergeText.pr (l : List (Nat × Nat)) : List S63 := l.map fun p => ⟨(p.1 : Int), (p.2 : Int)⟩
theorem impl_MergeText.common (O X : List ByteArray) : impl_Common.f O X = some (impl_MergeText.pr (pairsN O X)) := by
 unfold impl_Common.f pairsN impl_MergeText.pr
 split <;> rfl
theorem impl_MergeText.up (O X : List ByteArray) : (pairsN O X).Pairwise upP := by
 unfold pairsN
 split
 ·exact List.Pairwise.nil
 ·exact (pairs_ok O X (lc O X 0 0) 0 0 (Nat.zero_le _) (Nat.zero_le _) rfl).2.2
theorem impl_MergeText.plen (O X : List ByteArray) (h : O.length ≤ 1500) : (pairsN O X).length ≤ 1500 := by
 unfold pairsN
 split
 ·exact Nat.zero_le _
 ·rw [(pairs_ok O X (lc O X 0 0) 0 0 (Nat.zero_le _) (Nat.zero_le _) rfl).1]
  have := (lc_le O X _ 0 0 (Nat.le_refl _)).1
  omega
theorem impl_MergeText.rowAt {w6 wr : World} {bm base n c : Nat} {A : Option Addr} {l : List S63} (h : Kd.R k63 63 w6 base (fun k => k ≠ bm) (.slice A n c) l) (hf : FrameBut w6 bm wr) : Kd.C k63 wr A l.length l :=
 (Kd.R_reads' (Kd.R_step h fun k hk hlt => hf.2 k hlt hk)).2.2
theorem impl_MergeText.sl_len (l : List ByteArray) {i j : Nat} (h : i ≤ j) (hj : j ≤ l.length) : (sl l i j).length = j - i := by
 unfold sl
 rw [List.length_drop, List.length_take]
 omega
theorem impl_MergeText.sl_C {w : World} {A : Option Addr} {l : List ByteArray} {c : Nat} (h : Kd.C Kd.string w A l.length l) {i j : Nat} (hij : i ≤ j) (hj : j ≤ l.length) (hc : l.length ≤ c) : Kd.C Kd.string w (if c = i then A else A.map (·.add i)) (sl l i j).length (sl l i j) := by
 have := Kd.C_mid h hij hj hc
 rw [show i * Kd.string.sz = i from Nat.mul_one i] at this
 exact this
theorem impl_MergeText.cat_sl (l : List ByteArray) (i j : Nat) : (cat (sl l i j)).size ≤ (cat l).size := by
 unfold sl
 have h1 := cat_take_le (l.take j) i
 have h2 := cat_take_le l j
 omega
theorem impl_MergeText.join_cat (l : List ByteArray) : (⟨(Lib.join (l.map (·.data.toList)) (⟨#[]⟩ : ByteArray).data.toList).toArray⟩ : ByteArray) = cat l := by
 unfold cat ofBytes
 congr 2
 cases l with
 | nil => rfl
 | cons x r =>
  rw [List.map_cons, Lib.join_cons, List.flatten_cons]
  congr 1
  unfold Lib.joinTail
  congr 1
  exact List.map_id'' (fun _ => rfl) _
theorem impl_MergeText.join_now (l : List ByteArray) (h1 : l.length ≤ 1500) (h2 : (cat l).size ≤ 1500) : strings_Join.f l ⟨#[]⟩ = some (cat l) := by
 unfold strings_Join.f
 have e := impl_MergeText.join_cat l
 have h3 : (Lib.join (l.map (·.data.toList)) (⟨#[]⟩ : ByteArray).data.toList).length = (cat l).size := by
  rw [← e]
  show _ = (Lib.join (l.map (·.data.toList)) (⟨#[]⟩ : ByteArray).data.toList).toArray.size
  rw [List.size_toArray]
 rw [if_pos ⟨by omega, by rw [h3]; omega⟩, e]
theorem impl_MergeText.step {O X Y : List ByteArray} {f g : Nat → Option Nat} (hO : wellB O) (hX : wellB X) (hY : wellB Y) {d n i j k x y : Nat} {out : ByteArray} (hn : n ≤ O.length) (h1 : n < O.length → f n = some x ∧ g n = some y) (h2 : n = O.length → x = X.length ∧ y = Y.length) :
  mgo O X Y f g (d + 1) n i j k out = (threeL (sl O i n) (sl X j x) (sl Y k y)).bind fun s => mgo O X Y f g d (n + 1) (n + 1) (x + 1) (y + 1) (if h : n < O.length then out ++ s ++ O[n] else out ++ s) := by
 rw [mgo, ← three_lines (wellB_sl hO _ _) (wellB_sl hX _ _) (wellB_sl hY _ _)]
 by_cases h : n < O.length
 ·obtain ⟨e1, e2⟩ := h1 h
  rw [dif_pos h, e1, e2]
  simp only [dif_pos h]
 ·obtain ⟨rfl, rfl⟩ := h2 (by omega)
  rw [dif_neg h]
  simp only [dif_neg h]
theorem impl_MergeText.skip {O X Y : List ByteArray} {f g : Nat → Option Nat} {d n i j k : Nat} {out : ByteArray} (h : n < O.length) (h1 : f n = none ∨ g n = none) : mgo O X Y f g (d + 1) n i j k out = mgo O X Y f g d (n + 1) i j k out := by
 rw [mgo, dif_pos h]
 rcases h1 with e | e
 ·rw [e]
 ·rw [e]
  cases f n <;> rfl
theorem impl_MergeText.elem (l : List ByteArray) (n : Nat) (h : n < l.length) : (l[n]).size ≤ (cat l).size := by
 have h1 := impl_MergeText.cat_sl l n (n + 1)
 have e : sl l n (n + 1) = [l[n]] := by
  unfold sl
  rw [List.take_succ_eq_append_getElem h, List.drop_append_of_le_length (by rw [List.length_take]; omega), List.drop_of_length_le (by rw [List.length_take]; omega)]
  rfl
 rwa [e, cat_one] at h1
def impl_MergeText.out (o : Option ByteArray) : ByteArray × Bool := match o with
 | some s => (s, true)
 | none => (⟨#[]⟩, false)
/-- A stretch, as the walk cuts it. -/
theorem impl_MergeText.cut {W : World} {A : Option Addr} {l : List ByteArray} {c : Nat} (h : Kd.C Kd.string W A l.length l) {i j : Nat} (hij : i ≤ j) (hj : j ≤ l.length) (hc : l.length ≤ c) : ∃ A' c', (sl l i j).length ≤ c' ∧ Kd.C Kd.string W A' (sl l i j).length (sl l i j) ∧ ∀ W : World, (Instr.slice 29 (.slice A l.length c) (some (.int .i64 (i : Int))) (some (.int .i64 (j : Int))) none).run Tryd.prog W = .ok (.slice A' (sl l i j).length c') W := by
 obtain ⟨i0, hi0, _, hsz, _⟩ := info_parts info9
 have h1 := cut_mid (P := Tryd.prog) 29 9 .i64 .i64 Tryd.underlying29 hi0 1 hsz A l.length c (i : Int) (j : Int) (by omega) (by omega) (by omega) hc
 have h2 := impl_MergeText.sl_C h hij hj hc
 refine ⟨_, c - i, ?_, h2, fun W => ?_⟩
 ·rw [impl_MergeText.sl_len l hij hj]
  omega
 ·rw [h1 W, impl_MergeText.sl_len l hij hj, Int.toNat_natCast, Int.toNat_natCast, Nat.mul_one]
theorem impl_MergeText.eqv {W : World} {A A' : Option Addr} {c c' : Nat} {l l' : List ByteArray} {b : Bool} (h : Kd.C Kd.string W A l.length l) (h' : Kd.C Kd.string W A' l'.length l') (e : decide (l = l') = b) (nd : Nat) :
  Calls Tryd.prog 31 #[.slice A l.length c, .slice A' l'.length c'] (W.drewN nd) fun e w' => e = .returned (.bool b) ∧ ∃ m, w' = W.drewN m := by
 subst e
 exact Calls.quiet_of (slices_Equal_string_string.calls A c l A' c' l' _ (Kd.C_drewN h _) (Kd.C_drewN h' _))
def impl_MergeText.f (a0 a1 a2 : ByteArray) : Option (ByteArray × Bool) := some (mergeT a0 a1 a2)
set_option maxHeartbeats 4000000 in
set_option maxRecDepth 100000 in
theorem impl_MergeText.big (a0 a1 a2 : ByteArray) (w : World) (h : a0.size > 1500 ∨ a1.size > 1500 ∨ a2.size > 1500) :
  Calls Tryd.prog 9 #[.string a0, .string a1, .string a2] w fun e w' => e = .returned (.tuple #[.string ⟨#[]⟩, .bool false]) ∧ Below w.heap.size w w' := by
 have HB := Aside0.mk (Below.refl w.heap.size w)
 by_cases h0 : 1500 < a0.size
 ·have d0 : decide ((1500 : Int) < (a0.size : Int)) = true := decide_eq_true (by omega)
  have d1 : decide (1500 < a0.size) = true := decide_eq_true h0
  clear h h0
  go_enter Tryd.func9, Tryd.ntmps9
  go_wp2
  go_ret2
  exact ⟨rfl, HB.out⟩
 ·have d0 : decide ((1500 : Int) < (a0.size : Int)) = false := decide_eq_false (by omega)
  have d1 : decide (1500 < a0.size) = false := decide_eq_false h0
  by_cases h1 : 1500 < a1.size
  ·have d2 : decide ((1500 : Int) < (a1.size : Int)) = true := decide_eq_true (by omega)
   have d3 : decide (1500 < a1.size) = true := decide_eq_true h1
   clear h h0 h1
   go_enter Tryd.func9, Tryd.ntmps9
   go_wp2
   go_ret2
   exact ⟨rfl, HB.out⟩
  ·have d2 : decide ((1500 : Int) < (a1.size : Int)) = false := decide_eq_false (by omega)
   have d3 : decide (1500 < a1.size) = false := decide_eq_false h1
   have d4 : decide ((1500 : Int) < (a2.size : Int)) = true := decide_eq_true (by omega)
   have d5 : decide (1500 < a2.size) = true := decide_eq_true (by omega)
   clear h h0 h1
   go_enter Tryd.func9, Tryd.ntmps9
   go_wp2
   go_ret2
   exact ⟨rfl, HB.out⟩
/-- What the loops keep: the three rows of lines. -/
structure impl_MergeText.At (w3 : World) (A0 A1 A2 : Option Addr) (O X Y : List ByteArray) (W : World) : Prop where
 b : Below w3.heap.size w3 W
 r0 : Kd.C Kd.string w3 A0 O.length O
 r1 : Kd.C Kd.string w3 A1 X.length X
 r2 : Kd.C Kd.string w3 A2 Y.length Y
theorem impl_MergeText.At.go {w3 W W' : World} {A0 A1 A2 : Option Addr} {O X Y : List ByteArray} (h : impl_MergeText.At w3 A0 A1 A2 O X Y W) (hb : Below W.heap.size W W') : impl_MergeText.At w3 A0 A1 A2 O X Y W' := ⟨below_step h.b hb, h.r0, h.r1, h.r2⟩
theorem impl_MergeText.At.own {w3 W W' : World} {A0 A1 A2 : Option Addr} {O X Y : List ByteArray} {g : Nat} (h : impl_MergeText.At w3 A0 A1 A2 O X Y W) (hg : W.grownBy W' (some g)) (hb : w3.heap.size ≤ g) : impl_MergeText.At w3 A0 A1 A2 O X Y W' := ⟨below_own h.b hg hb, h.r0, h.r1, h.r2⟩
theorem impl_MergeText.At.c0 {w3 W : World} {A0 A1 A2 : Option Addr} {O X Y : List ByteArray} (h : impl_MergeText.At w3 A0 A1 A2 O X Y W) : Kd.C Kd.string W A0 O.length O := Kd.C_below h.r0 h.b
theorem impl_MergeText.At.c1 {w3 W : World} {A0 A1 A2 : Option Addr} {O X Y : List ByteArray} (h : impl_MergeText.At w3 A0 A1 A2 O X Y W) : Kd.C Kd.string W A1 X.length X := Kd.C_below h.r1 h.b
theorem impl_MergeText.At.c2 {w3 W : World} {A0 A1 A2 : Option Addr} {O X Y : List ByteArray} (h : impl_MergeText.At w3 A0 A1 A2 O X Y W) : Kd.C Kd.string W A2 Y.length Y := Kd.C_below h.r2 h.b
set_option maxHeartbeats 8000000 in
set_option maxRecDepth 100000 in
theorem impl_MergeText.main (a0 a1 a2 : ByteArray) (r1 : ByteArray) (r2 : Bool) (w : World) (hg : GOK w) (h0 : a0.size ≤ 1500) (h1 : a1.size ≤ 1500) (h2 : a2.size ≤ 1500) (h : mergeT a0 a1 a2 = (r1, r2)) :
  Calls Tryd.prog 9 #[.string a0, .string a1, .string a2] w fun e w' => e = .returned (.tuple #[.string r1, .bool r2]) ∧ Below w.heap.size w w' := by
 have HG := Aside0.mk hg
 have HB := Aside0.mk (Below.refl w.heap.size w)
 have HL0 := Aside0.mk (impl_Lines_now a0 (by omega))
 have HL1 := Aside0.mk (impl_Lines_now a1 (by omega))
 have HL2 := Aside0.mk (impl_Lines_now a2 (by omega))
 have HZ0 := Aside0.mk (show (cat (lines a0)).size ≤ 1500 from Nat.le_trans (cat_lines_le a0) h0)
 have HZ1 := Aside0.mk (show (cat (lines a1)).size ≤ 1500 from Nat.le_trans (cat_lines_le a1) h1)
 have HZ2 := Aside0.mk (show (cat (lines a2)).size ≤ 1500 from Nat.le_trans (cat_lines_le a2) h2)
 have HN0 := Aside0.mk (lines_le (s := a0))
 have HN1 := Aside0.mk (lines_le (s := a1))
 have HN2 := Aside0.mk (lines_le (s := a2))
 have HW0 := Aside0.mk (lines_well a0)
 have HW1 := Aside0.mk (lines_well a1)
 have HW2 := Aside0.mk (lines_well a2)
 unfold mergeT at h
 rw [if_neg (by omega)] at h
 have HT := Aside0.mk h
 clear h hg
 have d0 : decide ((1500 : Int) < (a0.size : Int)) = false := decide_eq_false (by omega)
 have d1 : decide (1500 < a0.size) = false := decide_eq_false (by omega)
 have d2 : decide ((1500 : Int) < (a1.size : Int)) = false := decide_eq_false (by omega)
 have d3 : decide (1500 < a1.size) = false := decide_eq_false (by omega)
 have d4 : decide ((1500 : Int) < (a2.size : Int)) = false := decide_eq_false (by omega)
 have d5 : decide (1500 < a2.size) = false := decide_eq_false (by omega)
 clear h0 h1 h2
 generalize lines a0 = O at HL0 HZ0 HN0 HW0 HT
 generalize lines a1 = X at HL1 HZ1 HN1 HW1 HT
 generalize lines a2 = Y at HL2 HZ2 HN2 HW2 HT
 have HPX := Aside0.mk (impl_MergeText.up O X)
 have HPY := Aside0.mk (impl_MergeText.up O Y)
 have HCX := Aside0.mk (impl_MergeText.common O X)
 have HCY := Aside0.mk (impl_MergeText.common O Y)
 have HQX := Aside0.mk (pairsN_part O X)
 have HQY := Aside0.mk (pairsN_part O Y)
 have HLX := Aside0.mk (impl_MergeText.plen O X HN0.out)
 have HLY := Aside0.mk (impl_MergeText.plen O Y HN0.out)
 unfold mergeL at HT
 generalize pairsN O X = PX at HT HPX HCX HQX HLX
 generalize pairsN O Y = PY at HT HPY HCY HQY HLY
 obtain ⟨LX, hLX⟩ : ∃ L, L = impl_MergeText.pr PX := ⟨_, rfl⟩
 obtain ⟨LY, hLY⟩ : ∃ L, L = impl_MergeText.pr PY := ⟨_, rfl⟩
 rw [← hLX] at HCX
 rw [← hLY] at HCY
 have HKX := Aside0.mk (show LX.length = PX.length from by rw [hLX]; exact List.length_map _)
 have HKY := Aside0.mk (show LY.length = PY.length from by rw [hLY]; exact List.length_map _)
 have HEX := Aside0.mk hLX
 have HEY := Aside0.mk hLY
 clear hLX hLY
 go_enter Tryd.func9, Tryd.ntmps9
 go_wp2_with (first
  | (go_at_call 28; (with_reducible refine (impl_Lines.calls a0 O _ (GOK.below HG.out (be HB.out)) HL0.out).mono ?_); rintro e w1 ⟨v, rfl, hR, hb⟩; obtain ⟨A0, k0, rfl, hc0, hC0⟩ := Kd.R_reads hR; have HB_ := Aside0.mk (below_step (be HB.out) hb); have HA0 := Aside0.mk hC0; have HC0 := Aside0.mk hc0; clear HB hR hb hC0 hc0; have HB := HB_; clear HB_)
  | (go_at_call 28; (with_reducible refine (impl_Lines.calls a1 X _ (GOK.below HG.out (be HB.out)) HL1.out).mono ?_); rintro e w2 ⟨v, rfl, hR, hb⟩; obtain ⟨A1, k1, rfl, hc1, hC1⟩ := Kd.R_reads hR; have HB_ := Aside0.mk (below_step (be HB.out) hb); have HA0_ := Aside0.mk (Kd.C_below HA0.out hb); have HA1 := Aside0.mk hC1; have HC1 := Aside0.mk hc1; clear HB hR hb hC1 hc1 HA0; have HB := HB_; have HA0 := HA0_; clear HB_ HA0_)
  | (go_at_call 28; (with_reducible refine (impl_Lines.calls a2 Y _ (GOK.below HG.out (be HB.out)) HL2.out).mono ?_); rintro e w3 ⟨v, rfl, hR, hb⟩; obtain ⟨A2, k2, rfl, hc2, hC2⟩ := Kd.R_reads hR; have HB_ := Aside0.mk (below_step (be HB.out) hb); have HX := Aside0.mk (show impl_MergeText.At w3 A0 A1 A2 O X Y w3 from ⟨Below.refl _ _, Kd.C_below HA0.out hb, Kd.C_below HA1.out hb, hC2⟩); have HC2 := Aside0.mk hc2; clear HB hR hb hC2 hc2 HA0 HA1; have HB := HB_; clear HB_)
  | ((with_reducible refine gd 48 rfl ?_); go_loud (refine wpList_make_I _ rfl _ rfl ?_); intro bm w4 hg hM hb; have HM := Aside0.mk hM; have HX_ := Aside0.mk (HX.out.go hb); have GM := Aside0.mk (show w3.heap.size ≤ bm from by rw [hg]; exact HX.out.b.size); clear hg hM hb HX; have HX := HX_; clear HX_)
  | ((with_reducible refine gd 49 rfl ?_); go_loud (refine wpList_make_I _ rfl _ rfl ?_); intro bn w5 hg hM hb; have HN := Aside0.mk hM; have HM_ := Aside0.mk (IMapAt.over HM.out hb rfl); have NMN := Aside0.mk (show bm ≠ bn from by have := HM.out.lt; omega); have HX_ := Aside0.mk (HX.out.go hb); have GN := Aside0.mk (show w3.heap.size ≤ bn from by rw [hg]; exact HX.out.b.size); clear hg hM hb HX HM; have HX := HX_; have HM := HM_; clear HX_ HM_)
  | (go_at_call 29; go_loud ((with_reducible refine (impl_Common.calls A0 k0 O A1 k1 X _ _ HX.out.c0 HC0.out HX.out.c1 HC1.out HCX.out).mono ?_); rintro e w6 ⟨v, rfl, hR, hb⟩; obtain ⟨AP, cp, rfl⟩ := Kd.R_slice hR; have hml := HM.out.lt; have hnl := HN.out.lt; have HR := Aside0.mk (Kd.R_mono (Kd.R_bound hR) (ok' := fun k => k ≠ bm) (fun k hk => by have h1 := hk.2.1; (try simp at h1); omega)); have HX_ := Aside0.mk (HX.out.go hb); have HM_ := Aside0.mk (IMapAt.over HM.out hb rfl); have HN_ := Aside0.mk (IMapAt.over HN.out hb rfl); clear hR hb HX HM HN hml hnl; have HX := HX_; have HM := HM_; have HN := HN_; clear HX_ HM_ HN_)))
 go_loopg [54] (PX.length) (fun kq v_ w' => ∃ (i : Nat), v_ = .int .i64 (i : Int) ∧ Aside0 (kq + i = PX.length) ∧ Aside0 (IMapAt w' bm (impl_MergeText.ip (PX.take i))) ∧ Aside0 (IMapAt w' bn []) ∧ Aside0 (FrameBut w6 bm w') ∧ Aside0 (impl_MergeText.At w3 A0 A1 A2 O X Y w'))
 case atStart => exact ⟨0, rfl, ⟨by omega⟩, ⟨by rw [List.take_zero]; exact HM.out⟩, HN, ⟨FrameBut.refl _ _⟩, HX⟩
 case round =>
 clear HM HN HX
 obtain ⟨i, rfl, HK, HM, HN, HF, HX⟩ := hrel
 have hik := HK.out
 by_cases hi : i < PX.length
 ·have c1 : decide ((i : Int) < (LX.length : Int)) = true := decide_eq_true (by have := HKX.out; omega)
  have c2 : decide (0 ≤ (i : Int)) = true := decide_eq_true (by have := HKX.out; omega)
  have c4 : i < LX.length := by have := HKX.out; omega
  have c3 : decide (i < LX.length) = true := decide_eq_true c4
  obtain ⟨ad, e1, hx0⟩ := at_T63 (impl_MergeText.rowAt HR.out HF.out) (i : Int) (by omega) (by have := HKX.out; omega)
  subst e1
  obtain ⟨hx1, hx2⟩ := hx0
  have er : rd_T63 LX (i : Int) = ⟨(PX[i].1 : Int), (PX[i].2 : Int)⟩ := by
   unfold rd_T63
   rw [HEX.out, Int.toNat_natCast, List.getD_eq_getElem?_getD, List.getElem?_eq_getElem (by rw [← HEX.out]; have := HKX.out; omega)]
   show (impl_MergeText.pr PX)[i]'_ = _
   unfold impl_MergeText.pr
   rw [List.getElem_map]
  rw [er, Int.toNat_natCast] at hx1 hx2
  dsimp only at hx1 hx2
  clear er
  have HPUT := Aside0.mk (impl_MergeText.ip_put HPX.out i hi)
  generalize (PX[i].1 : Int) = x at HPUT hx1
  generalize (PX[i].2 : Int) = y at HPUT hx2
  go_wp2_with (first
   | ((with_reducible refine gd 14 rfl ?_); refine bx 14 63 (#[.int .i64 0, .int .i64 0]) ?_; intro bb_ hg wa hbox hb; have NB := Aside0.mk (show bm ≠ bb_ ∧ bn ≠ bb_ from by have h1 := HM.out.lt; have h2 := HN.out.lt; exact ⟨by omega, by omega⟩); have GB := Aside0.mk (show w3.heap.size ≤ bb_ from by rw [hg]; exact HX.out.b.size); have GB6 := Aside0.mk (show w6.heap.size ≤ bb_ from by rw [hg]; exact HF.out.1); have HM_ := Aside0.mk (IMapAt.over HM.out hb rfl); have HN_ := Aside0.mk (IMapAt.over HN.out hb rfl); have HF_ := Aside0.mk (HF.out.below hb); have HX_ := Aside0.mk (HX.out.go hb); have BB := Aside0.mk hbox; clear hbox hb hg HM HN HF HX; have HM := HM_; have HN := HN_; have HF := HF_; have HX := HX_; clear HM_ HN_ HF_ HX_; have ⟨hc0, hc1, he0, he1⟩ := Yc2 BB.out)
   | (have g_ := BB; clear g_; (with_reducible refine gate_store (t := 63) rfl ?_); go_loud (refine store_event (w1 := (wa.setCell ⟨bb_, 0, none⟩ (.int .i64 x)).setCell ⟨bb_, 1, none⟩ (.int .i64 y)) ?hg rfl ?hd ?hr ?_; (case hg => rfl); (case hd => rfl); (case hr => first | (go_simp; done) | (go_simp; rfl)); intro w8 hw; have S9 := set2 BB.out hw; clear hw hc0 hc1 he0 he1; have HM_ := Aside0.mk (HM.out.kept S9.2.1 (ne_some NB.out.1)); have HN_ := Aside0.mk (HN.out.kept S9.2.1 (ne_some NB.out.2)); have HF_ := Aside0.mk (HF.out.grown S9.2.1 (fun k hk => .inl (by cases hk; exact GB6.out))); have HX_ := Aside0.mk (HX.out.own S9.2.1 GB.out); have BB_ := Aside0.mk S9.1; clear S9 HM HN HF HX BB; have HM := HM_; have HN := HN_; have HF := HF_; have HX := HX_; have BC := BB_; clear HM_ HN_ HF_ HX_ BB_; have ⟨hc0, hc1, he0, he1⟩ := Yc2 BC.out))
   | (at_mapUpdate; go_loud (refine wpList_store_I _ rfl _ _ _ 61 rfl 3 3 Tryd.underlying61 Tryd.underlying3 bm _ rfl HM.out x rfl y rfl ?_; intro w9 hM hg hs; have HM_ := Aside0.mk (show IMapAt w9 bm (impl_MergeText.ip (PX.take (i + 1))) from by rw [← HPUT.out]; exact hM); have HN_ := Aside0.mk (HN.out.kept hg (ne_some (Ne.symm NMN.out))); have HF_ := Aside0.mk (HF.out.grown hg (fun k hk => .inr (by cases hk; rfl))); have HX_ := Aside0.mk (HX.out.own hg GM.out); clear hM hg hs HM HN HF HX; have HM := HM_; have HN := HN_; have HF := HF_; have HX := HX_; clear HM_ HN_ HF_ HX_)))
  go_roundg (gk - 1)
  case measure => omega
  case rel => exact ⟨i + 1, by rw [show wrap64 ((i : Int) + 1) = ((i + 1 : Nat) : Int) from by have := HLX.out; unfold wrap64; omega], ⟨by omega⟩, HM, HN, HF, HX⟩
 have c1 : decide ((i : Int) < (LX.length : Int)) = false := decide_eq_false (by have := HKX.out; omega)
 have c4 : ¬ i < LX.length := by have := HKX.out; omega
 have c3 : decide (i < LX.length) = false := decide_eq_false c4
 have HM_ := Aside0.mk (show IMapAt wr bm (impl_MergeText.ip PX) from by have := HM.out; rwa [List.take_of_length_le (by omega)] at this)
 clear HM
 have HM := HM_
 clear HM_ HF HK hi hik
 go_wp2_with (first
  | (go_at_call 29; (with_reducible refine (impl_Common.calls A0 k0 O A2 k2 Y _ _ HX.out.c0 HC0.out HX.out.c2 HC2.out HCY.out).mono ?_); rintro e w10 ⟨v, rfl, hR, hb⟩; obtain ⟨AQ, cq, rfl⟩ := Kd.R_slice hR; have hml := HM.out.lt; have hnl := HN.out.lt; have HR2 := Aside0.mk (Kd.R_mono (Kd.R_bound hR) (ok' := fun k => k ≠ bn) (fun k hk => by have h1 := hk.2.1; (try simp at h1); omega)); have HX_ := Aside0.mk (HX.out.go hb); have HM_ := Aside0.mk (IMapAt.over HM.out hb rfl); have HN_ := Aside0.mk (IMapAt.over HN.out hb rfl); clear hR hb HX HM HN hml hnl c1 c3 c4; have HX := HX_; have HM := HM_; have HN := HN_; clear HX_ HM_ HN_))
 go_loopg [68] (PY.length) (fun kq v_ w' => ∃ (i : Nat), v_ = .int .i64 (i : Int) ∧ Aside0 (kq + i = PY.length) ∧ Aside0 (IMapAt w' bn (impl_MergeText.ip (PY.take i))) ∧ Aside0 (IMapAt w' bm (impl_MergeText.ip PX)) ∧ Aside0 (FrameBut w10 bn w') ∧ Aside0 (impl_MergeText.At w3 A0 A1 A2 O X Y w'))
 case atStart => exact ⟨0, rfl, ⟨by omega⟩, ⟨by rw [List.take_zero]; exact HN.out⟩, HM, ⟨FrameBut.refl _ _⟩, HX⟩
 case round =>
 clear HM HN HX
 obtain ⟨i, rfl, HK, HN, HM, HF, HX⟩ := hrel
 have hik := HK.out
 by_cases hi : i < PY.length
 ·have c1 : decide ((i : Int) < (LY.length : Int)) = true := decide_eq_true (by have := HKY.out; omega)
  have c2 : decide (0 ≤ (i : Int)) = true := decide_eq_true (by have := HKY.out; omega)
  have c4 : i < LY.length := by have := HKY.out; omega
  have c3 : decide (i < LY.length) = true := decide_eq_true c4
  obtain ⟨ad, e1, hx0⟩ := at_T63 (impl_MergeText.rowAt HR2.out HF.out) (i : Int) (by omega) (by have := HKY.out; omega)
  subst e1
  obtain ⟨hx1, hx2⟩ := hx0
  have er : rd_T63 LY (i : Int) = ⟨(PY[i].1 : Int), (PY[i].2 : Int)⟩ := by
   unfold rd_T63
   rw [HEY.out, Int.toNat_natCast, List.getD_eq_getElem?_getD, List.getElem?_eq_getElem (by rw [← HEY.out]; have := HKY.out; omega)]
   show (impl_MergeText.pr PY)[i]'_ = _
   unfold impl_MergeText.pr
   rw [List.getElem_map]
  rw [er, Int.toNat_natCast] at hx1 hx2
  dsimp only at hx1 hx2
  clear er
  have HPUT := Aside0.mk (impl_MergeText.ip_put HPY.out i hi)
  generalize (PY[i].1 : Int) = x at HPUT hx1
  generalize (PY[i].2 : Int) = y at HPUT hx2
  go_wp2_with (first
   | ((with_reducible refine gd 16 rfl ?_); refine bx 16 63 (#[.int .i64 0, .int .i64 0]) ?_; intro bb_ hg wa hbox hb; have NB := Aside0.mk (show bm ≠ bb_ ∧ bn ≠ bb_ from by have h1 := HM.out.lt; have h2 := HN.out.lt; exact ⟨by omega, by omega⟩); have GB := Aside0.mk (show w3.heap.size ≤ bb_ from by rw [hg]; exact HX.out.b.size); have GB6 := Aside0.mk (show w10.heap.size ≤ bb_ from by rw [hg]; exact HF.out.1); have HM_ := Aside0.mk (IMapAt.over HM.out hb rfl); have HN_ := Aside0.mk (IMapAt.over HN.out hb rfl); have HF_ := Aside0.mk (HF.out.below hb); have HX_ := Aside0.mk (HX.out.go hb); have BB := Aside0.mk hbox; clear hbox hb hg HM HN HF HX; have HM := HM_; have HN := HN_; have HF := HF_; have HX := HX_; clear HM_ HN_ HF_ HX_; have ⟨hc0, hc1, he0, he1⟩ := Yc2 BB.out)
   | (have g_ := BB; clear g_; (with_reducible refine gate_store (t := 63) rfl ?_); go_loud (refine store_event (w1 := (wa.setCell ⟨bb_, 0, none⟩ (.int .i64 x)).setCell ⟨bb_, 1, none⟩ (.int .i64 y)) ?hg rfl ?hd ?hr ?_; (case hg => rfl); (case hd => rfl); (case hr => first | (go_simp; done) | (go_simp; rfl)); intro w8 hw; have S9 := set2 BB.out hw; clear hw hc0 hc1 he0 he1; have HM_ := Aside0.mk (HM.out.kept S9.2.1 (ne_some NB.out.1)); have HN_ := Aside0.mk (HN.out.kept S9.2.1 (ne_some NB.out.2)); have HF_ := Aside0.mk (HF.out.grown S9.2.1 (fun k hk => .inl (by cases hk; exact GB6.out))); have HX_ := Aside0.mk (HX.out.own S9.2.1 GB.out); have BB_ := Aside0.mk S9.1; clear S9 HM HN HF HX BB; have HM := HM_; have HN := HN_; have HF := HF_; have HX := HX_; have BC := BB_; clear HM_ HN_ HF_ HX_ BB_; have ⟨hc0, hc1, he0, he1⟩ := Yc2 BC.out))
   | (at_mapUpdate; go_loud (refine wpList_store_I _ rfl _ _ _ 61 rfl 3 3 Tryd.underlying61 Tryd.underlying3 bn _ rfl HN.out x rfl y rfl ?_; intro w9 hM hg hs; have HM_ := Aside0.mk (show IMapAt w9 bn (impl_MergeText.ip (PY.take (i + 1))) from by rw [← HPUT.out]; exact hM); have HN_ := Aside0.mk (HM.out.kept hg (ne_some NMN.out)); have HF_ := Aside0.mk (HF.out.grown hg (fun k hk => .inr (by cases hk; rfl))); have HX_ := Aside0.mk (HX.out.own hg GN.out); clear hM hg hs HM HN HF HX; have HN := HM_; have HM := HN_; have HF := HF_; have HX := HX_; clear HM_ HN_ HF_ HX_)))
  go_roundg (gk - 1)
  case measure => omega
  case rel => exact ⟨i + 1, by rw [show wrap64 ((i : Int) + 1) = ((i + 1 : Nat) : Int) from by have := HLY.out; unfold wrap64; omega], ⟨by omega⟩, HN, HM, HF, HX⟩
 have c1 : decide ((i : Int) < (LY.length : Int)) = false := decide_eq_false (by have := HKY.out; omega)
 have c4 : ¬ i < LY.length := by have := HKY.out; omega
 have c3 : decide (i < LY.length) = false := decide_eq_false c4
 have HM_ := Aside0.mk (show IMapAt wr bn (impl_MergeText.ip PY) from by have := HN.out; rwa [List.take_of_length_le (by omega)] at this)
 clear HN
 have HN := HM_
 clear HM_ HF HK hi hik
 obtain ⟨w5, rfl⟩ : ∃ u, u = wr := ⟨wr, rfl⟩
 have HW := Aside0.mk (below_step HB.out HX.out.b)
 clear HB
 go_wp2_with fail
 clear c1 c3 c4
 go_loopg [17, 18, 19, 20, 21] (O.length + 1) (fun kq s17 s18 s19 s20 s21 w' => ∃ (n i j k : Nat) (out : ByteArray), s17 = .string out ∧ s18 = .int .i64 (i : Int) ∧ s19 = .int .i64 (j : Int) ∧ s20 = .int .i64 (k : Int) ∧ s21 = .int .i64 (n : Int) ∧ Aside0 (kq + n = O.length + 1) ∧ Aside0 (impl_MergeText.out (mgo O X Y (withP PX) (withP PY) kq n i j k out) = (r1, r2)) ∧ Aside0 (i ≤ n) ∧ Aside0 (n ≤ O.length → Low (withP PX) n j ∧ j ≤ X.length) ∧ Aside0 (n ≤ O.length → Low (withP PY) n k ∧ k ≤ Y.length) ∧ Aside0 (out.size ≤ n * 3000) ∧ Aside0 (Below w5.heap.size w5 w'))
 case atStart => exact ⟨0, 0, 0, 0, ⟨#[]⟩, rfl, rfl, rfl, rfl, rfl, ⟨by omega⟩, ⟨HT.out⟩, ⟨Nat.le_refl _⟩, ⟨fun _ => ⟨fun _ _ _ _ => Nat.zero_le _, Nat.zero_le _⟩⟩, ⟨fun _ => ⟨fun _ _ _ _ => Nat.zero_le _, Nat.zero_le _⟩⟩, ⟨Nat.zero_le _⟩, ⟨Below.refl _ _⟩⟩
 case round =>
 clear HT
 obtain ⟨n, i, j, k, out, rfl, rfl, rfl, rfl, rfl, HK, HT, HI, HJ, HKK, HZO, HB5⟩ := hrel
 cases gk with
 | zero =>
  have hk := HK.out
  have c1 : decide ((n : Int) ≤ (O.length : Int)) = false := decide_eq_false (by omega)
  have c2 : decide (n ≤ O.length) = false := decide_eq_false (by omega)
  have ht := HT.out
  rw [mgo] at ht
  obtain ⟨rfl, rfl⟩ := Prod.mk.inj ht
  clear ht hk
  go_wp2
  go_ret2
  exact ⟨rfl, below_step HW.out HB5.out⟩
 | succ d =>
  have hk := HK.out
  have hn0 : n ≤ O.length := by omega
  have c1 : decide ((n : Int) ≤ (O.length : Int)) = true := decide_eq_true (by omega)
  have c2 : decide (n ≤ O.length) = true := decide_eq_true hn0
  go_upto_if 91 with fail
  go_cut [22, 23] (fun s22 s23 wx => ∃ x y : Nat, s22 = .int .i64 (x : Int) ∧ s23 = .int .i64 (y : Int) ∧ Aside0 (j ≤ x ∧ x ≤ X.length ∧ k ≤ y ∧ y ≤ Y.length) ∧ Aside0 (n < O.length → withP PX n = some x ∧ withP PY n = some y) ∧ Aside0 (n = O.length → x = X.length ∧ y = Y.length) ∧ Aside0 (Below w5.heap.size w5 wx))
  case first =>
   by_cases hn : n < O.length
   ·have c5 : decide ((n : Int) < (O.length : Int)) = true := decide_eq_true (by omega)
    have c6 : decide (n < O.length) = true := decide_eq_true hn
    have IM := Aside0.mk (IMapAt.over HM.out HB5.out rfl)
    have IN := Aside0.mk (IMapAt.over HN.out HB5.out rfl)
    obtain ⟨a1_, a2_⟩ := impl_MergeText.ip_has PX n
    obtain ⟨b1_, b2_⟩ := impl_MergeText.ip_has PY n
    cases hf : withP PX n with
    | none =>
     rw [hf] at a1_ a2_
     have HT2 := Aside0.mk (HT.out)
     rw [impl_MergeText.skip hn (.inl hf)] at HT2
     obtain ⟨gy, hgy⟩ : ∃ gy, ((withP PY n).getD 0 : Nat) = gy := ⟨_, rfl⟩
     obtain ⟨ok, hok⟩ : ∃ ok, (withP PY n).isSome = ok := ⟨_, rfl⟩
     rw [hok] at b1_
     rw [hgy] at b2_
     have A1 := Aside0.mk a1_; have A2 := Aside0.mk a2_; have B1 := Aside0.mk b1_; have B2 := Aside0.mk b2_
     have HF := Aside0.mk hf
     clear a1_ a2_ b1_ b2_ hgy hok hf HT
     cases ok
     all_goals
      go_wp2_with (first | (at_lookup; refine wpList_look_ok_I _ rfl _ _ 61 rfl 3 3 Tryd.underlying61 Tryd.underlying3 (int_zero _) bm (impl_MergeText.ip PX) rfl IM.out (n : Int) rfl _ A2.out _ A1.out ?_) | (at_lookup; refine wpList_look_ok_I _ rfl _ _ 61 rfl 3 3 Tryd.underlying61 Tryd.underlying3 (int_zero _) bn (impl_MergeText.ip PY) rfl IN.out (n : Int) rfl _ B2.out _ B1.out ?_))
      go_roundg d
      case measure => omega
      case rel => exact ⟨n + 1, i, j, k, out, rfl, rfl, rfl, rfl, by rw [show wrap64 ((n : Int) + 1) = ((n + 1 : Nat) : Int) from by have := HN0.out; unfold wrap64; omega], ⟨by omega⟩, HT2, ⟨by have := HI.out; omega⟩, ⟨fun h => ⟨(HJ.out hn0).1.skip, (HJ.out hn0).2⟩⟩, ⟨fun h => ⟨(HKK.out hn0).1.skip, (HKK.out hn0).2⟩⟩, ⟨by have := HZO.out; omega⟩, HB5⟩
    | some x =>
     cases hg : withP PY n with
     | none =>
      rw [hf] at a1_ a2_
      rw [hg] at b1_ b2_
      have HT2 := Aside0.mk (HT.out)
      rw [impl_MergeText.skip hn (.inr hg)] at HT2
      have A1 := Aside0.mk a1_; have A2 := Aside0.mk a2_; have B1 := Aside0.mk b1_; have B2 := Aside0.mk b2_
      clear a1_ a2_ b1_ b2_ hf hg HT
      go_wp2_with (first | (at_lookup; refine wpList_look_ok_I _ rfl _ _ 61 rfl 3 3 Tryd.underlying61 Tryd.underlying3 (int_zero _) bm (impl_MergeText.ip PX) rfl IM.out (n : Int) rfl _ A2.out _ A1.out ?_) | (at_lookup; refine wpList_look_ok_I _ rfl _ _ 61 rfl 3 3 Tryd.underlying61 Tryd.underlying3 (int_zero _) bn (impl_MergeText.ip PY) rfl IN.out (n : Int) rfl _ B2.out _ B1.out ?_))
      go_roundg d
      case measure => omega
      case rel => exact ⟨n + 1, i, j, k, out, rfl, rfl, rfl, rfl, by rw [show wrap64 ((n : Int) + 1) = ((n + 1 : Nat) : Int) from by have := HN0.out; unfold wrap64; omega], ⟨by omega⟩, HT2, ⟨by have := HI.out; omega⟩, ⟨fun h => ⟨(HJ.out hn0).1.skip, (HJ.out hn0).2⟩⟩, ⟨fun h => ⟨(HKK.out hn0).1.skip, (HKK.out hn0).2⟩⟩, ⟨by have := HZO.out; omega⟩, HB5⟩
     | some y =>
      rw [hf] at a1_ a2_
      rw [hg] at b1_ b2_
      have A1 := Aside0.mk a1_; have A2 := Aside0.mk a2_; have B1 := Aside0.mk b1_; have B2 := Aside0.mk b2_
      have HF := Aside0.mk hf; have HGG := Aside0.mk hg
      clear a1_ a2_ b1_ b2_ hf hg
      go_wp2_with (first | (at_lookup; refine wpList_look_ok_I _ rfl _ _ 61 rfl 3 3 Tryd.underlying61 Tryd.underlying3 (int_zero _) bm (impl_MergeText.ip PX) rfl IM.out (n : Int) rfl _ A2.out _ A1.out ?_) | (at_lookup; refine wpList_look_ok_I _ rfl _ _ 61 rfl 3 3 Tryd.underlying61 Tryd.underlying3 (int_zero _) bn (impl_MergeText.ip PY) rfl IN.out (n : Int) rfl _ B2.out _ B1.out ?_))
      go_meet
      case rel => exact ⟨x, y, rfl, rfl, ⟨(HJ.out hn0).1 n x (Nat.le_refl _) HF.out, Nat.le_of_lt (HQX.out.lt n x HF.out hn).1, (HKK.out hn0).1 n y (Nat.le_refl _) HGG.out, Nat.le_of_lt (HQY.out.lt n y HGG.out hn).1⟩, ⟨fun _ => ⟨HF.out, HGG.out⟩⟩, ⟨fun h => absurd h (by omega)⟩, HB5⟩
   ·have c5 : decide ((n : Int) < (O.length : Int)) = false := decide_eq_false (by omega)
    have c6 : decide (n < O.length) = false := decide_eq_false hn
    go_wp2_with fail
    go_meet
    case rel => exact ⟨X.length, Y.length, rfl, rfl, ⟨(HJ.out hn0).2, Nat.le_refl _, (HKK.out hn0).2, Nat.le_refl _⟩, ⟨fun h => absurd h hn⟩, ⟨fun _ => ⟨rfl, rfl⟩⟩, HB5⟩
  case rest =>
  clear HB5
  obtain ⟨x, y, rfl, rfl, HXY, HS1, HS2, HB5⟩ := hcut
  obtain ⟨AO, cO, hcO, hRO, kO⟩ := impl_MergeText.cut (Kd.C_below HX.out.c0 HB5.out) HI.out hn0 HC0.out
  obtain ⟨AX, cX, hcX, hRX, kX⟩ := impl_MergeText.cut (Kd.C_below HX.out.c1 HB5.out) HXY.out.1 HXY.out.2.1 HC1.out
  obtain ⟨AY, cY, hcY, hRY, kY⟩ := impl_MergeText.cut (Kd.C_below HX.out.c2 HB5.out) HXY.out.2.2.1 HXY.out.2.2.2 HC2.out
  have RO := Aside0.mk hRO; have RX := Aside0.mk hRX; have RY := Aside0.mk hRY
  have QO := Aside0.mk hcO; have QX := Aside0.mk hcX; have QY := Aside0.mk hcY
  have JO := Aside0.mk (impl_MergeText.join_now (sl O i n) (by rw [impl_MergeText.sl_len O HI.out hn0]; have := HN0.out; omega) (Nat.le_trans (impl_MergeText.cat_sl O i n) HZ0.out))
  have JX := Aside0.mk (impl_MergeText.join_now (sl X j x) (by rw [impl_MergeText.sl_len X HXY.out.1 HXY.out.2.1]; have := HN1.out; have := HXY.out; omega) (Nat.le_trans (impl_MergeText.cat_sl X j x) HZ1.out))
  have JY := Aside0.mk (impl_MergeText.join_now (sl Y k y) (by rw [impl_MergeText.sl_len Y HXY.out.2.2.1 HXY.out.2.2.2]; have := HN2.out; have := HXY.out; omega) (Nat.le_trans (impl_MergeText.cat_sl Y k y) HZ2.out))
  clear hRO hRX hRY hcO hcX hcY
  go_upto_region 26 with fail
  go_cut [26, 27, 28] (fun s26 s27 s28 wx => s26 = .string (cat (sl O i n)) ∧ s27 = .string (cat (sl X j x)) ∧ s28 = .string (cat (sl Y k y)) ∧ Aside0 (Below wc.heap.size wc wx))
  case first =>
   have HJB := Aside0.mk (Below.refl wc.heap.size wc)
   go_region_held3 (fun w' => True) (exact trivial) (first
    | (go_at_call 30; (with_reducible refine (strings_Join.calls AO cO (sl O i n) ⟨#[]⟩ (cat (sl O i n)) _ (Kd.C_below RO.out (be HJB.out)) QO.out JO.out).mono ?_); rintro e wj ⟨rfl, hb⟩; have HJB_ := Aside0.mk (below_step (be HJB.out) hb); clear HJB hb; have HJB := HJB_; clear HJB_)
    | (go_at_call 30; (with_reducible refine (strings_Join.calls AX cX (sl X j x) ⟨#[]⟩ (cat (sl X j x)) _ (Kd.C_below RX.out (be HJB.out)) QX.out JX.out).mono ?_); rintro e wj ⟨rfl, hb⟩; have HJB_ := Aside0.mk (below_step (be HJB.out) hb); clear HJB hb; have HJB := HJB_; clear HJB_)
    | (go_at_call 30; (with_reducible refine (strings_Join.calls AY cY (sl Y k y) ⟨#[]⟩ (cat (sl Y k y)) _ (Kd.C_below RY.out (be HJB.out)) QY.out JY.out).mono ?_); rintro e wj ⟨rfl, hb⟩; have HJB_ := Aside0.mk (below_step (be HJB.out) hb); clear HJB hb; have HJB := HJB_; clear HJB_))
   all_goals (go_wp2_with fail; go_meet)
   all_goals (case rel => exact ⟨rfl, rfl, rfl, ⟨be HJB.out⟩⟩)
  case rest =>
  obtain ⟨rfl, rfl, rfl, HB6⟩ := hcut
  have HB7 := Aside0.mk (below_step HB5.out HB6.out)
  have RO_ := Aside0.mk (Kd.C_below RO.out HB6.out)
  have RX_ := Aside0.mk (Kd.C_below RX.out HB6.out)
  have RY_ := Aside0.mk (Kd.C_below RY.out HB6.out)
  clear RO RX RY HB5 HB6 JO JX JY
  have RO := RO_; have RX := RX_; have RY := RY_
  clear RO_ RX_ RY_
  have HT1 := HT.out
  rw [impl_MergeText.step HW0.out HW1.out HW2.out hn0 HS1.out HS2.out] at HT1
  clear HT
  have hx_ := HXY.out
  have hN0_ := HN0.out
  have hN1_ := HN1.out
  have hN2_ := HN2.out
  have W1 := Aside0.mk (show wrap64 ((n : Int) + 1) = ((n + 1 : Nat) : Int) from by unfold wrap64; omega)
  have W2 := Aside0.mk (show wrap64 ((x : Int) + 1) = ((x + 1 : Nat) : Int) from by unfold wrap64; omega)
  have W3 := Aside0.mk (show wrap64 ((y : Int) + 1) = ((y + 1 : Nat) : Int) from by unfold wrap64; omega)
  clear hx_ hN1_ hN2_
  by_cases q1 : sl O i n = sl X j x
  ·have E1 := Aside0.mk (impl_MergeText.eqv (c := cO) (c' := cX) RO.out RX.out (decide_eq_true q1))
   rw [threeL, if_pos q1, Option.bind_some] at HT1
   clear q1
   have z1 : out.size + (cat (sl Y k y)).size ≤ 9223372036854775807 := by have h1 := HZO.out; have h2 := (Nat.le_trans (impl_MergeText.cat_sl Y k y) HZ2.out); omega
   have z1a := eq_true z1
   have z1b : decide (out.size + (cat (sl Y k y)).size ≤ 9223372036854775807) = true := decide_eq_true z1
   have z1c : (9223372036854775807 < out.size + (cat (sl Y k y)).size) = False := eq_false (Nat.not_lt.2 z1)
   clear z1
   by_cases hn : n < O.length
   ·have c5 : decide ((n : Int) < (O.length : Int)) = true := decide_eq_true (by omega)
    have c6 : decide (n < O.length) = true := decide_eq_true hn
    have c7 : decide (0 ≤ (n : Int)) = true := decide_eq_true (by omega)
    have z2 : out.size + (cat (sl Y k y)).size + (O[n]).size ≤ 9223372036854775807 := by have h1 := HZO.out; have h2 := (Nat.le_trans (impl_MergeText.cat_sl Y k y) HZ2.out); have h3 := impl_MergeText.elem O n hn; have h4 := HZ0.out; omega
    have z3 : (out ++ cat (sl Y k y)).size + (O[n]).size ≤ 9223372036854775807 := by rw [ByteArray.size_append]; exact z2
    have z2a := eq_true z2
    have z2b := decide_eq_true z2
    have z2c : (9223372036854775807 < out.size + (cat (sl Y k y)).size + (O[n]).size) = False := eq_false (Nat.not_lt.2 z2)
    have z3a := eq_true z3
    have z3b := decide_eq_true z3
    have z3c : (9223372036854775807 < (out ++ cat (sl Y k y)).size + (O[n]).size) = False := eq_false (Nat.not_lt.2 z3)
    clear z2 z3
    obtain ⟨ad, e1_, hx1⟩ := Kd.at_string (Kd.C_below HX.out.c0 HB7.out) (n : Int) (by omega) (by omega)
    cases e1_
    rw [rd_of hn, Int.toNat_natCast] at hx1
    have HOUT := Aside0.mk (show (out ++ cat (sl Y k y) ++ O[n]).size ≤ (n + 1) * 3000 from by rw [ByteArray.size_append, ByteArray.size_append]; have h1 := HZO.out; have h2 := (Nat.le_trans (impl_MergeText.cat_sl Y k y) HZ2.out); have h3 := impl_MergeText.elem O n hn; have h4 := HZ0.out; omega)
    have HT2 := Aside0.mk (show impl_MergeText.out (mgo O X Y (withP PX) (withP PY) d (n + 1) (n + 1) (x + 1) (y + 1) (out ++ cat (sl Y k y) ++ O[n])) = (r1, r2) from by have := HT1; rw [dif_pos hn] at this; exact this)
    have HLOW := Aside0.mk (show Low (withP PX) (n + 1) (x + 1) ∧ Low (withP PY) (n + 1) (y + 1) ∧ x + 1 ≤ X.length ∧ y + 1 ≤ Y.length from by
     obtain ⟨f1, f2⟩ := HS1.out hn
     exact ⟨Low.next HQX.out f1, Low.next HQY.out f2, (HQX.out.lt n x f1 hn).1, (HQY.out.lt n y f2 hn).1⟩)
    clear HT1
    generalize hOn : O[n] = On at hx1 HOUT HT2 z2a z2b z2c z3a z3b z3c
    have HOn := Aside0.mk hOn
    clear hOn
    go_wp2_with fail
    go_quiet ((go_at_call 31; with_reducible exact E1.out _))
    go_wp2_with fail
    go_wp2
    go_roundg d
    case measure => omega
    case rel => exact ⟨n + 1, n + 1, x + 1, y + 1, _, rfl, by first | rw [W1.out] | exact congrArg (Value.int .i64) (by omega), by first | rw [W2.out] | exact congrArg (Value.int .i64) (by omega), by first | rw [W3.out] | exact congrArg (Value.int .i64) (by omega), by first | rw [W1.out] | exact congrArg (Value.int .i64) (by omega), ⟨by omega⟩, HT2, ⟨Nat.le_refl _⟩, ⟨fun _ => ⟨HLOW.out.1, HLOW.out.2.2.1⟩⟩, ⟨fun _ => ⟨HLOW.out.2.1, HLOW.out.2.2.2⟩⟩, HOUT, ⟨by first | exact be HB8.out | exact be HB7.out⟩⟩
   ·have c5 : decide ((n : Int) < (O.length : Int)) = false := decide_eq_false (by omega)
    have c6 : decide (n < O.length) = false := decide_eq_false hn
    have HOUT := Aside0.mk (show (out ++ cat (sl Y k y)).size ≤ (n + 1) * 3000 from by rw [ByteArray.size_append]; have h1 := HZO.out; have h2 := (Nat.le_trans (impl_MergeText.cat_sl Y k y) HZ2.out); omega)
    have HT2 := Aside0.mk (show impl_MergeText.out (mgo O X Y (withP PX) (withP PY) d (n + 1) (n + 1) (x + 1) (y + 1) (out ++ cat (sl Y k y))) = (r1, r2) from by have := HT1; rw [dif_neg hn] at this; exact this)
    clear HT1
    go_wp2_with fail
    go_quiet ((go_at_call 31; with_reducible exact E1.out _))
    go_wp2_with fail
    go_wp2
    go_roundg d
    case measure => omega
    case rel => exact ⟨n + 1, n + 1, x + 1, y + 1, _, rfl, by first | rw [W1.out] | exact congrArg (Value.int .i64) (by omega), by first | rw [W2.out] | exact congrArg (Value.int .i64) (by omega), by first | rw [W3.out] | exact congrArg (Value.int .i64) (by omega), by first | rw [W1.out] | exact congrArg (Value.int .i64) (by omega), ⟨by omega⟩, HT2, ⟨Nat.le_refl _⟩, ⟨fun h => absurd h (by omega)⟩, ⟨fun h => absurd h (by omega)⟩, HOUT, ⟨by first | exact be HB8.out | exact be HB7.out⟩⟩
  ·have E1 := Aside0.mk (impl_MergeText.eqv (c := cO) (c' := cX) RO.out RX.out (decide_eq_false q1))
   by_cases q2 : sl O i n = sl Y k y
   ·have T2 := Aside0.mk (decide_eq_true q2)
    rw [threeL, if_neg q1, if_pos (.inl q2), Option.bind_some] at HT1
    clear q1 q2
    have z1 : out.size + (cat (sl X j x)).size ≤ 9223372036854775807 := by have h1 := HZO.out; have h2 := (Nat.le_trans (impl_MergeText.cat_sl X j x) HZ1.out); omega
    have z1a := eq_true z1
    have z1b : decide (out.size + (cat (sl X j x)).size ≤ 9223372036854775807) = true := decide_eq_true z1
    have z1c : (9223372036854775807 < out.size + (cat (sl X j x)).size) = False := eq_false (Nat.not_lt.2 z1)
    clear z1
    by_cases hn : n < O.length
    ·have c5 : decide ((n : Int) < (O.length : Int)) = true := decide_eq_true (by omega)
     have c6 : decide (n < O.length) = true := decide_eq_true hn
     have c7 : decide (0 ≤ (n : Int)) = true := decide_eq_true (by omega)
     have z2 : out.size + (cat (sl X j x)).size + (O[n]).size ≤ 9223372036854775807 := by have h1 := HZO.out; have h2 := (Nat.le_trans (impl_MergeText.cat_sl X j x) HZ1.out); have h3 := impl_MergeText.elem O n hn; have h4 := HZ0.out; omega
     have z3 : (out ++ cat (sl X j x)).size + (O[n]).size ≤ 9223372036854775807 := by rw [ByteArray.size_append]; exact z2
     have z2a := eq_true z2
     have z2b := decide_eq_true z2
     have z2c : (9223372036854775807 < out.size + (cat (sl X j x)).size + (O[n]).size) = False := eq_false (Nat.not_lt.2 z2)
     have z3a := eq_true z3
     have z3b := decide_eq_true z3
     have z3c : (9223372036854775807 < (out ++ cat (sl X j x)).size + (O[n]).size) = False := eq_false (Nat.not_lt.2 z3)
     clear z2 z3
     obtain ⟨ad, e1_, hx1⟩ := Kd.at_string (Kd.C_below HX.out.c0 HB7.out) (n : Int) (by omega) (by omega)
     cases e1_
     rw [rd_of hn, Int.toNat_natCast] at hx1
     have HOUT := Aside0.mk (show (out ++ cat (sl X j x) ++ O[n]).size ≤ (n + 1) * 3000 from by rw [ByteArray.size_append, ByteArray.size_append]; have h1 := HZO.out; have h2 := (Nat.le_trans (impl_MergeText.cat_sl X j x) HZ1.out); have h3 := impl_MergeText.elem O n hn; have h4 := HZ0.out; omega)
     have HT2 := Aside0.mk (show impl_MergeText.out (mgo O X Y (withP PX) (withP PY) d (n + 1) (n + 1) (x + 1) (y + 1) (out ++ cat (sl X j x) ++ O[n])) = (r1, r2) from by have := HT1; rw [dif_pos hn] at this; exact this)
     have HLOW := Aside0.mk (show Low (withP PX) (n + 1) (x + 1) ∧ Low (withP PY) (n + 1) (y + 1) ∧ x + 1 ≤ X.length ∧ y + 1 ≤ Y.length from by
      obtain ⟨f1, f2⟩ := HS1.out hn
      exact ⟨Low.next HQX.out f1, Low.next HQY.out f2, (HQX.out.lt n x f1 hn).1, (HQY.out.lt n y f2 hn).1⟩)
     clear HT1
     generalize hOn : O[n] = On at hx1 HOUT HT2 z2a z2b z2c z3a z3b z3c
     have HOn := Aside0.mk hOn
     clear hOn
     go_wp2_with fail
     go_quiet ((go_at_call 31; with_reducible exact E1.out _))
     have RO2 := Aside0.mk (Kd.C_drewN RO.out nq)
     have RX2 := Aside0.mk (Kd.C_drewN RX.out nq)
     have RY2 := Aside0.mk (Kd.C_drewN RY.out nq)
     have HB8 := Aside0.mk (pw_below_drewN HB7.out nq)
     generalize wc.drewN nq = wd at RO2 RX2 RY2 HB8 ⊢
     obtain ⟨ad2, e2_, hx2⟩ := Kd.at_string (Kd.C_below HX.out.c0 HB8.out) (n : Int) (by omega) (by omega)
     cases e2_
     rw [rd_of hn, HOn.out, Int.toNat_natCast] at hx2
     clear hx1
     have E2 := Aside0.mk (impl_MergeText.eqv (c := cO) (c' := cY) RO2.out RY2.out T2.out)
     have E3 := E2
     go_wp2_with fail
     go_quiet (first | (go_at_call 31; with_reducible exact E2.out _) | (go_at_call 31; with_reducible exact E3.out _))
     go_wp2_with fail
     go_wp2
     go_roundg d
     case measure => omega
     case rel => exact ⟨n + 1, n + 1, x + 1, y + 1, _, rfl, by first | rw [W1.out] | exact congrArg (Value.int .i64) (by omega), by first | rw [W2.out] | exact congrArg (Value.int .i64) (by omega), by first | rw [W3.out] | exact congrArg (Value.int .i64) (by omega), by first | rw [W1.out] | exact congrArg (Value.int .i64) (by omega), ⟨by omega⟩, HT2, ⟨Nat.le_refl _⟩, ⟨fun _ => ⟨HLOW.out.1, HLOW.out.2.2.1⟩⟩, ⟨fun _ => ⟨HLOW.out.2.1, HLOW.out.2.2.2⟩⟩, HOUT, ⟨by first | exact be HB8.out | exact be HB7.out⟩⟩
    ·have c5 : decide ((n : Int) < (O.length : Int)) = false := decide_eq_false (by omega)
     have c6 : decide (n < O.length) = false := decide_eq_false hn
     have HOUT := Aside0.mk (show (out ++ cat (sl X j x)).size ≤ (n + 1) * 3000 from by rw [ByteArray.size_append]; have h1 := HZO.out; have h2 := (Nat.le_trans (impl_MergeText.cat_sl X j x) HZ1.out); omega)
     have HT2 := Aside0.mk (show impl_MergeText.out (mgo O X Y (withP PX) (withP PY) d (n + 1) (n + 1) (x + 1) (y + 1) (out ++ cat (sl X j x))) = (r1, r2) from by have := HT1; rw [dif_neg hn] at this; exact this)
     clear HT1
     go_wp2_with fail
     go_quiet ((go_at_call 31; with_reducible exact E1.out _))
     have RO2 := Aside0.mk (Kd.C_drewN RO.out nq)
     have RX2 := Aside0.mk (Kd.C_drewN RX.out nq)
     have RY2 := Aside0.mk (Kd.C_drewN RY.out nq)
     have HB8 := Aside0.mk (pw_below_drewN HB7.out nq)
     generalize wc.drewN nq = wd at RO2 RX2 RY2 HB8 ⊢
     have E2 := Aside0.mk (impl_MergeText.eqv (c := cO) (c' := cY) RO2.out RY2.out T2.out)
     have E3 := E2
     go_wp2_with fail
     go_quiet (first | (go_at_call 31; with_reducible exact E2.out _) | (go_at_call 31; with_reducible exact E3.out _))
     go_wp2_with fail
     go_wp2
     go_roundg d
     case measure => omega
     case rel => exact ⟨n + 1, n + 1, x + 1, y + 1, _, rfl, by first | rw [W1.out] | exact congrArg (Value.int .i64) (by omega), by first | rw [W2.out] | exact congrArg (Value.int .i64) (by omega), by first | rw [W3.out] | exact congrArg (Value.int .i64) (by omega), by first | rw [W1.out] | exact congrArg (Value.int .i64) (by omega), ⟨by omega⟩, HT2, ⟨Nat.le_refl _⟩, ⟨fun h => absurd h (by omega)⟩, ⟨fun h => absurd h (by omega)⟩, HOUT, ⟨by first | exact be HB8.out | exact be HB7.out⟩⟩
   ·have T2 := Aside0.mk (decide_eq_false q2)
    by_cases q3 : sl X j x = sl Y k y
    ·have T3 := Aside0.mk (decide_eq_true q3)
     rw [threeL, if_neg q1, if_pos (.inr q3), Option.bind_some] at HT1
     clear q1 q2 q3
     have z1 : out.size + (cat (sl X j x)).size ≤ 9223372036854775807 := by have h1 := HZO.out; have h2 := (Nat.le_trans (impl_MergeText.cat_sl X j x) HZ1.out); omega
     have z1a := eq_true z1
     have z1b : decide (out.size + (cat (sl X j x)).size ≤ 9223372036854775807) = true := decide_eq_true z1
     have z1c : (9223372036854775807 < out.size + (cat (sl X j x)).size) = False := eq_false (Nat.not_lt.2 z1)
     clear z1
     by_cases hn : n < O.length
     ·have c5 : decide ((n : Int) < (O.length : Int)) = true := decide_eq_true (by omega)
      have c6 : decide (n < O.length) = true := decide_eq_true hn
      have c7 : decide (0 ≤ (n : Int)) = true := decide_eq_true (by omega)
      have z2 : out.size + (cat (sl X j x)).size + (O[n]).size ≤ 9223372036854775807 := by have h1 := HZO.out; have h2 := (Nat.le_trans (impl_MergeText.cat_sl X j x) HZ1.out); have h3 := impl_MergeText.elem O n hn; have h4 := HZ0.out; omega
      have z3 : (out ++ cat (sl X j x)).size + (O[n]).size ≤ 9223372036854775807 := by rw [ByteArray.size_append]; exact z2
      have z2a := eq_true z2
      have z2b := decide_eq_true z2
      have z2c : (9223372036854775807 < out.size + (cat (sl X j x)).size + (O[n]).size) = False := eq_false (Nat.not_lt.2 z2)
      have z3a := eq_true z3
      have z3b := decide_eq_true z3
      have z3c : (9223372036854775807 < (out ++ cat (sl X j x)).size + (O[n]).size) = False := eq_false (Nat.not_lt.2 z3)
      clear z2 z3
      obtain ⟨ad, e1_, hx1⟩ := Kd.at_string (Kd.C_below HX.out.c0 HB7.out) (n : Int) (by omega) (by omega)
      cases e1_
      rw [rd_of hn, Int.toNat_natCast] at hx1
      have HOUT := Aside0.mk (show (out ++ cat (sl X j x) ++ O[n]).size ≤ (n + 1) * 3000 from by rw [ByteArray.size_append, ByteArray.size_append]; have h1 := HZO.out; have h2 := (Nat.le_trans (impl_MergeText.cat_sl X j x) HZ1.out); have h3 := impl_MergeText.elem O n hn; have h4 := HZ0.out; omega)
      have HT2 := Aside0.mk (show impl_MergeText.out (mgo O X Y (withP PX) (withP PY) d (n + 1) (n + 1) (x + 1) (y + 1) (out ++ cat (sl X j x) ++ O[n])) = (r1, r2) from by have := HT1; rw [dif_pos hn] at this; exact this)
      have HLOW := Aside0.mk (show Low (withP PX) (n + 1) (x + 1) ∧ Low (withP PY) (n + 1) (y + 1) ∧ x + 1 ≤ X.length ∧ y + 1 ≤ Y.length from by
       obtain ⟨f1, f2⟩ := HS1.out hn
       exact ⟨Low.next HQX.out f1, Low.next HQY.out f2, (HQX.out.lt n x f1 hn).1, (HQY.out.lt n y f2 hn).1⟩)
      clear HT1
      generalize hOn : O[n] = On at hx1 HOUT HT2 z2a z2b z2c z3a z3b z3c
      have HOn := Aside0.mk hOn
      clear hOn
      go_wp2_with fail
      go_quiet ((go_at_call 31; with_reducible exact E1.out _))
      have RO2 := Aside0.mk (Kd.C_drewN RO.out nq)
      have RX2 := Aside0.mk (Kd.C_drewN RX.out nq)
      have RY2 := Aside0.mk (Kd.C_drewN RY.out nq)
      have HB8 := Aside0.mk (pw_below_drewN HB7.out nq)
      generalize wc.drewN nq = wd at RO2 RX2 RY2 HB8 ⊢
      obtain ⟨ad2, e2_, hx2⟩ := Kd.at_string (Kd.C_below HX.out.c0 HB8.out) (n : Int) (by omega) (by omega)
      cases e2_
      rw [rd_of hn, HOn.out, Int.toNat_natCast] at hx2
      clear hx1
      have E2 := Aside0.mk (impl_MergeText.eqv (c := cO) (c' := cY) RO2.out RY2.out T2.out)
      have E3 := Aside0.mk (impl_MergeText.eqv (c := cX) (c' := cY) RX2.out RY2.out T3.out)
      go_wp2_with fail
      go_quiet (first | (go_at_call 31; with_reducible exact E2.out _) | (go_at_call 31; with_reducible exact E3.out _))
      go_wp2_with fail
      go_wp2
      go_roundg d
      case measure => omega
      case rel => exact ⟨n + 1, n + 1, x + 1, y + 1, _, rfl, by first | rw [W1.out] | exact congrArg (Value.int .i64) (by omega), by first | rw [W2.out] | exact congrArg (Value.int .i64) (by omega), by first | rw [W3.out] | exact congrArg (Value.int .i64) (by omega), by first | rw [W1.out] | exact congrArg (Value.int .i64) (by omega), ⟨by omega⟩, HT2, ⟨Nat.le_refl _⟩, ⟨fun _ => ⟨HLOW.out.1, HLOW.out.2.2.1⟩⟩, ⟨fun _ => ⟨HLOW.out.2.1, HLOW.out.2.2.2⟩⟩, HOUT, ⟨by first | exact be HB8.out | exact be HB7.out⟩⟩
     ·have c5 : decide ((n : Int) < (O.length : Int)) = false := decide_eq_false (by omega)
      have c6 : decide (n < O.length) = false := decide_eq_false hn
      have HOUT := Aside0.mk (show (out ++ cat (sl X j x)).size ≤ (n + 1) * 3000 from by rw [ByteArray.size_append]; have h1 := HZO.out; have h2 := (Nat.le_trans (impl_MergeText.cat_sl X j x) HZ1.out); omega)
      have HT2 := Aside0.mk (show impl_MergeText.out (mgo O X Y (withP PX) (withP PY) d (n + 1) (n + 1) (x + 1) (y + 1) (out ++ cat (sl X j x))) = (r1, r2) from by have := HT1; rw [dif_neg hn] at this; exact this)
      clear HT1
      go_wp2_with fail
      go_quiet ((go_at_call 31; with_reducible exact E1.out _))
      have RO2 := Aside0.mk (Kd.C_drewN RO.out nq)
      have RX2 := Aside0.mk (Kd.C_drewN RX.out nq)
      have RY2 := Aside0.mk (Kd.C_drewN RY.out nq)
      have HB8 := Aside0.mk (pw_below_drewN HB7.out nq)
      generalize wc.drewN nq = wd at RO2 RX2 RY2 HB8 ⊢
      have E2 := Aside0.mk (impl_MergeText.eqv (c := cO) (c' := cY) RO2.out RY2.out T2.out)
      have E3 := Aside0.mk (impl_MergeText.eqv (c := cX) (c' := cY) RX2.out RY2.out T3.out)
      go_wp2_with fail
      go_quiet (first | (go_at_call 31; with_reducible exact E2.out _) | (go_at_call 31; with_reducible exact E3.out _))
      go_wp2_with fail
      go_wp2
      go_roundg d
      case measure => omega
      case rel => exact ⟨n + 1, n + 1, x + 1, y + 1, _, rfl, by first | rw [W1.out] | exact congrArg (Value.int .i64) (by omega), by first | rw [W2.out] | exact congrArg (Value.int .i64) (by omega), by first | rw [W3.out] | exact congrArg (Value.int .i64) (by omega), by first | rw [W1.out] | exact congrArg (Value.int .i64) (by omega), ⟨by omega⟩, HT2, ⟨Nat.le_refl _⟩, ⟨fun h => absurd h (by omega)⟩, ⟨fun h => absurd h (by omega)⟩, HOUT, ⟨by first | exact be HB8.out | exact be HB7.out⟩⟩
    ·have T3 := Aside0.mk (decide_eq_false q3)
     rw [threeL, if_neg q1, if_neg (fun h => h.elim q2 q3)] at HT1
     obtain ⟨rfl, rfl⟩ := Prod.mk.inj HT1
     clear HT1 q1 q2 q3
     go_wp2_with fail
     go_quiet ((go_at_call 31; with_reducible exact E1.out _))
     have RO2 := Aside0.mk (Kd.C_drewN RO.out nq)
     have RX2 := Aside0.mk (Kd.C_drewN RX.out nq)
     have RY2 := Aside0.mk (Kd.C_drewN RY.out nq)
     have HB8 := Aside0.mk (pw_below_drewN HB7.out nq)
     generalize wc.drewN nq = wd at RO2 RX2 RY2 HB8 ⊢
     have E2 := Aside0.mk (impl_MergeText.eqv (c := cO) (c' := cY) RO2.out RY2.out T2.out)
     have E3 := Aside0.mk (impl_MergeText.eqv (c := cX) (c' := cY) RX2.out RY2.out T3.out)
     go_wp2_with fail
     go_quiet (first | (go_at_call 31; with_reducible exact E2.out _) | (go_at_call 31; with_reducible exact E3.out _))
     go_wp2
     go_ret2
     exact ⟨rfl, below_step HW.out (be HB8.out)⟩
theorem impl_MergeText.calls (a0 a1 a2 : ByteArray) (r1 : ByteArray) (r2 : Bool) (w : World) (hg : GOK w) (h : impl_MergeText.f a0 a1 a2 = some (r1, r2)) :
  Calls Tryd.prog 9 #[.string a0, .string a1, .string a2] w fun e w' => e = .returned (.tuple #[.string r1, .bool r2]) ∧ Below w.heap.size w w' := by
 have h' : mergeT a0 a1 a2 = (r1, r2) := Option.some.inj h
 by_cases hb : a0.size > 1500 ∨ a1.size > 1500 ∨ a2.size > 1500
 ·have e := h'
  unfold mergeT at e
  rw [if_pos hb] at e
  obtain ⟨rfl, rfl⟩ := Prod.mk.inj e
  exact impl_MergeText.big a0 a1 a2 w hb
 ·exact impl_MergeText.main a0 a1 a2 r1 r2 w hg (by omega) (by omega) (by omega) h'


end Go.Proofs.YtkmfnmeilooogaaDoor.P


namespace Go.Proofs.YtkmfnmeilooogaaDoor.P
open Go.RowKit Go.Proofs.YtkmfnmeilooogaaDoorW.PrintWords Go.Proofs.YtkmfnmeilooogaaDoorW.PrintLast Go.Proofs.YtkmfnmeilooogaaDoorW.PrintMore
attribute [local go_sem] max2_int min2_int max_two min_two max_three min_three max_four min_four
set_option linter.unusedVariables false
set_option linter.unusedSimpArgs false

/-! ### laws_FnExactMergeText: function 3 -/
def laws_FnExactMergeText.f (k : Nat) (a0 : ByteArray) (a1 : ByteArray) (a2 : ByteArray) : Option (Bool) := if (a0.size : Int) > 1048576 then (some true) else (if (a1.size : Int) > 1048576 then (some true) else (if (a2.size : Int) > 1048576 then (some true) else ((spec_MergeText.f k a0 a1 a2).bind fun bt243 => ((impl_MergeText.f a0 a1 a2).bind fun bt245 => (if bt245.1.toList = bt243.1.toList then (if (bt245.2 != bt243.2) = true then (some false) else (some true)) else (some false))))))
theorem laws_FnExactMergeText.mono : ∀ a0 a1 a2 k, LeO (laws_FnExactMergeText.f k a0 a1 a2) (laws_FnExactMergeText.f (k + 1) a0 a1 a2) := by
 intro a0 a1 a2 k
 unfold laws_FnExactMergeText.f
 repeat' first
   | (with_reducible exact spec_MergeText.mono _ _ _ _)
   | (with_reducible exact LeO.refl _)
   | (with_reducible exact LeO.none _)
   | (with_reducible refine LeO.ite ?_ ?_)
   | (with_reducible refine LeO.bind ?_ (fun _ => ?_))
   | exact spec_MergeText.mono _ _ _ _
   | exact LeO.none _
   | refine LeO.ite ?_ ?_
   | refine LeO.bind ?_ (fun _ => ?_)
set_option maxHeartbeats 8000000 in
set_option maxRecDepth 100000 in
theorem laws_FnExactMergeText.calls (k : Nat) (a0 : ByteArray) (a1 : ByteArray) (a2 : ByteArray) (r : Bool) (w : World) (hg : GOK w) (h : laws_FnExactMergeText.f k a0 a1 a2 = some r) (hrt : r = true) :
  Calls Tryd.prog 3 #[.string a0, .string a1, .string a2] w fun e w' => e = .returned (.bool r) ∧ Below w.heap.size w w' := by
 have HG := Aside0.mk hg
 clear hg
 have HB := Aside0.mk (Below.refl w.heap.size w)
 have H : (if (a0.size : Int) > 1048576 then (some true) else (if (a1.size : Int) > 1048576 then (some true) else (if (a2.size : Int) > 1048576 then (some true) else ((spec_MergeText.f k a0 a1 a2).bind fun bt243 => ((impl_MergeText.f a0 a1 a2).bind fun bt245 => (if bt245.1.toList = bt243.1.toList then (if (bt245.2 != bt243.2) = true then (some false) else (some true)) else (some false))))))) = some r := h
 clear h
 by_cases c4 : (a0.size : Int) > 1048576
 ·rw [if_pos c4] at H
  have c4b0 : decide (1048576 < (a0.size : Int)) = true := decide_eq_true c4
  have c4b1 : decide (1048576 < a0.size) = true := decide_eq_true (by omega)
  clear c4
  obtain rfl := Option.some.inj H
  go_enter Tryd.func3, Tryd.ntmps3
  go_wp2
  go_ret
  exact ⟨Ye2, be HB.out⟩
 ·rw [if_neg c4] at H
  have c4b0 : decide (1048576 < (a0.size : Int)) = false := decide_eq_false c4
  have c4b1 : decide (1048576 < a0.size) = false := decide_eq_false (by omega)
  clear c4
  by_cases c5 : (a1.size : Int) > 1048576
  ·rw [if_pos c5] at H
   have c5b0 : decide (1048576 < (a1.size : Int)) = true := decide_eq_true c5
   have c5b1 : decide (1048576 < a1.size) = true := decide_eq_true (by omega)
   clear c5
   obtain rfl := Option.some.inj H
   go_enter Tryd.func3, Tryd.ntmps3
   go_wp2
   go_ret
   exact ⟨Ye2, be HB.out⟩
  ·rw [if_neg c5] at H
   have c5b0 : decide (1048576 < (a1.size : Int)) = false := decide_eq_false c5
   have c5b1 : decide (1048576 < a1.size) = false := decide_eq_false (by omega)
   clear c5
   by_cases c6 : (a2.size : Int) > 1048576
   ·rw [if_pos c6] at H
    have c6b0 : decide (1048576 < (a2.size : Int)) = true := decide_eq_true c6
    have c6b1 : decide (1048576 < a2.size) = true := decide_eq_true (by omega)
    clear c6
    obtain rfl := Option.some.inj H
    go_enter Tryd.func3, Tryd.ntmps3
    go_wp2
    go_ret
    exact ⟨Ye2, be HB.out⟩
   ·rw [if_neg c6] at H
    have c6b0 : decide (1048576 < (a2.size : Int)) = false := decide_eq_false c6
    have c6b1 : decide (1048576 < a2.size) = false := decide_eq_false (by omega)
    clear c6
    replace H := Option.bind_eq_some_iff.mp H
    obtain ⟨⟨t243, t244⟩, A70, H⟩ := H
    replace H : ((impl_MergeText.f a0 a1 a2).bind fun bt245 => (if bt245.1.toList = t243.toList then (if (bt245.2 != t244) = true then (some false) else (some true)) else (some false))) = some r := H
    have A7 := Aside0.mk A70
    clear A70
    replace H := Option.bind_eq_some_iff.mp H
    obtain ⟨⟨t245, t246⟩, A80, H⟩ := H
    replace H : (if t245.toList = t243.toList then (if (t246 != t244) = true then (some false) else (some true)) else (some false)) = some r := H
    have A8 := Aside0.mk A80
    clear A80
    by_cases c9 : t245.toList = t243.toList
    ·rw [if_pos c9] at H
     have c9b0 : (t245.toList == t243.toList) = true := beq_iff_eq.mpr c9
     have c9b1 : (t245.toList != t243.toList) = false := bne_eq_false_iff_eq.mpr c9
     clear c9
     by_cases c10 : (t246 != t244) = true
     ·rw [if_pos c10] at H
      have c10b0 : (t246 != t244) = true := c10
      (try (have c10b1 : decide (t246 = t244) = false := by simpa using c10))
      (try (have c10b2 : (t246 == t244) = false := by simpa using c10))
      (try (have c10b3 : ¬ (t246 = t244) := by simpa using c10))
      clear c10
      exact absurd ((Option.some.inj H).trans hrt) (by decide)
     ·rw [if_neg c10] at H
      have c10b0 : (t246 != t244) = false := by simpa using c10
      (try (have c10b1 : decide (t246 = t244) = true := by simpa using c10))
      (try (have c10b2 : (t246 == t244) = true := by simpa using c10))
      clear c10
      obtain rfl := Option.some.inj H
      go_enter Tryd.func3, Tryd.ntmps3
      go_wp2_with (first | ((with_reducible refine gc 8 rfl ?_); refine gl (some 24) _ (#[.string a0, .string a1, .string a2]) Tryd.func8 ?_; (with_reducible refine (spec_MergeText.calls k a0 a1 a2 t243 t244 _ A7.out).mono ?_); rintro e w13 ⟨rfl, hb⟩; refine ⟨_, rfl, ?_⟩; refine Ya1 (below_step (be HB.out) hb) ?_; clear HB; intro HB; (try clear hb); (try clear hb2); (try clear hk); (try clear hi)) | ((with_reducible refine gc 9 rfl ?_); refine gl (some 31) _ (#[.string a0, .string a1, .string a2]) Tryd.func9 ?_; (with_reducible refine (impl_MergeText.calls a0 a1 a2 t245 t246 _ ?sideG A8.out).mono ?_); (case sideG => exact gk HG.out HB.out); rintro e w14 ⟨rfl, hb⟩; refine ⟨_, rfl, ?_⟩; refine Ya1 (below_step (be HB.out) hb) ?_; clear HB; intro HB; (try clear hb); (try clear hb2); (try clear hk); (try clear hi)))
      go_ret
      exact ⟨Ye2, be HB.out⟩
    ·rw [if_neg c9] at H
     have c9b0 : (t245.toList == t243.toList) = false := beq_eq_false_iff_ne.mpr c9
     have c9b1 : (t245.toList != t243.toList) = true := bne_iff_ne.mpr c9
     exact absurd ((Option.some.inj H).trans hrt) (by decide)
end Go.Proofs.YtkmfnmeilooogaaDoor.P

