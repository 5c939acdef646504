/- Several texts of this claim in one file: YtkdghhkpmkfjhaaDoorPSpecValidTree, YtkdghhkpmkfjhaaDoorPSpecRemove, YtkdghhkpmkfjhaaDoorPSpecL5Set. -/
import Derived.Test.YtkdghhkpmkfjhaaDoorM3
import Derived.Test.YtkdghhkpmkfjhaaDoorM4
import Derived.Test.YtkdghhkpmkfjhaaDoorM5
namespace Go.Proofs.YtkdghhkpmkfjhaaDoor.P
open Go.RowKit Go.Proofs.YtkdghhkpmkfjhaaDoorW.PrintWords Go.Proofs.YtkdghhkpmkfjhaaDoorW.PrintLast Go.Proofs.YtkdghhkpmkfjhaaDoorW.PrintMore
attribute [local go_sem] max2_int min2_int max_two min_two max_three min_three max_four min_four
set_option linter.unusedVariables false
set_option linter.unusedSimpArgs false

/-! ### spec_ValidTree: function 13 -/
mutual
def spec_ValidTree.l0 : Nat → Int → List (S45) → Option (Bool)
 | 0, _, _ => none
 | k + 1, x3, x123000 => if x3 < (x123000.length : Int) then (if 0 ≤ x3 then ((spec_ValidPath.f k ((rd_T45 x123000 x3).f0)).bind fun t125 => (if t125 = true then (if (((rd_T45 x123000 x3).f1).size : Int) > 1500 then (spec_ValidTree.j1 k x3 true x123000 ((rd_T45 x123000 x3).f0) ((rd_T45 x123000 x3).f1) ((rd_T45 x123000 x3).f2)) else (if x3 > 0 then (if 0 ≤ (wrap64 (x3 - 1)) then (if (wrap64 (x3 - 1)) < (x123000.length : Int) then (spec_ValidTree.j1 k x3 (!(Op.bytesLess (((rd_T45 x123000 (wrap64 (x3 - 1))).f0).toList) (((rd_T45 x123000 x3).f0).toList))) x123000 ((rd_T45 x123000 x3).f0) ((rd_T45 x123000 x3).f1) ((rd_T45 x123000 x3).f2)) else (none)) else (none)) else (spec_ValidTree.j1 k x3 false x123000 ((rd_T45 x123000 x3).f0) ((rd_T45 x123000 x3).f1) ((rd_T45 x123000 x3).f2)))) else (spec_ValidTree.j1 k x3 true x123000 ((rd_T45 x123000 x3).f0) ((rd_T45 x123000 x3).f1) ((rd_T45 x123000 x3).f2)))) else (none)) else (some true)
def spec_ValidTree.j1 : Nat → Int → Bool → List (S45) → ByteArray → ByteArray → Bool → Option (Bool)
 | 0, _, _, _, _, _, _ => none
 | k + 1, x3, x47, x123000, x125000, x125001, x125002 => if x47 = true then (some false) else (spec_ValidTree.l1 k x3 0 x123000 x125000 x125001 x125002)
def spec_ValidTree.l1 : Nat → Int → Int → List (S45) → ByteArray → ByteArray → Bool → Option (Bool)
 | 0, _, _, _, _, _, _ => none
 | k + 1, x3, x5, x123000, x125000, x125001, x125002 => if x5 < x3 then (if 0 ≤ x5 then (if x5 < (x123000.length : Int) then ((spec_l5Begins.f ((rd_T45 x123000 x5).f0) x125000).bind fun t128 => (if t128 = true then (some false) else (spec_ValidTree.l1 k x3 (wrap64 (x5 + 1)) x123000 x125000 x125001 x125002))) else (none)) else (none)) else (spec_ValidTree.l0 k (wrap64 (x3 + 1)) x123000)
end
def spec_ValidTree.f (k : Nat) (l0_0 : List (S45)) : Option (Bool) := if (l0_0.length : Int) > 100 then (some false) else (spec_ValidTree.l0 k 0 l0_0)
theorem spec_ValidTree.mono_l : ∀ k, (∀ y0 y1, LeO (spec_ValidTree.l0 k y0 y1) (spec_ValidTree.l0 (k + 1) y0 y1)) ∧ (∀ y0 y1 y2 y3 y4 y5, LeO (spec_ValidTree.j1 k y0 y1 y2 y3 y4 y5) (spec_ValidTree.j1 (k + 1) y0 y1 y2 y3 y4 y5)) ∧ (∀ y0 y1 y2 y3 y4 y5, LeO (spec_ValidTree.l1 k y0 y1 y2 y3 y4 y5) (spec_ValidTree.l1 (k + 1) y0 y1 y2 y3 y4 y5))
 | 0 => ⟨fun _ _ r h => by simp [spec_ValidTree.l0] at h, fun _ _ _ _ _ _ r h => by simp [spec_ValidTree.j1] at h, fun _ _ _ _ _ _ r h => by simp [spec_ValidTree.l1] at h⟩
 | k + 1 => by
  obtain ⟨ih0, ih1, ih2⟩ := spec_ValidTree.mono_l k
  refine ⟨?_, ?_, ?_⟩
  ·intro y0 y1
   unfold spec_ValidTree.l0
   repeat' first
   | (with_reducible exact ih0 _ _)
   | (with_reducible exact ih1 _ _ _ _ _ _)
   | (with_reducible exact ih2 _ _ _ _ _ _)
   | (with_reducible exact spec_ValidPath.mono _ _)
   | (with_reducible exact LeO.refl _)
   | (with_reducible exact LeO.none _)
   | (with_reducible refine LeO.ite ?_ ?_)
   | (with_reducible refine LeO.bind ?_ (fun _ => ?_))
   | exact ih0 _ _
   | exact ih1 _ _ _ _ _ _
   | exact ih2 _ _ _ _ _ _
   | exact spec_ValidPath.mono _ _
   | exact LeO.none _
   | refine LeO.ite ?_ ?_
   | refine LeO.bind ?_ (fun _ => ?_)
  ·intro y0 y1 y2 y3 y4 y5
   unfold spec_ValidTree.j1
   repeat' first
   | (with_reducible exact ih0 _ _)
   | (with_reducible exact ih1 _ _ _ _ _ _)
   | (with_reducible exact ih2 _ _ _ _ _ _)
   | (with_reducible exact spec_ValidPath.mono _ _)
   | (with_reducible exact LeO.refl _)
   | (with_reducible exact LeO.none _)
   | (with_reducible refine LeO.ite ?_ ?_)
   | (with_reducible refine LeO.bind ?_ (fun _ => ?_))
   | exact ih0 _ _
   | exact ih1 _ _ _ _ _ _
   | exact ih2 _ _ _ _ _ _
   | exact spec_ValidPath.mono _ _
   | exact LeO.none _
   | refine LeO.ite ?_ ?_
   | refine LeO.bind ?_ (fun _ => ?_)
  ·intro y0 y1 y2 y3 y4 y5
   unfold spec_ValidTree.l1
   repeat' first
   | (with_reducible exact ih0 _ _)
   | (with_reducible exact ih1 _ _ _ _ _ _)
   | (with_reducible exact ih2 _ _ _ _ _ _)
   | (with_reducible exact spec_ValidPath.mono _ _)
   | (with_reducible exact LeO.refl _)
   | (with_reducible exact LeO.none _)
   | (with_reducible refine LeO.ite ?_ ?_)
   | (with_reducible refine LeO.bind ?_ (fun _ => ?_))
   | exact ih0 _ _
   | exact ih1 _ _ _ _ _ _
   | exact ih2 _ _ _ _ _ _
   | exact spec_ValidPath.mono _ _
   | exact LeO.none _
   | refine LeO.ite ?_ ?_
   | refine LeO.bind ?_ (fun _ => ?_)
theorem spec_ValidTree.mono : ∀ a0 k, LeO (spec_ValidTree.f k a0) (spec_ValidTree.f (k + 1) a0) := by
 intro a0 k
 obtain ⟨ih0, ih1, ih2⟩ := spec_ValidTree.mono_l k
 unfold spec_ValidTree.f
 repeat' first
   | (with_reducible exact ih0 _ _)
   | (with_reducible exact ih1 _ _ _ _ _ _)
   | (with_reducible exact ih2 _ _ _ _ _ _)
   | (with_reducible exact spec_ValidPath.mono _ _)
   | (with_reducible exact LeO.refl _)
   | (with_reducible exact LeO.none _)
   | (with_reducible refine LeO.ite ?_ ?_)
   | (with_reducible refine LeO.bind ?_ (fun _ => ?_))
   | exact ih0 _ _
   | exact ih1 _ _ _ _ _ _
   | exact ih2 _ _ _ _ _ _
   | exact spec_ValidPath.mono _ _
   | exact LeO.none _
   | refine LeO.ite ?_ ?_
   | refine LeO.bind ?_ (fun _ => ?_)
def spec_ValidTree.T7 : Bool × List (List Nat × List Nat) := (true, [([], []), ([0], [0]), ([1], [1]), ([2], [2]), ([3, 2], [3]), ([4], [4]), ([5, 4], [4, 5]), ([6, 4], [4, 6]), ([7, 4], [4, 7]), ([4, 8], [4, 8]), ([9, 4], [9]), ([10], [10]), ([11, 10], [10, 11]), ([12, 10, 10], [10, 12]), ([13], [13]), ([14, 13], [13, 14]), ([13], [13]), ([16, 13], [13, 16]), ([15, 17, 13], [13, 15, 17]), ([18, 13], [13, 18]), ([19, 13], [13, 19]), ([13], [13]), ([21, 13], [13, 21]), ([20, 22, 13], [13, 20, 22]), ([13, 23, 10], [10, 13, 23]), ([10, 24], [10, 24])])
def spec_ValidTree.B7 : List Nat := [0, 1, 3, 7, 15, 31, 63, 127, 255, 511, 1023, 2047, 4095, 8191, 16383, 32767, 16383, 81919, 262143, 524287, 1048575, 16383, 2113535, 8388607, 16777215, 33554431]
theorem spec_ValidTree.tab7 : rtab .any (opsOf Tryd.f13 7) = spec_ValidTree.T7 := by kernel_rfl
theorem spec_ValidTree.bits7 : waitsOk spec_ValidTree.T7.2 spec_ValidTree.B7 = true := by kernel_rfl
def spec_ValidTree.T12 : Bool × List (List Nat × List Nat) := (true, [([], []), ([0], [0]), ([], []), ([1, 2], [1, 2]), ([3], [3]), ([4], [4]), ([], []), ([6], [6]), ([5, 7], [5, 7])])
def spec_ValidTree.B12 : List Nat := [0, 1, 0, 7, 15, 31, 0, 64, 255]
theorem spec_ValidTree.tab12 : rtab .any (opsOf Tryd.f13 12) = spec_ValidTree.T12 := by kernel_rfl
theorem spec_ValidTree.bits12 : waitsOk spec_ValidTree.T12.2 spec_ValidTree.B12 = true := by kernel_rfl
set_option maxHeartbeats 8000000 in
set_option maxRecDepth 100000 in
theorem spec_ValidTree.calls (k : Nat) (A0_0 : Option Addr) (c0_0 : Nat) (l0_0 : List (S45)) (r : Bool) (w : World) (hr0_0 : Kd.C k45 w A0_0 l0_0.length l0_0) (hc0_0 : l0_0.length ≤ c0_0) (h : spec_ValidTree.f k l0_0 = some r) :
  Calls Tryd.prog 13 #[.agg #[.slice A0_0 l0_0.length c0_0]] w fun e w' => e = .returned (.bool r) ∧ Below w.heap.size w w' := by
 have hu29 := Tryd.underlying29
 have hu45 := Tryd.underlying45
 have HR0_0 := Aside0.mk hr0_0
 have HC0_0 := Aside0.mk hc0_0
 clear hr0_0 hc0_0
 have HB := Aside0.mk (Below.refl w.heap.size w)
 have H : (if (l0_0.length : Int) > 100 then (some false) else (spec_ValidTree.l0 k 0 l0_0)) = some r := h
 clear h
 by_cases c2 : (l0_0.length : Int) > 100
 ·rw [if_pos c2] at H
  have c2b0 : decide (100 < (l0_0.length : Int)) = true := decide_eq_true c2
  have c2b1 : decide (100 < l0_0.length) = true := decide_eq_true (by omega)
  clear c2
  obtain rfl := Option.some.inj H
  go_enter Tryd.func13, Tryd.ntmps13
  go_wp2_with (first | ((with_reducible refine gd 1 rfl ?_); (try (refine gate_guard (by rfl) ?_; dsimp only)); refine bx 1 29 (#[.slice A0_0 l0_0.length c0_0]) ?_; intro gb122 hg w3 hbox hb; refine Ya4 (below_step (be HB.out) hb) (hbox) (bs hg (be HB.out)) (bs hg (be HB.out)) ?_; clear HB; intro HB BK122 GW122 GE122; clear hb hbox hg; have ⟨hcz4_0, hfz4_0⟩ := Yc1 BK122.out))
  go_ret
  exact ⟨Ye2, (by first | exact be1 HB.out GE122.out | exact be HB.out)⟩
 ·rw [if_neg c2] at H
  have c2b0 : decide (100 < (l0_0.length : Int)) = false := decide_eq_false c2
  have c2b1 : decide (100 < l0_0.length) = false := decide_eq_false (by omega)
  clear c2
  have H' := Aside0.mk H
  clear H
  go_enter Tryd.func13, Tryd.ntmps13
  go_wp2_with (first | ((with_reducible refine gd 1 rfl ?_); (try (refine gate_guard (by rfl) ?_; dsimp only)); refine bx 1 29 (#[.slice A0_0 l0_0.length c0_0]) ?_; intro gb122 hg w5 hbox hb; refine Ya4 (below_step (be HB.out) hb) (hbox) (bs hg (be HB.out)) (bs hg (be HB.out)) ?_; clear HB; intro HB BK122 GW122 GE122; clear hb hbox hg; have ⟨hcz6_0, hfz6_0⟩ := Yc1 BK122.out))
  go_loopg [3] k (fun kq v3 w' => ∃ (x3_1 : Int), v3 = .int .i64 x3_1 ∧ Aside0 (spec_ValidTree.l0 kq x3_1 l0_0 = some r) ∧ Aside0 (kq ≤ k) ∧ Aside0 (w'.heap[gb122]? = some (.cells #[(.slice A0_0 l0_0.length c0_0)] 29 (0, 0))) ∧ Aside0 (Below w.heap.size w w'))
  case atStart => exact ⟨(0), Ye1, H', ⟨Nat.le_refl _⟩, ⟨bk BK122.out⟩, ⟨be1 HB.out GE122.out⟩⟩
  case round =>
   clear H'
   try clear c1
   try clear c2
   try clear c2b0
   try clear c2b1
   try clear p2
   try clear hcz4_0
   try clear hcz6_0
   try clear hfz4_0
   try clear hfz6_0
   obtain ⟨x3_1, rfl, HA, HK1, BK122, HB⟩ := hrel
   cases gk with
   | zero => exact absurd HA.out (by simp [spec_ValidTree.l0])
   | succ k1 =>
    have H := HA.out
    clear HA
    simp only [spec_ValidTree.l0] at H
    by_cases c7 : x3_1 < (l0_0.length : Int)
    ·rw [if_pos c7] at H
     have c7b0 : decide (x3_1 < (l0_0.length : Int)) = true := decide_eq_true c7
     clear c7
     by_cases c8 : 0 ≤ x3_1
     ·rw [if_pos c8] at H
      have c8b0 : decide (0 ≤ x3_1) = true := decide_eq_true c8
      clear c8
      have HC9 := Aside0.mk H
      clear H
      have ⟨hcz10_0, hfz10_0⟩ := Yc1 BK122.out
      have p123 : 0 ≤ (x3_1 : Int) := oda
      have q123 : x3_1 < (l0_0.length : Int) := oda
      obtain ⟨ad123, e123, hx123_0, hx123_1, hx123_2⟩ := at_T45 (Kd.C_below HR0_0.out HB.out) x3_1 p123 q123
      cases e123
      replace p123 := eq_true p123
      replace q123 := eq_true q123
      go_upto_region 7 with (first | ((with_reducible refine gd 4 rfl ?_); (try (refine gate_guard (by rfl) ?_; dsimp only)); refine bx 4 45 (#[.string (⟨#[]⟩ : ByteArray), .string (⟨#[]⟩ : ByteArray), .bool false]) ?_; intro gb124 hg w11 hbox hb; refine Ya7 (bb BK122 hb) (below_step (be1 HB.out GE122.out) hb) (hbox) (bs hg (be1 HB.out GE122.out)) (bs hg (be1 HB.out GE122.out)) (bl hg BK122) (br hg BK122) ?_; clear BK122 HB; intro BK122 HB BK124 GW124 GE124 NB122_124 NB124_122; clear hb hbox hg; have hnb12 := NB124_122.out; have hnc12 := NB122_124.out; have ⟨hcz13_0, hcz13_1, hcz13_2, hfz13_0, hfz13_1, hfz13_2⟩ := Yc3 BK124.out))
      (try simp only [Act.put, List.setIfInBounds_toArray, List.set_cons_zero, List.set_cons_succ])
      go_cut [47] (fun v47 wc => ∃ (kq : Nat) (x47_8 : Bool), v47 = .bool x47_8 ∧ Aside0 (spec_ValidTree.j1 kq x3_1 x47_8 l0_0 ((rd_T45 l0_0 x3_1).f0) ((rd_T45 l0_0 x3_1).f1) ((rd_T45 l0_0 x3_1).f2) = some r) ∧ Aside0 (kq ≤ k1) ∧ Aside0 (wc.heap[gb122]? = some (.cells #[(.slice (some ad123) l0_0.length c0_0)] 29 (0, 0))) ∧ Aside0 (wc.heap[gb124]? = some (.cells #[.string ((rd_T45 l0_0 x3_1).f0), .string ((rd_T45 l0_0 x3_1).f1), .bool ((rd_T45 l0_0 x3_1).f2)] 45 (0, 0))) ∧ Aside0 (Below w.heap.size w wc))
      case first =>
       have H := HC9.out
       clear HC9
       replace H := Option.bind_eq_some_iff.mp H
       obtain ⟨t125, A140, H⟩ := H
       replace H : (if t125 = true then (if (((rd_T45 l0_0 x3_1).f1).size : Int) > 1500 then (spec_ValidTree.j1 k1 x3_1 true l0_0 ((rd_T45 l0_0 x3_1).f0) ((rd_T45 l0_0 x3_1).f1) ((rd_T45 l0_0 x3_1).f2)) else (if x3_1 > 0 then (if 0 ≤ (wrap64 (x3_1 - 1)) then (if (wrap64 (x3_1 - 1)) < (l0_0.length : Int) then (spec_ValidTree.j1 k1 x3_1 (!(Op.bytesLess (((rd_T45 l0_0 (wrap64 (x3_1 - 1))).f0).toList) (((rd_T45 l0_0 x3_1).f0).toList))) l0_0 ((rd_T45 l0_0 x3_1).f0) ((rd_T45 l0_0 x3_1).f1) ((rd_T45 l0_0 x3_1).f2)) else (none)) else (none)) else (spec_ValidTree.j1 k1 x3_1 false l0_0 ((rd_T45 l0_0 x3_1).f0) ((rd_T45 l0_0 x3_1).f1) ((rd_T45 l0_0 x3_1).f2)))) else (spec_ValidTree.j1 k1 x3_1 true l0_0 ((rd_T45 l0_0 x3_1).f0) ((rd_T45 l0_0 x3_1).f1) ((rd_T45 l0_0 x3_1).f2))) = some r := H
       have A14 := Aside0.mk A140
       clear A140
       by_cases c15 : t125 = true
       ·subst c15
        have H1 : (if (((rd_T45 l0_0 x3_1).f1).size : Int) > 1500 then (spec_ValidTree.j1 k1 x3_1 true l0_0 ((rd_T45 l0_0 x3_1).f0) ((rd_T45 l0_0 x3_1).f1) ((rd_T45 l0_0 x3_1).f2)) else (if x3_1 > 0 then (if 0 ≤ (wrap64 (x3_1 - 1)) then (if (wrap64 (x3_1 - 1)) < (l0_0.length : Int) then (spec_ValidTree.j1 k1 x3_1 (!(Op.bytesLess (((rd_T45 l0_0 (wrap64 (x3_1 - 1))).f0).toList) (((rd_T45 l0_0 x3_1).f0).toList))) l0_0 ((rd_T45 l0_0 x3_1).f0) ((rd_T45 l0_0 x3_1).f1) ((rd_T45 l0_0 x3_1).f2)) else (none)) else (none)) else (spec_ValidTree.j1 k1 x3_1 false l0_0 ((rd_T45 l0_0 x3_1).f0) ((rd_T45 l0_0 x3_1).f1) ((rd_T45 l0_0 x3_1).f2)))) = some r := by rw [if_pos rfl] at H; exact H
        clear H
        have H := H1
        clear H1
        by_cases c16 : (((rd_T45 l0_0 x3_1).f1).size : Int) > 1500
        ·rw [if_pos c16] at H
         have c16b0 : decide (1500 < (((rd_T45 l0_0 x3_1).f1).size : Int)) = true := decide_eq_true c16
         have c16b1 : decide (1500 < ((rd_T45 l0_0 x3_1).f1).size) = true := decide_eq_true (by omega)
         clear c16
         (first | rw [c16b0] | (simp only [i64_w, i32_w]; rw [c16b0]) | skip)
         have H' := Aside0.mk H
         clear H
         try go_wp2
         have n0_ : Aside0 ((((w11.setCell ⟨gb124, 0, none⟩ (.string ((rd_T45 l0_0 x3_1).f0))).setCell ⟨gb124, 1, none⟩ (.string ((rd_T45 l0_0 x3_1).f1))).setCell ⟨gb124, 2, none⟩ (.bool ((rd_T45 l0_0 x3_1).f2))).heap[gb122]? = some (.cells #[.slice (some ad123) l0_0.length c0_0] 29 (0, 0))) := ⟨bkf BK122.out NB122_124.out⟩
         have n1_ : Aside0 ((((w11.setCell ⟨gb124, 0, none⟩ (.string ((rd_T45 l0_0 x3_1).f0))).setCell ⟨gb124, 1, none⟩ (.string ((rd_T45 l0_0 x3_1).f1))).setCell ⟨gb124, 2, none⟩ (.bool ((rd_T45 l0_0 x3_1).f2))).heap[gb124]? = some (.cells #[.string ((rd_T45 l0_0 x3_1).f0), .string ((rd_T45 l0_0 x3_1).f1), .bool ((rd_T45 l0_0 x3_1).f2)] 45 (0, 0))) := ⟨by (with_reducible repeat (first | refine blk_drewN ?_ _ | refine blk_drew ?_ | refine blk_alloc ?_ _)); refine blk_put (cs := #[.string ((rd_T45 l0_0 x3_1).f0), .string ((rd_T45 l0_0 x3_1).f1), .bool false]) ?_ 2 _ rfl; (with_reducible repeat (first | refine blk_drewN ?_ _ | refine blk_drew ?_ | refine blk_alloc ?_ _)); refine blk_put (cs := #[.string ((rd_T45 l0_0 x3_1).f0), .string (⟨#[]⟩ : ByteArray), .bool false]) ?_ 1 _ rfl; (with_reducible repeat (first | refine blk_drewN ?_ _ | refine blk_drew ?_ | refine blk_alloc ?_ _)); refine blk_put (cs := #[.string (⟨#[]⟩ : ByteArray), .string (⟨#[]⟩ : ByteArray), .bool false]) ?_ 0 _ rfl; (with_reducible repeat (first | refine blk_drewN ?_ _ | refine blk_drew ?_ | refine blk_alloc ?_ _)); exact BK124.out⟩
         have n2_ : Aside0 (Below w.heap.size w (((w11.setCell ⟨gb124, 0, none⟩ (.string ((rd_T45 l0_0 x3_1).f0))).setCell ⟨gb124, 1, none⟩ (.string ((rd_T45 l0_0 x3_1).f1))).setCell ⟨gb124, 2, none⟩ (.bool ((rd_T45 l0_0 x3_1).f2)))) := ⟨be2 HB.out GE122.out GE124.out⟩
         (try clear BK122)
         (try clear BK124)
         (try clear HB)
         generalize (((w11.setCell ⟨gb124, 0, none⟩ (.string ((rd_T45 l0_0 x3_1).f0))).setCell ⟨gb124, 1, none⟩ (.string ((rd_T45 l0_0 x3_1).f1))).setCell ⟨gb124, 2, none⟩ (.bool ((rd_T45 l0_0 x3_1).f2))) = w17 at n0_ n1_ n2_ ⊢
         have BK122 := n0_
         have BK124 := n1_
         have HB := n2_
         clear n0_ n1_ n2_
         refine Ya3 (blk_drew BK122.out) (blk_drew BK124.out) (below_drew1 HB.out) ?_
         clear BK122 BK124 HB
         intro BK122 BK124 HB
         refine start_ (n := 26) (S := fun w' => w'.cell? ⟨gb124, 0, none⟩ = some (.string ((rd_T45 l0_0 x3_1).f0)) ∧ w'.cell? ⟨gb124, 1, none⟩ = some (.string ((rd_T45 l0_0 x3_1).f1)) ∧ w'.cell? ⟨gb124, 2, none⟩ = some (.bool ((rd_T45 l0_0 x3_1).f2))) (ds := []) (fb 26 0) (by kernel_rfl) rfl rfl ⟨(blk_cell BK124.out 0).trans rfl, (blk_cell BK124.out 1).trans rfl, (blk_cell BK124.out 2).trans rfl⟩ (fun hHeld => ?_); refine with_tabW spec_ValidTree.tab7 spec_ValidTree.bits7 (fun HT_ HW_ => ?_)
         generalize w17.drew = w18 at BK122 BK124 HB hHeld ⊢
         refine pu 0 22 (fb 26 1) HT_ ?_
         refine tk 1 23 (fb 26 3) HT_ HW_ hHeld ?_
         refine one_ (i := 2) (N := some 24) (fb 26 7) rfl rfl (one_of HT_.out (by kernel_rfl)) (by decide) (fun K hK => ?_)
         refine gs _ (#[.string ((rd_T45 l0_0 x3_1).f0)]) Tryd.func48 ?_
         with_reducible refine (spec_ValidPath.calls k1 ((rd_T45 l0_0 x3_1).f0) true _ A14.out).mono ?_
         rintro e w19 ⟨rfl, hb⟩
         refine ⟨_, rfl, ?_⟩
         refine Ya3 (bb BK122 hb) (bb BK124 hb) (below_step (be2 HB.out GE122.out GE124.out) hb) ?_
         clear BK122 BK124 HB
         intro BK122 BK124 HB
         (try clear hb)
         (try clear hb2)
         (try clear hk)
         (try clear hi)
         refine hK.out _ _ ⟨(blk_cell BK124.out 0).trans rfl, (blk_cell BK124.out 1).trans rfl, (blk_cell BK124.out 2).trans rfl⟩ (fun hHeld => ?_)
         clear hK K
         refine norm_ (a' := ?_) ?_ ?_
         rotate_left
         ·show Act.put _ (some 24) _ = _
          simp only [Act.put, List.setIfInBounds_toArray, List.set_cons_zero, List.set_cons_succ, i64_w, i32_w]
          rfl
         refine pu 3 25 (fb 26 15) HT_ ?_
         refine pu 4 26 (fb 26 31) HT_ ?_
         refine pu 5 27 (fb 26 63) HT_ ?_
         refine tk 6 28 (fb 26 127) HT_ HW_ hHeld ?_
         refine pu 7 29 (fb 26 255) HT_ ?_
         refine pu 8 30 (fb 26 511) HT_ ?_
         refine pu 9 31 (fb 26 1023) HT_ ?_
         refine pu 10 32 (fb 26 2047) HT_ ?_
         refine pn 11 33 (fb 26 4095) HT_ ?_
         refine pn 12 34 (fb 26 8191) HT_ ?_
         refine pn 13 35 (fb 26 16383) HT_ ?_
         refine pn 14 36 (fb 26 32767) HT_ ?_
         refine pn 15 37 (fb 26 65535) HT_ ?_
         refine pn 16 38 (fb 26 131071) HT_ ?_
         refine pn 17 39 (fb 26 262143) HT_ ?_
         refine pn 18 40 (fb 26 524287) HT_ ?_
         refine pn 19 41 (fb 26 1048575) HT_ ?_
         refine pn 20 42 (fb 26 2097151) HT_ ?_
         refine pn 21 43 (fb 26 4194303) HT_ ?_
         refine pn 22 44 (fb 26 8388607) HT_ ?_
         refine pn 23 45 (fb 26 16777215) HT_ ?_
         refine pn 24 46 (fb 26 33554431) HT_ ?_
         refine pu 25 47 (fb 26 67108863) HT_ ?_
         refine done_ (done_of HT_.out (by kernel_rfl)) ?_
         try go_wp2
         go_meet
         case rel => exact ⟨_, (true), Ye1, H', ⟨by have := HK1.out; first | omega | exact Nat.le_refl _⟩, ⟨bk BK122.out⟩, ⟨bk BK124.out⟩, ⟨be2 HB.out GE122.out GE124.out⟩⟩
        ·rw [if_neg c16] at H
         have c16b0 : decide (1500 < (((rd_T45 l0_0 x3_1).f1).size : Int)) = false := decide_eq_false c16
         have c16b1 : decide (1500 < ((rd_T45 l0_0 x3_1).f1).size) = false := decide_eq_false (by omega)
         clear c16
         (first | rw [c16b0] | (simp only [i64_w, i32_w]; rw [c16b0]) | skip)
         by_cases c20 : x3_1 > 0
         ·rw [if_pos c20] at H
          have c20b0 : decide (0 < x3_1) = true := decide_eq_true c20
          clear c20
          obtain ⟨ji21, hji21⟩ : ∃ j_ : Int, (wrap64 (x3_1 - 1)) = j_ := ⟨_, rfl⟩
          replace H : (if 0 ≤ (ji21) then (if (ji21) < (l0_0.length : Int) then (spec_ValidTree.j1 k1 x3_1 (!(Op.bytesLess (((rd_T45 l0_0 (ji21)).f0).toList) (((rd_T45 l0_0 x3_1).f0).toList))) l0_0 ((rd_T45 l0_0 x3_1).f0) ((rd_T45 l0_0 x3_1).f1) ((rd_T45 l0_0 x3_1).f2)) else (none)) else (none)) = some r := by first | (rw [hji21] at H; exact H) | (simp only [hji21] at H ⊢; exact H)
          (try rw [hji21] at A14)
          have hji21w : (IntKind.i64.wrap (x3_1 - 1)) = ji21 := (i64_w _).trans hji21
          by_cases c22 : 0 ≤ (ji21)
          ·rw [if_pos c22] at H
           have c22b0 : decide (0 ≤ (ji21)) = true := decide_eq_true c22
           clear c22
           by_cases c23 : (ji21) < (l0_0.length : Int)
           ·rw [if_pos c23] at H
            have c23b0 : decide ((ji21) < (l0_0.length : Int)) = true := decide_eq_true c23
            clear c23
            have H' := Aside0.mk H
            clear H
            try go_wp2
            have n0_ : Aside0 ((((w11.setCell ⟨gb124, 0, none⟩ (.string ((rd_T45 l0_0 x3_1).f0))).setCell ⟨gb124, 1, none⟩ (.string ((rd_T45 l0_0 x3_1).f1))).setCell ⟨gb124, 2, none⟩ (.bool ((rd_T45 l0_0 x3_1).f2))).heap[gb122]? = some (.cells #[.slice (some ad123) l0_0.length c0_0] 29 (0, 0))) := ⟨bkf BK122.out NB122_124.out⟩
            have n1_ : Aside0 ((((w11.setCell ⟨gb124, 0, none⟩ (.string ((rd_T45 l0_0 x3_1).f0))).setCell ⟨gb124, 1, none⟩ (.string ((rd_T45 l0_0 x3_1).f1))).setCell ⟨gb124, 2, none⟩ (.bool ((rd_T45 l0_0 x3_1).f2))).heap[gb124]? = some (.cells #[.string ((rd_T45 l0_0 x3_1).f0), .string ((rd_T45 l0_0 x3_1).f1), .bool ((rd_T45 l0_0 x3_1).f2)] 45 (0, 0))) := ⟨by (with_reducible repeat (first | refine blk_drewN ?_ _ | refine blk_drew ?_ | refine blk_alloc ?_ _)); refine blk_put (cs := #[.string ((rd_T45 l0_0 x3_1).f0), .string ((rd_T45 l0_0 x3_1).f1), .bool false]) ?_ 2 _ rfl; (with_reducible repeat (first | refine blk_drewN ?_ _ | refine blk_drew ?_ | refine blk_alloc ?_ _)); refine blk_put (cs := #[.string ((rd_T45 l0_0 x3_1).f0), .string (⟨#[]⟩ : ByteArray), .bool false]) ?_ 1 _ rfl; (with_reducible repeat (first | refine blk_drewN ?_ _ | refine blk_drew ?_ | refine blk_alloc ?_ _)); refine blk_put (cs := #[.string (⟨#[]⟩ : ByteArray), .string (⟨#[]⟩ : ByteArray), .bool false]) ?_ 0 _ rfl; (with_reducible repeat (first | refine blk_drewN ?_ _ | refine blk_drew ?_ | refine blk_alloc ?_ _)); exact BK124.out⟩
            have n2_ : Aside0 (Below w.heap.size w (((w11.setCell ⟨gb124, 0, none⟩ (.string ((rd_T45 l0_0 x3_1).f0))).setCell ⟨gb124, 1, none⟩ (.string ((rd_T45 l0_0 x3_1).f1))).setCell ⟨gb124, 2, none⟩ (.bool ((rd_T45 l0_0 x3_1).f2)))) := ⟨be2 HB.out GE122.out GE124.out⟩
            (try clear BK122)
            (try clear BK124)
            (try clear HB)
            generalize (((w11.setCell ⟨gb124, 0, none⟩ (.string ((rd_T45 l0_0 x3_1).f0))).setCell ⟨gb124, 1, none⟩ (.string ((rd_T45 l0_0 x3_1).f1))).setCell ⟨gb124, 2, none⟩ (.bool ((rd_T45 l0_0 x3_1).f2))) = w24 at n0_ n1_ n2_ ⊢
            have BK122 := n0_
            have BK124 := n1_
            have HB := n2_
            clear n0_ n1_ n2_
            refine Ya3 (blk_drew BK122.out) (blk_drew BK124.out) (below_drew1 HB.out) ?_
            clear BK122 BK124 HB
            intro BK122 BK124 HB
            have p126 : 0 ≤ ((ji21) : Int) := oda
            have q126 : (ji21) < (l0_0.length : Int) := oda
            obtain ⟨ad126, e126, hx126_0, hx126_1, hx126_2⟩ := at_T45 HR0_0.out (ji21) p126 q126
            have hw126_2 := hx126_2
            have hw126_1 := hx126_1
            have hw126_0 := hx126_0
            obtain rfl : ad123 = ad126 := (by injection e126)
            replace hx126_0 := pw_cell_below HB.out hx126_0
            replace hx126_1 := pw_cell_below HB.out hx126_1
            replace hx126_2 := pw_cell_below HB.out hx126_2
            replace p126 := eq_true p126
            replace q126 := eq_true q126
            refine start_ (n := 26) (S := fun w' => w'.cell? ⟨gb124, 0, none⟩ = some (.string ((rd_T45 l0_0 x3_1).f0)) ∧ w'.cell? ⟨gb124, 1, none⟩ = some (.string ((rd_T45 l0_0 x3_1).f1)) ∧ w'.cell? ⟨gb124, 2, none⟩ = some (.bool ((rd_T45 l0_0 x3_1).f2)) ∧ w'.cell? ⟨gb122, 0, none⟩ = some (.slice (some ad123) l0_0.length c0_0) ∧ w'.cell? (ad123.add (((ji21)).toNat * 3)) = some (.string ((rd_T45 l0_0 (ji21)).f0)) ∧ w'.cell? ⟨(ad123.add (((ji21)).toNat * 3)).block, (ad123.add (((ji21)).toNat * 3)).off + 1, none⟩ = some (.string ((rd_T45 l0_0 (ji21)).f1)) ∧ w'.cell? ⟨(ad123.add (((ji21)).toNat * 3)).block, (ad123.add (((ji21)).toNat * 3)).off + 2, none⟩ = some (.bool ((rd_T45 l0_0 (ji21)).f2))) (ds := []) (fb 26 0) (by kernel_rfl) rfl rfl ⟨(blk_cell BK124.out 0).trans rfl, (blk_cell BK124.out 1).trans rfl, (blk_cell BK124.out 2).trans rfl, (blk_cell BK122.out 0).trans rfl, (pw_cell_below HB.out hw126_0), (pw_cell_below HB.out hw126_1), (pw_cell_below HB.out hw126_2)⟩ (fun hHeld => ?_); refine with_tabW spec_ValidTree.tab7 spec_ValidTree.bits7 (fun HT_ HW_ => ?_)
            generalize w24.drew = w25 at BK122 BK124 HB hx126_0 hx126_1 hx126_2 hHeld ⊢
            refine pu 0 22 (fb 26 1) HT_ ?_
            refine tk 1 23 (fb 26 3) HT_ HW_ hHeld ?_
            refine one_ (i := 2) (N := some 24) (fb 26 7) rfl rfl (one_of HT_.out (by kernel_rfl)) (by decide) (fun K hK => ?_)
            refine gs _ (#[.string ((rd_T45 l0_0 x3_1).f0)]) Tryd.func48 ?_
            with_reducible refine (spec_ValidPath.calls k1 ((rd_T45 l0_0 x3_1).f0) true _ A14.out).mono ?_
            rintro e w26 ⟨rfl, hb⟩
            refine ⟨_, rfl, ?_⟩
            refine Ya3 (bb BK122 hb) (bb BK124 hb) (below_step (be2 HB.out GE122.out GE124.out) hb) ?_
            clear BK122 BK124 HB
            intro BK122 BK124 HB
            (try clear hb)
            (try clear hb2)
            (try clear hk)
            (try clear hi)
            refine hK.out _ _ ⟨(blk_cell BK124.out 0).trans rfl, (blk_cell BK124.out 1).trans rfl, (blk_cell BK124.out 2).trans rfl, (blk_cell BK122.out 0).trans rfl, (pw_cell_below HB.out hw126_0), (pw_cell_below HB.out hw126_1), (pw_cell_below HB.out hw126_2)⟩ (fun hHeld => ?_)
            clear hK K
            refine norm_ (a' := ?_) ?_ ?_
            rotate_left
            ·show Act.put _ (some 24) _ = _
             simp only [Act.put, List.setIfInBounds_toArray, List.set_cons_zero, List.set_cons_succ, i64_w, i32_w]
             rfl
            refine pu 3 25 (fb 26 15) HT_ ?_
            refine pu 4 26 (fb 26 31) HT_ ?_
            refine pu 5 27 (fb 26 63) HT_ ?_
            refine tk 6 28 (fb 26 127) HT_ HW_ hHeld ?_
            refine pu 7 29 (fb 26 255) HT_ ?_
            refine pu 8 30 (fb 26 511) HT_ ?_
            refine pu 9 31 (fb 26 1023) HT_ ?_
            refine pu 10 32 (fb 26 2047) HT_ ?_
            refine pu 11 33 (fb 26 4095) HT_ ?_
            refine pu 12 34 (fb 26 8191) HT_ ?_
            refine pu 13 35 (fb 26 16383) HT_ ?_
            refine pu 14 36 (fb 26 32767) HT_ ?_
            refine pu 16 38 (fb 26 98303) HT_ ?_
            refine pu 17 39 (fb 26 229375) HT_ ?_
            refine pu 21 43 (fb 26 2326527) HT_ ?_
            refine tk 15 37 (fb 26 2359295) HT_ HW_ hHeld ?_
            refine pu 18 40 (fb 26 2621439) HT_ ?_
            refine pu 19 41 (fb 26 3145727) HT_ ?_
            refine tk 20 42 (fb 26 4194303) HT_ HW_ hHeld ?_
            refine tk 22 44 (fb 26 8388607) HT_ HW_ hHeld ?_
            refine pu 23 45 (fb 26 16777215) HT_ ?_
            refine pu 24 46 (fb 26 33554431) HT_ ?_
            refine pu 25 47 (fb 26 67108863) HT_ ?_
            refine done_ (done_of HT_.out (by kernel_rfl)) ?_
            try go_wp2
            go_meet
            case rel => exact ⟨_, (!(Op.bytesLess (((rd_T45 l0_0 (ji21)).f0).toList) (((rd_T45 l0_0 x3_1).f0).toList))), (by first | rfl | (simp; done) | (simp only [← hji21] <;> (first | rfl | simp)) | (simp [*]; done)), (by first | exact H' | (subst hji21; exact H') | (simp only [← hji21] at H' ⊢; exact H')), ⟨by have := HK1.out; first | omega | exact Nat.le_refl _⟩, ⟨bk BK122.out⟩, ⟨bk BK124.out⟩, ⟨be2 HB.out GE122.out GE124.out⟩⟩
           ·rw [if_neg c23] at H
            exact absurd H (by simp)
          ·rw [if_neg c22] at H
           exact absurd H (by simp)
         ·rw [if_neg c20] at H
          have c20b0 : decide (0 < x3_1) = false := decide_eq_false c20
          clear c20
          have H' := Aside0.mk H
          clear H
          try go_wp2
          have n0_ : Aside0 ((((w11.setCell ⟨gb124, 0, none⟩ (.string ((rd_T45 l0_0 x3_1).f0))).setCell ⟨gb124, 1, none⟩ (.string ((rd_T45 l0_0 x3_1).f1))).setCell ⟨gb124, 2, none⟩ (.bool ((rd_T45 l0_0 x3_1).f2))).heap[gb122]? = some (.cells #[.slice (some ad123) l0_0.length c0_0] 29 (0, 0))) := ⟨bkf BK122.out NB122_124.out⟩
          have n1_ : Aside0 ((((w11.setCell ⟨gb124, 0, none⟩ (.string ((rd_T45 l0_0 x3_1).f0))).setCell ⟨gb124, 1, none⟩ (.string ((rd_T45 l0_0 x3_1).f1))).setCell ⟨gb124, 2, none⟩ (.bool ((rd_T45 l0_0 x3_1).f2))).heap[gb124]? = some (.cells #[.string ((rd_T45 l0_0 x3_1).f0), .string ((rd_T45 l0_0 x3_1).f1), .bool ((rd_T45 l0_0 x3_1).f2)] 45 (0, 0))) := ⟨by (with_reducible repeat (first | refine blk_drewN ?_ _ | refine blk_drew ?_ | refine blk_alloc ?_ _)); refine blk_put (cs := #[.string ((rd_T45 l0_0 x3_1).f0), .string ((rd_T45 l0_0 x3_1).f1), .bool false]) ?_ 2 _ rfl; (with_reducible repeat (first | refine blk_drewN ?_ _ | refine blk_drew ?_ | refine blk_alloc ?_ _)); refine blk_put (cs := #[.string ((rd_T45 l0_0 x3_1).f0), .string (⟨#[]⟩ : ByteArray), .bool false]) ?_ 1 _ rfl; (with_reducible repeat (first | refine blk_drewN ?_ _ | refine blk_drew ?_ | refine blk_alloc ?_ _)); refine blk_put (cs := #[.string (⟨#[]⟩ : ByteArray), .string (⟨#[]⟩ : ByteArray), .bool false]) ?_ 0 _ rfl; (with_reducible repeat (first | refine blk_drewN ?_ _ | refine blk_drew ?_ | refine blk_alloc ?_ _)); exact BK124.out⟩
          have n2_ : Aside0 (Below w.heap.size w (((w11.setCell ⟨gb124, 0, none⟩ (.string ((rd_T45 l0_0 x3_1).f0))).setCell ⟨gb124, 1, none⟩ (.string ((rd_T45 l0_0 x3_1).f1))).setCell ⟨gb124, 2, none⟩ (.bool ((rd_T45 l0_0 x3_1).f2)))) := ⟨be2 HB.out GE122.out GE124.out⟩
          (try clear BK122)
          (try clear BK124)
          (try clear HB)
          generalize (((w11.setCell ⟨gb124, 0, none⟩ (.string ((rd_T45 l0_0 x3_1).f0))).setCell ⟨gb124, 1, none⟩ (.string ((rd_T45 l0_0 x3_1).f1))).setCell ⟨gb124, 2, none⟩ (.bool ((rd_T45 l0_0 x3_1).f2))) = w27 at n0_ n1_ n2_ ⊢
          have BK122 := n0_
          have BK124 := n1_
          have HB := n2_
          clear n0_ n1_ n2_
          refine Ya3 (blk_drew BK122.out) (blk_drew BK124.out) (below_drew1 HB.out) ?_
          clear BK122 BK124 HB
          intro BK122 BK124 HB
          refine start_ (n := 26) (S := fun w' => w'.cell? ⟨gb124, 0, none⟩ = some (.string ((rd_T45 l0_0 x3_1).f0)) ∧ w'.cell? ⟨gb124, 1, none⟩ = some (.string ((rd_T45 l0_0 x3_1).f1)) ∧ w'.cell? ⟨gb124, 2, none⟩ = some (.bool ((rd_T45 l0_0 x3_1).f2))) (ds := []) (fb 26 0) (by kernel_rfl) rfl rfl ⟨(blk_cell BK124.out 0).trans rfl, (blk_cell BK124.out 1).trans rfl, (blk_cell BK124.out 2).trans rfl⟩ (fun hHeld => ?_); refine with_tabW spec_ValidTree.tab7 spec_ValidTree.bits7 (fun HT_ HW_ => ?_)
          generalize w27.drew = w28 at BK122 BK124 HB hHeld ⊢
          refine pu 0 22 (fb 26 1) HT_ ?_
          refine tk 1 23 (fb 26 3) HT_ HW_ hHeld ?_
          refine one_ (i := 2) (N := some 24) (fb 26 7) rfl rfl (one_of HT_.out (by kernel_rfl)) (by decide) (fun K hK => ?_)
          refine gs _ (#[.string ((rd_T45 l0_0 x3_1).f0)]) Tryd.func48 ?_
          with_reducible refine (spec_ValidPath.calls k1 ((rd_T45 l0_0 x3_1).f0) true _ A14.out).mono ?_
          rintro e w29 ⟨rfl, hb⟩
          refine ⟨_, rfl, ?_⟩
          refine Ya3 (bb BK122 hb) (bb BK124 hb) (below_step (be2 HB.out GE122.out GE124.out) hb) ?_
          clear BK122 BK124 HB
          intro BK122 BK124 HB
          (try clear hb)
          (try clear hb2)
          (try clear hk)
          (try clear hi)
          refine hK.out _ _ ⟨(blk_cell BK124.out 0).trans rfl, (blk_cell BK124.out 1).trans rfl, (blk_cell BK124.out 2).trans rfl⟩ (fun hHeld => ?_)
          clear hK K
          refine norm_ (a' := ?_) ?_ ?_
          rotate_left
          ·show Act.put _ (some 24) _ = _
           simp only [Act.put, List.setIfInBounds_toArray, List.set_cons_zero, List.set_cons_succ, i64_w, i32_w]
           rfl
          refine pu 3 25 (fb 26 15) HT_ ?_
          refine pu 4 26 (fb 26 31) HT_ ?_
          refine pu 5 27 (fb 26 63) HT_ ?_
          refine tk 6 28 (fb 26 127) HT_ HW_ hHeld ?_
          refine pu 7 29 (fb 26 255) HT_ ?_
          refine pu 8 30 (fb 26 511) HT_ ?_
          refine pu 9 31 (fb 26 1023) HT_ ?_
          refine pu 10 32 (fb 26 2047) HT_ ?_
          refine pu 11 33 (fb 26 4095) HT_ ?_
          refine pu 12 34 (fb 26 8191) HT_ ?_
          refine pu 13 35 (fb 26 16383) HT_ ?_
          refine pn 14 36 (fb 26 32767) HT_ ?_
          refine pn 15 37 (fb 26 65535) HT_ ?_
          refine pn 16 38 (fb 26 131071) HT_ ?_
          refine pn 17 39 (fb 26 262143) HT_ ?_
          refine pn 18 40 (fb 26 524287) HT_ ?_
          refine pn 19 41 (fb 26 1048575) HT_ ?_
          refine pn 20 42 (fb 26 2097151) HT_ ?_
          refine pn 21 43 (fb 26 4194303) HT_ ?_
          refine pn 22 44 (fb 26 8388607) HT_ ?_
          refine pn 23 45 (fb 26 16777215) HT_ ?_
          refine pu 24 46 (fb 26 33554431) HT_ ?_
          refine pu 25 47 (fb 26 67108863) HT_ ?_
          refine done_ (done_of HT_.out (by kernel_rfl)) ?_
          try go_wp2
          go_meet
          case rel => exact ⟨_, (false), Ye1, H', ⟨by have := HK1.out; first | omega | exact Nat.le_refl _⟩, ⟨bk BK122.out⟩, ⟨bk BK124.out⟩, ⟨be2 HB.out GE122.out GE124.out⟩⟩
       ·replace c15 := Bool.eq_false_iff.mpr c15
        subst c15
        have H1 : (spec_ValidTree.j1 k1 x3_1 true l0_0 ((rd_T45 l0_0 x3_1).f0) ((rd_T45 l0_0 x3_1).f1) ((rd_T45 l0_0 x3_1).f2)) = some r := by rw [if_neg (show ¬ (false = true) by decide)] at H; exact H
        clear H
        have H := H1
        clear H1
        have H' := Aside0.mk H
        clear H
        try go_wp2
        have n0_ : Aside0 ((((w11.setCell ⟨gb124, 0, none⟩ (.string ((rd_T45 l0_0 x3_1).f0))).setCell ⟨gb124, 1, none⟩ (.string ((rd_T45 l0_0 x3_1).f1))).setCell ⟨gb124, 2, none⟩ (.bool ((rd_T45 l0_0 x3_1).f2))).heap[gb122]? = some (.cells #[.slice (some ad123) l0_0.length c0_0] 29 (0, 0))) := ⟨bkf BK122.out NB122_124.out⟩
        have n1_ : Aside0 ((((w11.setCell ⟨gb124, 0, none⟩ (.string ((rd_T45 l0_0 x3_1).f0))).setCell ⟨gb124, 1, none⟩ (.string ((rd_T45 l0_0 x3_1).f1))).setCell ⟨gb124, 2, none⟩ (.bool ((rd_T45 l0_0 x3_1).f2))).heap[gb124]? = some (.cells #[.string ((rd_T45 l0_0 x3_1).f0), .string ((rd_T45 l0_0 x3_1).f1), .bool ((rd_T45 l0_0 x3_1).f2)] 45 (0, 0))) := ⟨by (with_reducible repeat (first | refine blk_drewN ?_ _ | refine blk_drew ?_ | refine blk_alloc ?_ _)); refine blk_put (cs := #[.string ((rd_T45 l0_0 x3_1).f0), .string ((rd_T45 l0_0 x3_1).f1), .bool false]) ?_ 2 _ rfl; (with_reducible repeat (first | refine blk_drewN ?_ _ | refine blk_drew ?_ | refine blk_alloc ?_ _)); refine blk_put (cs := #[.string ((rd_T45 l0_0 x3_1).f0), .string (⟨#[]⟩ : ByteArray), .bool false]) ?_ 1 _ rfl; (with_reducible repeat (first | refine blk_drewN ?_ _ | refine blk_drew ?_ | refine blk_alloc ?_ _)); refine blk_put (cs := #[.string (⟨#[]⟩ : ByteArray), .string (⟨#[]⟩ : ByteArray), .bool false]) ?_ 0 _ rfl; (with_reducible repeat (first | refine blk_drewN ?_ _ | refine blk_drew ?_ | refine blk_alloc ?_ _)); exact BK124.out⟩
        have n2_ : Aside0 (Below w.heap.size w (((w11.setCell ⟨gb124, 0, none⟩ (.string ((rd_T45 l0_0 x3_1).f0))).setCell ⟨gb124, 1, none⟩ (.string ((rd_T45 l0_0 x3_1).f1))).setCell ⟨gb124, 2, none⟩ (.bool ((rd_T45 l0_0 x3_1).f2)))) := ⟨be2 HB.out GE122.out GE124.out⟩
        (try clear BK122)
        (try clear BK124)
        (try clear HB)
        generalize (((w11.setCell ⟨gb124, 0, none⟩ (.string ((rd_T45 l0_0 x3_1).f0))).setCell ⟨gb124, 1, none⟩ (.string ((rd_T45 l0_0 x3_1).f1))).setCell ⟨gb124, 2, none⟩ (.bool ((rd_T45 l0_0 x3_1).f2))) = w30 at n0_ n1_ n2_ ⊢
        have BK122 := n0_
        have BK124 := n1_
        have HB := n2_
        clear n0_ n1_ n2_
        refine Ya3 (blk_drew BK122.out) (blk_drew BK124.out) (below_drew1 HB.out) ?_
        clear BK122 BK124 HB
        intro BK122 BK124 HB
        refine start_ (n := 26) (S := fun w' => w'.cell? ⟨gb124, 0, none⟩ = some (.string ((rd_T45 l0_0 x3_1).f0)) ∧ w'.cell? ⟨gb124, 1, none⟩ = some (.string ((rd_T45 l0_0 x3_1).f1)) ∧ w'.cell? ⟨gb124, 2, none⟩ = some (.bool ((rd_T45 l0_0 x3_1).f2))) (ds := []) (fb 26 0) (by kernel_rfl) rfl rfl ⟨(blk_cell BK124.out 0).trans rfl, (blk_cell BK124.out 1).trans rfl, (blk_cell BK124.out 2).trans rfl⟩ (fun hHeld => ?_); refine with_tabW spec_ValidTree.tab7 spec_ValidTree.bits7 (fun HT_ HW_ => ?_)
        generalize w30.drew = w31 at BK122 BK124 HB hHeld ⊢
        refine pu 0 22 (fb 26 1) HT_ ?_
        refine tk 1 23 (fb 26 3) HT_ HW_ hHeld ?_
        refine one_ (i := 2) (N := some 24) (fb 26 7) rfl rfl (one_of HT_.out (by kernel_rfl)) (by decide) (fun K hK => ?_)
        refine gs _ (#[.string ((rd_T45 l0_0 x3_1).f0)]) Tryd.func48 ?_
        with_reducible refine (spec_ValidPath.calls k1 ((rd_T45 l0_0 x3_1).f0) false _ A14.out).mono ?_
        rintro e w32 ⟨rfl, hb⟩
        refine ⟨_, rfl, ?_⟩
        refine Ya3 (bb BK122 hb) (bb BK124 hb) (below_step (be2 HB.out GE122.out GE124.out) hb) ?_
        clear BK122 BK124 HB
        intro BK122 BK124 HB
        (try clear hb)
        (try clear hb2)
        (try clear hk)
        (try clear hi)
        refine hK.out _ _ ⟨(blk_cell BK124.out 0).trans rfl, (blk_cell BK124.out 1).trans rfl, (blk_cell BK124.out 2).trans rfl⟩ (fun hHeld => ?_)
        clear hK K
        refine norm_ (a' := ?_) ?_ ?_
        rotate_left
        ·show Act.put _ (some 24) _ = _
         simp only [Act.put, List.setIfInBounds_toArray, List.set_cons_zero, List.set_cons_succ, i64_w, i32_w]
         rfl
        refine pu 3 25 (fb 26 15) HT_ ?_
        refine pu 4 26 (fb 26 31) HT_ ?_
        refine pn 5 27 (fb 26 63) HT_ ?_
        refine pn 6 28 (fb 26 127) HT_ ?_
        refine pn 7 29 (fb 26 255) HT_ ?_
        refine pn 8 30 (fb 26 511) HT_ ?_
        refine pu 9 31 (fb 26 1023) HT_ ?_
        refine pu 10 32 (fb 26 2047) HT_ ?_
        refine pn 11 33 (fb 26 4095) HT_ ?_
        refine pn 12 34 (fb 26 8191) HT_ ?_
        refine pn 13 35 (fb 26 16383) HT_ ?_
        refine pn 14 36 (fb 26 32767) HT_ ?_
        refine pn 15 37 (fb 26 65535) HT_ ?_
        refine pn 16 38 (fb 26 131071) HT_ ?_
        refine pn 17 39 (fb 26 262143) HT_ ?_
        refine pn 18 40 (fb 26 524287) HT_ ?_
        refine pn 19 41 (fb 26 1048575) HT_ ?_
        refine pn 20 42 (fb 26 2097151) HT_ ?_
        refine pn 21 43 (fb 26 4194303) HT_ ?_
        refine pn 22 44 (fb 26 8388607) HT_ ?_
        refine pn 23 45 (fb 26 16777215) HT_ ?_
        refine pn 24 46 (fb 26 33554431) HT_ ?_
        refine pu 25 47 (fb 26 67108863) HT_ ?_
        refine done_ (done_of HT_.out (by kernel_rfl)) ?_
        try go_wp2
        go_meet
        case rel => exact ⟨_, (true), Ye1, H', ⟨by have := HK1.out; first | omega | exact Nat.le_refl _⟩, ⟨bk BK122.out⟩, ⟨bk BK124.out⟩, ⟨be2 HB.out GE122.out GE124.out⟩⟩
      case rest =>
       clear HC9
       try clear c1
       try clear c2
       try clear p2
       try clear c4
       try clear c15
       try clear c20
       try clear c20b0
       try clear c22
       try clear c23
       obtain ⟨kq, x47_8, rfl, HA, HJ8, BK122, BK124, HB⟩ := hcut
       cases kq with
       | zero => exact absurd HA.out (by simp [spec_ValidTree.j1])
       | succ kj8 =>
        have H := HA.out
        clear HA
        simp only [spec_ValidTree.j1] at H
        by_cases c33 : x47_8 = true
        ·subst c33
         have H1 : (some false) = some r := by rw [if_pos rfl] at H; exact H
         clear H
         have H := H1
         clear H1
         obtain rfl := Option.some.inj H
         go_wp2
         go_ret
         exact ⟨Ye2, (by first | exact be2 HB.out GE122.out GE124.out | exact be1 HB.out GE122.out | exact be HB.out)⟩
        ·replace c33 := Bool.eq_false_iff.mpr c33
         subst c33
         have H1 : (spec_ValidTree.l1 kj8 x3_1 0 l0_0 ((rd_T45 l0_0 x3_1).f0) ((rd_T45 l0_0 x3_1).f1) ((rd_T45 l0_0 x3_1).f2)) = some r := by rw [if_neg (show ¬ (false = true) by decide)] at H; exact H
         clear H
         have H := H1
         clear H1
         have H' := Aside0.mk H
         clear H
         go_wp2
         go_loopg [5] kj8 (fun kq v5 w' => ∃ (x5_3 : Int), v5 = .int .i64 x5_3 ∧ Aside0 (spec_ValidTree.l1 kq x3_1 x5_3 l0_0 ((rd_T45 l0_0 x3_1).f0) ((rd_T45 l0_0 x3_1).f1) ((rd_T45 l0_0 x3_1).f2) = some r) ∧ Aside0 (kq ≤ kj8) ∧ Aside0 (w'.heap[gb122]? = some (.cells #[(.slice (some ad123) l0_0.length c0_0)] 29 (0, 0))) ∧ Aside0 (w'.heap[gb124]? = some (.cells #[.string ((rd_T45 l0_0 x3_1).f0), .string ((rd_T45 l0_0 x3_1).f1), .bool ((rd_T45 l0_0 x3_1).f2)] 45 (0, 0))) ∧ Aside0 (Below w.heap.size w w'))
         case atStart => exact ⟨(0), Ye1, H', ⟨Nat.le_refl _⟩, ⟨bk BK122.out⟩, ⟨bk BK124.out⟩, ⟨be2 HB.out GE122.out GE124.out⟩⟩
         case round =>
          clear H'
          try clear c1
          try clear c2
          try clear p2
          try clear c3
          try clear c4
          try clear c15
          try clear c20
          try clear c20b0
          try clear c22
          try clear c23
          try clear c33
          try clear p2
          obtain ⟨x5_3, rfl, HA, HK3, BK122, BK124, HB⟩ := hrel
          cases gk with
          | zero => exact absurd HA.out (by simp [spec_ValidTree.l1])
          | succ k3 =>
           have H := HA.out
           clear HA
           simp only [spec_ValidTree.l1] at H
           by_cases c34 : x5_3 < x3_1
           ·rw [if_pos c34] at H
            have c34b0 : decide (x5_3 < x3_1) = true := decide_eq_true c34
            clear c34
            by_cases c35 : 0 ≤ x5_3
            ·rw [if_pos c35] at H
             have c35b0 : decide (0 ≤ x5_3) = true := decide_eq_true c35
             clear c35
             by_cases c36 : x5_3 < (l0_0.length : Int)
             ·rw [if_pos c36] at H
              have c36b0 : decide (x5_3 < (l0_0.length : Int)) = true := decide_eq_true c36
              clear c36
              replace H := Option.bind_eq_some_iff.mp H
              obtain ⟨t128, A370, H⟩ := H
              replace H : (if t128 = true then (some false) else (spec_ValidTree.l1 k3 x3_1 (wrap64 (x5_3 + 1)) l0_0 ((rd_T45 l0_0 x3_1).f0) ((rd_T45 l0_0 x3_1).f1) ((rd_T45 l0_0 x3_1).f2))) = some r := H
              have A37 := Aside0.mk A370
              clear A370
              by_cases c38 : t128 = true
              ·subst c38
               have H1 : (some false) = some r := by rw [if_pos rfl] at H; exact H
               clear H
               have H := H1
               clear H1
               obtain rfl := Option.some.inj H
               try go_wp2
               refine Ya3 (blk_drew BK122.out) (blk_drew BK124.out) (below_drew1 HB.out) ?_
               clear BK122 BK124 HB
               intro BK122 BK124 HB
               have p127 : 0 ≤ (x5_3 : Int) := oda
               have q127 : x5_3 < (l0_0.length : Int) := oda
               obtain ⟨ad127, e127, hx127_0, hx127_1, hx127_2⟩ := at_T45 HR0_0.out x5_3 p127 q127
               have hw127_2 := hx127_2
               have hw127_1 := hx127_1
               have hw127_0 := hx127_0
               obtain rfl : ad123 = ad127 := (by injection e127)
               replace hx127_0 := pw_cell_below HB.out hx127_0
               replace hx127_1 := pw_cell_below HB.out hx127_1
               replace hx127_2 := pw_cell_below HB.out hx127_2
               replace p127 := eq_true p127
               replace q127 := eq_true q127
               refine start_ (n := 9) (S := fun w' => w'.cell? ⟨gb122, 0, none⟩ = some (.slice (some ad123) l0_0.length c0_0) ∧ w'.cell? ⟨gb124, 0, none⟩ = some (.string ((rd_T45 l0_0 x3_1).f0)) ∧ w'.cell? ⟨gb124, 1, none⟩ = some (.string ((rd_T45 l0_0 x3_1).f1)) ∧ w'.cell? ⟨gb124, 2, none⟩ = some (.bool ((rd_T45 l0_0 x3_1).f2)) ∧ w'.cell? (ad123.add ((x5_3).toNat * 3)) = some (.string ((rd_T45 l0_0 x5_3).f0)) ∧ w'.cell? ⟨(ad123.add ((x5_3).toNat * 3)).block, (ad123.add ((x5_3).toNat * 3)).off + 1, none⟩ = some (.string ((rd_T45 l0_0 x5_3).f1)) ∧ w'.cell? ⟨(ad123.add ((x5_3).toNat * 3)).block, (ad123.add ((x5_3).toNat * 3)).off + 2, none⟩ = some (.bool ((rd_T45 l0_0 x5_3).f2))) (ds := []) (fb 9 0) (by kernel_rfl) rfl rfl ⟨(blk_cell BK122.out 0).trans rfl, (blk_cell BK124.out 0).trans rfl, (blk_cell BK124.out 1).trans rfl, (blk_cell BK124.out 2).trans rfl, (pw_cell_below HB.out hw127_0), (pw_cell_below HB.out hw127_1), (pw_cell_below HB.out hw127_2)⟩ (fun hHeld => ?_); refine with_tabW spec_ValidTree.tab12 spec_ValidTree.bits12 (fun HT_ HW_ => ?_)
               generalize wr.drew = w39 at BK122 BK124 HB hx127_0 hx127_1 hx127_2 hHeld ⊢
               refine pu 0 53 (fb 9 1) HT_ ?_
               refine pu 2 55 (fb 9 5) HT_ ?_
               refine pu 6 59 (fb 9 69) HT_ ?_
               refine tk 1 54 (fb 9 71) HT_ HW_ hHeld ?_
               refine pu 3 56 (fb 9 79) HT_ ?_
               refine pu 4 57 (fb 9 95) HT_ ?_
               refine tk 5 58 (fb 9 127) HT_ HW_ hHeld ?_
               refine tk 7 60 (fb 9 255) HT_ HW_ hHeld ?_
               refine one_ (i := 8) (N := some 61) (fb 9 511) rfl rfl (one_of HT_.out (by kernel_rfl)) (by decide) (fun K hK => ?_)
               refine gs _ (#[.string ((rd_T45 l0_0 x5_3).f0), .string ((rd_T45 l0_0 x3_1).f0)]) Tryd.func49 ?_
               with_reducible refine (spec_l5Begins.calls ((rd_T45 l0_0 x5_3).f0) ((rd_T45 l0_0 x3_1).f0) true _ A37.out).mono ?_
               rintro e w' ⟨rfl, ⟨nd, rfl⟩⟩
               refine ⟨_, rfl, ?_⟩
               refine hK.out _ _ ⟨(blk_cell BK122.out 0).trans rfl, (blk_cell BK124.out 0).trans rfl, (blk_cell BK124.out 1).trans rfl, (blk_cell BK124.out 2).trans rfl, (pw_cell_below HB.out hw127_0), (pw_cell_below HB.out hw127_1), (pw_cell_below HB.out hw127_2)⟩ (fun hHeld => ?_)
               clear hK K
               refine norm_ (a' := ?_) ?_ ?_
               rotate_left
               ·show Act.put _ (some 61) _ = _
                simp only [Act.put, List.setIfInBounds_toArray, List.set_cons_zero, List.set_cons_succ, i64_w, i32_w]
                rfl
               refine done_ (done_of HT_.out (by kernel_rfl)) ?_
               try go_wp2
               go_ret
               exact ⟨Ye2, (by first | exact be2 HB.out GE122.out GE124.out | exact be1 HB.out GE122.out | exact be HB.out)⟩
              ·replace c38 := Bool.eq_false_iff.mpr c38
               subst c38
               have H1 : (spec_ValidTree.l1 k3 x3_1 (wrap64 (x5_3 + 1)) l0_0 ((rd_T45 l0_0 x3_1).f0) ((rd_T45 l0_0 x3_1).f1) ((rd_T45 l0_0 x3_1).f2)) = some r := by rw [if_neg (show ¬ (false = true) by decide)] at H; exact H
               clear H
               have H := H1
               clear H1
               have H' := Aside0.mk H
               clear H
               try go_wp2
               refine Ya3 (blk_drew BK122.out) (blk_drew BK124.out) (below_drew1 HB.out) ?_
               clear BK122 BK124 HB
               intro BK122 BK124 HB
               have p127 : 0 ≤ (x5_3 : Int) := oda
               have q127 : x5_3 < (l0_0.length : Int) := oda
               obtain ⟨ad127, e127, hx127_0, hx127_1, hx127_2⟩ := at_T45 HR0_0.out x5_3 p127 q127
               have hw127_2 := hx127_2
               have hw127_1 := hx127_1
               have hw127_0 := hx127_0
               obtain rfl : ad123 = ad127 := (by injection e127)
               replace hx127_0 := pw_cell_below HB.out hx127_0
               replace hx127_1 := pw_cell_below HB.out hx127_1
               replace hx127_2 := pw_cell_below HB.out hx127_2
               replace p127 := eq_true p127
               replace q127 := eq_true q127
               refine start_ (n := 9) (S := fun w' => w'.cell? ⟨gb122, 0, none⟩ = some (.slice (some ad123) l0_0.length c0_0) ∧ w'.cell? ⟨gb124, 0, none⟩ = some (.string ((rd_T45 l0_0 x3_1).f0)) ∧ w'.cell? ⟨gb124, 1, none⟩ = some (.string ((rd_T45 l0_0 x3_1).f1)) ∧ w'.cell? ⟨gb124, 2, none⟩ = some (.bool ((rd_T45 l0_0 x3_1).f2)) ∧ w'.cell? (ad123.add ((x5_3).toNat * 3)) = some (.string ((rd_T45 l0_0 x5_3).f0)) ∧ w'.cell? ⟨(ad123.add ((x5_3).toNat * 3)).block, (ad123.add ((x5_3).toNat * 3)).off + 1, none⟩ = some (.string ((rd_T45 l0_0 x5_3).f1)) ∧ w'.cell? ⟨(ad123.add ((x5_3).toNat * 3)).block, (ad123.add ((x5_3).toNat * 3)).off + 2, none⟩ = some (.bool ((rd_T45 l0_0 x5_3).f2))) (ds := []) (fb 9 0) (by kernel_rfl) rfl rfl ⟨(blk_cell BK122.out 0).trans rfl, (blk_cell BK124.out 0).trans rfl, (blk_cell BK124.out 1).trans rfl, (blk_cell BK124.out 2).trans rfl, (pw_cell_below HB.out hw127_0), (pw_cell_below HB.out hw127_1), (pw_cell_below HB.out hw127_2)⟩ (fun hHeld => ?_); refine with_tabW spec_ValidTree.tab12 spec_ValidTree.bits12 (fun HT_ HW_ => ?_)
               generalize wr.drew = w40 at BK122 BK124 HB hx127_0 hx127_1 hx127_2 hHeld ⊢
               refine pu 0 53 (fb 9 1) HT_ ?_
               refine pu 2 55 (fb 9 5) HT_ ?_
               refine pu 6 59 (fb 9 69) HT_ ?_
               refine tk 1 54 (fb 9 71) HT_ HW_ hHeld ?_
               refine pu 3 56 (fb 9 79) HT_ ?_
               refine pu 4 57 (fb 9 95) HT_ ?_
               refine tk 5 58 (fb 9 127) HT_ HW_ hHeld ?_
               refine tk 7 60 (fb 9 255) HT_ HW_ hHeld ?_
               refine one_ (i := 8) (N := some 61) (fb 9 511) rfl rfl (one_of HT_.out (by kernel_rfl)) (by decide) (fun K hK => ?_)
               refine gs _ (#[.string ((rd_T45 l0_0 x5_3).f0), .string ((rd_T45 l0_0 x3_1).f0)]) Tryd.func49 ?_
               with_reducible refine (spec_l5Begins.calls ((rd_T45 l0_0 x5_3).f0) ((rd_T45 l0_0 x3_1).f0) false _ A37.out).mono ?_
               rintro e w' ⟨rfl, ⟨nd, rfl⟩⟩
               refine ⟨_, rfl, ?_⟩
               refine hK.out _ _ ⟨(blk_cell BK122.out 0).trans rfl, (blk_cell BK124.out 0).trans rfl, (blk_cell BK124.out 1).trans rfl, (blk_cell BK124.out 2).trans rfl, (pw_cell_below HB.out hw127_0), (pw_cell_below HB.out hw127_1), (pw_cell_below HB.out hw127_2)⟩ (fun hHeld => ?_)
               clear hK K
               refine norm_ (a' := ?_) ?_ ?_
               rotate_left
               ·show Act.put _ (some 61) _ = _
                simp only [Act.put, List.setIfInBounds_toArray, List.set_cons_zero, List.set_cons_succ, i64_w, i32_w]
                rfl
               refine done_ (done_of HT_.out (by kernel_rfl)) ?_
               try go_wp2
               go_roundg k3
               case measure => have := HK1.out; have := HJ8.out; have := HK3.out; omega
               case rel => exact ⟨(wrap64 (x5_3 + 1)), Ye1, H', ⟨by have := HK1.out; have := HJ8.out; have := HK3.out; omega⟩, ⟨bk BK122.out⟩, ⟨bk BK124.out⟩, ⟨be2 HB.out GE122.out GE124.out⟩⟩
             ·rw [if_neg c36] at H
              exact absurd H (by simp)
            ·rw [if_neg c35] at H
             exact absurd H (by simp)
           ·rw [if_neg c34] at H
            have c34b0 : decide (x5_3 < x3_1) = false := decide_eq_false c34
            clear c34
            have H' := Aside0.mk H
            clear H
            go_wp2
            go_roundg k3
            case measure => have := HK1.out; have := HJ8.out; have := HK3.out; omega
            case rel => exact ⟨(wrap64 (x3_1 + 1)), Ye1, H', ⟨by have := HK1.out; have := HJ8.out; have := HK3.out; omega⟩, ⟨bk BK122.out⟩, ⟨be2 HB.out GE122.out GE124.out⟩⟩
     ·rw [if_neg c8] at H
      exact absurd H (by simp)
    ·rw [if_neg c7] at H
     have c7b0 : decide (x3_1 < (l0_0.length : Int)) = false := decide_eq_false c7
     clear c7
     obtain rfl := Option.some.inj H
     have ⟨hcz41_0, hfz41_0⟩ := Yc1 BK122.out
     go_wp2
     go_ret
     exact ⟨Ye2, (by first | exact be1 HB.out GE122.out | exact be HB.out)⟩

end Go.Proofs.YtkdghhkpmkfjhaaDoor.P


namespace Go.Proofs.YtkdghhkpmkfjhaaDoor.P
open Go.RowKit Go.Proofs.YtkdghhkpmkfjhaaDoorW.PrintWords Go.Proofs.YtkdghhkpmkfjhaaDoorW.PrintLast Go.Proofs.YtkdghhkpmkfjhaaDoorW.PrintMore
attribute [local go_sem] max2_int min2_int max_two min_two max_three min_three max_four min_four
set_option linter.unusedVariables false
set_option linter.unusedSimpArgs false

/-! ### spec_Remove: function 33 -/
def spec_Remove.l0 : Nat → ByteArray → Int → List (S45) → List (S45) → Option ((List (S45)) × Int)
 | 0, _, _, _, _ => none
 | k + 1, x1, x7, x465000, x468000 => if x7 < (x465000.length : Int) then (if 0 ≤ x7 then (if ((rd_T45 x465000 x7).f0).toList = x1.toList then (spec_Remove.l0 k x1 (wrap64 (x7 + 1)) x465000 x468000) else (if x468000.length < 3518437208883 then (spec_Remove.l0 k x1 (wrap64 (x7 + 1)) x465000 (x468000 ++ [(⟨(rd_T45 x465000 x7).f0, (rd_T45 x465000 x7).f1, (rd_T45 x465000 x7).f2⟩ : S45)])) else (none))) else (none)) else (if (x468000.length : Int) = (x465000.length : Int) then (some (([] : List (S45)), 4)) else (some (x468000, 0)))
def spec_Remove.f (k : Nat) (l0_0 : List (S45)) (a1 : ByteArray) : Option ((List (S45)) × Int) := (spec_ValidTree.f k l0_0).bind fun t466 => (if t466 = true then (spec_Remove.l0 k a1 0 l0_0 ([] : List (S45))) else (some (([] : List (S45)), 1)))
theorem spec_Remove.mono_l : ∀ k, (∀ y0 y1 y2 y3, LeO (spec_Remove.l0 k y0 y1 y2 y3) (spec_Remove.l0 (k + 1) y0 y1 y2 y3))
 | 0 => fun _ _ _ _ r h => by simp [spec_Remove.l0] at h
 | k + 1 => by
  have ih0 := spec_Remove.mono_l k
  ·intro y0 y1 y2 y3
   unfold spec_Remove.l0
   repeat' first
   | (with_reducible exact ih0 _ _ _ _)
   | (with_reducible exact spec_ValidTree.mono _ _)
   | (with_reducible exact LeO.refl _)
   | (with_reducible exact LeO.none _)
   | (with_reducible refine LeO.ite ?_ ?_)
   | (with_reducible refine LeO.bind ?_ (fun _ => ?_))
   | exact ih0 _ _ _ _
   | exact spec_ValidTree.mono _ _
   | exact LeO.none _
   | refine LeO.ite ?_ ?_
   | refine LeO.bind ?_ (fun _ => ?_)
theorem spec_Remove.mono : ∀ a0 a1 k, LeO (spec_Remove.f k a0 a1) (spec_Remove.f (k + 1) a0 a1) := by
 intro a0 a1 k
 have ih0 := spec_Remove.mono_l k
 unfold spec_Remove.f
 repeat' first
   | (with_reducible exact ih0 _ _ _ _)
   | (with_reducible exact spec_ValidTree.mono _ _)
   | (with_reducible exact LeO.refl _)
   | (with_reducible exact LeO.none _)
   | (with_reducible refine LeO.ite ?_ ?_)
   | (with_reducible refine LeO.bind ?_ (fun _ => ?_))
   | exact ih0 _ _ _ _
   | exact spec_ValidTree.mono _ _
   | exact LeO.none _
   | refine LeO.ite ?_ ?_
   | refine LeO.bind ?_ (fun _ => ?_)
def spec_Remove.T8 : Bool × List (List Nat × List Nat) := (true, [([], []), ([0], [0]), ([], []), ([2], [2]), ([], []), ([3, 4], [3, 4]), ([5], [5]), ([6], [6]), ([1, 7], [1, 7]), ([0, 1, 2, 3, 4, 5, 6, 7, 8], []), ([9, 8, 8, 0, 1, 2, 3, 4, 5, 6, 7, 8], [8, 9])])
def spec_Remove.B8 : List Nat := [0, 1, 0, 4, 0, 28, 60, 124, 255, 511, 1023]
theorem spec_Remove.tab8 : rtab .any (opsOf Tryd.f33 8) = spec_Remove.T8 := by kernel_rfl
theorem spec_Remove.bits8 : waitsOk spec_Remove.T8.2 spec_Remove.B8 = true := by kernel_rfl
set_option maxHeartbeats 8000000 in
set_option maxRecDepth 100000 in
theorem spec_Remove.calls (k : Nat) (A0_0 : Option Addr) (c0_0 : Nat) (l0_0 : List (S45)) (a1 : ByteArray) (r1 : List (S45)) (r2 : Int) (w : World) (hr0_0 : Kd.C k45 w A0_0 l0_0.length l0_0) (hc0_0 : l0_0.length ≤ c0_0) (h : spec_Remove.f k l0_0 a1 = some (r1, r2)) :
  Calls Tryd.prog 33 #[.agg #[.slice A0_0 l0_0.length c0_0], .string a1] w fun e w' => ∃ v0_ : Value, e = .returned (.tuple #[.agg #[v0_], .int .i64 r2]) ∧ Kd.R k45 45 w' w.heap.size (fun _ => True) v0_ r1 ∧ Below w.heap.size w w' := by
 have hu29 := Tryd.underlying29
 have hu45 := Tryd.underlying45
 have HR0_0 := Aside0.mk hr0_0
 have HC0_0 := Aside0.mk hc0_0
 clear hr0_0 hc0_0
 have HB := Aside0.mk (Below.refl w.heap.size w)
 have H : ((spec_ValidTree.f k l0_0).bind fun t466 => (if t466 = true then (spec_Remove.l0 k a1 0 l0_0 ([] : List (S45))) else (some (([] : List (S45)), 1)))) = some (r1, r2) := h
 clear h
 replace H := Option.bind_eq_some_iff.mp H
 obtain ⟨t466, A30, H⟩ := H
 replace H : (if t466 = true then (spec_Remove.l0 k a1 0 l0_0 ([] : List (S45))) else (some (([] : List (S45)), 1))) = some (r1, r2) := H
 have A3 := Aside0.mk A30
 clear A30
 by_cases c4 : t466 = true
 ·subst c4
  have H1 : (spec_Remove.l0 k a1 0 l0_0 ([] : List (S45))) = some (r1, r2) := by rw [if_pos rfl] at H; exact H
  clear H
  have H := H1
  clear H1
  have H' := Aside0.mk H
  clear H
  go_enter Tryd.func33, Tryd.ntmps33
  go_wp2_with (first | ((with_reducible refine gd 2 rfl ?_); refine bx 2 29 (#[.slice A0_0 l0_0.length c0_0]) ?_; intro gb464 hg w5 hbox hb; refine Ya4 (below_step (be HB.out) hb) (hbox) (bs hg (be HB.out)) (bs hg (be HB.out)) ?_; clear HB; intro HB BK464 GW464 GE464; clear hb hbox hg) | ((with_reducible refine gd 4 rfl ?_); refine bx 4 29 (#[.slice none 0 0]) ?_; intro gb465 hg w6 hbox hb; refine Ya7 (bb BK464 hb) (below_step (be1 HB.out GE464.out) hb) (hbox) (bs hg (be1 HB.out GE464.out)) (bs hg (be1 HB.out GE464.out)) (bl hg BK464) (br hg BK464) ?_; clear BK464 HB; intro BK464 HB BK465 GW465 GE465 NB464_465 NB465_464; clear hb hbox hg; have hnb7 := NB464_465.out; have hnc7 := NB465_464.out; have ⟨hcz8_0, hfz8_0⟩ := Yc1 BK464.out) | ((with_reducible refine gc 13 rfl ?_); refine gl (some 9) _ (#[.agg #[.slice A0_0 l0_0.length c0_0]]) Tryd.func13 ?_; (with_reducible refine (spec_ValidTree.calls k _ _ l0_0 true _ ?side1 ?side2 A3.out).mono ?_); (case side1 => exact cb (Kd.C_below HR0_0.out HB.out)); (case side2 => exact HC0_0.out); rintro e w9 ⟨rfl, hb⟩; refine ⟨_, rfl, ?_⟩; refine Ya3 (bb BK464 hb) (bb BK465 hb) (below_step (be2 HB.out GE464.out GE465.out) hb) ?_; clear BK464 BK465 HB; intro BK464 BK465 HB; (try clear hb); (try clear hb2); (try clear hk); (try clear hi)) | ((with_reducible refine gd 6 rfl ?_); refine bx 6 29 (#[.slice none 0 0]) ?_; intro gb467 hg w10 hbox hb; have n0_ := Aside0.mk (bb BK464 hb); have n1_ := Aside0.mk (bb BK465 hb); have n2_ := Aside0.mk (below_step (be2 HB.out GE464.out GE465.out) hb); have n3_ := Aside0.mk (hbox); have n4_ := Aside0.mk (bs hg (be2 HB.out GE464.out GE465.out)); have n5_ := Aside0.mk (bs hg (be2 HB.out GE464.out GE465.out)); have n6_ := Aside0.mk (bl hg BK464); have n7_ := Aside0.mk (br hg BK464); have n8_ := Aside0.mk (bl hg BK465); have n9_ := Aside0.mk (br hg BK465); clear BK464; clear BK465; clear HB; have BK464 := n0_; have BK465 := n1_; have HB := n2_; have BK467 := n3_; have GW467 := n4_; have GE467 := n5_; have NB464_467 := n6_; have NB467_464 := n7_; have NB465_467 := n8_; have NB467_465 := n9_; clear n0_ n1_ n2_ n3_ n4_ n5_ n6_ n7_ n8_ n9_; clear hb hbox hg; have hnb11 := NB467_464.out; have hnc11 := NB464_467.out; have hnb12 := NB467_465.out; have hnc12 := NB465_467.out; have ⟨hcz13_0, hfz13_0⟩ := Yc1 BK467.out))
  go_loopg [7] k (fun kq v7 w' => ∃ (x7_1 : Int) (x468000_1 : List (S45)) (u468000 : Value), v7 = .int .i64 x7_1 ∧ Aside0 (spec_Remove.l0 kq a1 x7_1 l0_0 x468000_1 = some (r1, r2)) ∧ Aside0 (kq ≤ k) ∧ Aside0 (Kd.R k45 45 w' w.heap.size (fun _ => True) u468000 x468000_1) ∧ Aside0 (w'.heap[gb464]? = some (.cells #[(.slice A0_0 l0_0.length c0_0)] 29 (0, 0))) ∧ Aside0 (w'.heap[gb465]? = some (.cells #[(.slice none 0 0)] 29 (0, 0))) ∧ Aside0 (w'.heap[gb467]? = some (.cells #[u468000] 29 (0, 0))) ∧ Aside0 (Below w.heap.size w w'))
  case atStart => exact ⟨(0), (([] : List (S45))), (.slice none 0 0), Ye1, H', ⟨Nat.le_refl _⟩, ⟨nl⟩, ⟨bkf BK464.out NB464_467.out⟩, ⟨bkf BK465.out NB465_467.out⟩, ⟨by (with_reducible repeat (first | refine blk_drewN ?_ _ | refine blk_drew ?_ | refine blk_alloc ?_ _)); refine blk_put (cs := #[.slice none 0 0]) ?_ 0 _ rfl; (with_reducible repeat (first | refine blk_drewN ?_ _ | refine blk_drew ?_ | refine blk_alloc ?_ _)); exact BK467.out⟩, ⟨be3 HB.out GE464.out GE465.out GE467.out⟩⟩
  case round =>
   clear H'
   try clear c1
   try clear p2
   try clear c3
   try clear c4
   try clear c7
   try clear c11
   try clear c12
   try clear c13
   try clear hcz13_0
   try clear hcz8_0
   try clear hfz13_0
   try clear hfz8_0
   obtain ⟨x7_1, x468000_1, u468000, rfl, HA, HK1, HO_468000, BK464, BK465, BK467, HB⟩ := hrel
   cases gk with
   | zero => exact absurd HA.out (by simp [spec_Remove.l0])
   | succ k1 =>
    have H := HA.out
    clear HA
    simp only [spec_Remove.l0] at H
    by_cases c14 : x7_1 < (l0_0.length : Int)
    ·rw [if_pos c14] at H
     have c14b0 : decide (x7_1 < (l0_0.length : Int)) = true := decide_eq_true c14
     clear c14
     by_cases c15 : 0 ≤ x7_1
     ·rw [if_pos c15] at H
      have c15b0 : decide (0 ≤ x7_1) = true := decide_eq_true c15
      clear c15
      by_cases c16 : ((rd_T45 l0_0 x7_1).f0).toList = a1.toList
      ·rw [if_pos c16] at H
       have c16b0 : (((rd_T45 l0_0 x7_1).f0).toList == a1.toList) = true := beq_iff_eq.mpr c16
       have c16b1 : (((rd_T45 l0_0 x7_1).f0).toList != a1.toList) = false := bne_eq_false_iff_eq.mpr c16
       clear c16
       have H' := Aside0.mk H
       clear H
       have hnb17 := NB464_465.out
       have hnc17 := NB465_464.out
       have hnb18 := NB464_467.out
       have hnc18 := NB467_464.out
       have ⟨hcz19_0, hfz19_0⟩ := Yc1 BK464.out
       have p468 : 0 ≤ (x7_1 : Int) := oda
       have q468 : x7_1 < (l0_0.length : Int) := oda
       obtain ⟨ad468, e468, hx468_0, hx468_1, hx468_2⟩ := at_T45 (Kd.C_below HR0_0.out HB.out) x7_1 p468 q468
       cases e468
       replace p468 := eq_true p468
       replace q468 := eq_true q468
       go_wp2
       go_roundg k1
       case measure => have := HK1.out; omega
       case rel => exact ⟨(wrap64 (x7_1 + 1)), (x468000_1), (u468000), Ye1, H', ⟨by have := HK1.out; omega⟩, ⟨kr HO_468000.out⟩, ⟨bk BK464.out⟩, ⟨bk BK465.out⟩, ⟨bk BK467.out⟩, ⟨be3 HB.out GE464.out GE465.out GE467.out⟩⟩
      ·rw [if_neg c16] at H
       have c16b0 : (((rd_T45 l0_0 x7_1).f0).toList == a1.toList) = false := beq_eq_false_iff_ne.mpr c16
       have c16b1 : (((rd_T45 l0_0 x7_1).f0).toList != a1.toList) = true := bne_iff_ne.mpr c16
       by_cases c20 : x468000_1.length < 3518437208883
       ·rw [if_pos c20] at H
        have LMc20 := Aside0.mk c20
        clear c20
        obtain ⟨y470, hy470⟩ : ∃ y_ : List (S45), y_ = (x468000_1 ++ [(⟨(rd_T45 l0_0 x7_1).f0, (rd_T45 l0_0 x7_1).f1, (rd_T45 l0_0 x7_1).f2⟩ : S45)]) := ⟨_, rfl⟩
        replace H : (spec_Remove.l0 k1 a1 (wrap64 (x7_1 + 1)) l0_0 y470) = some (r1, r2) := by first | (rw [hy470]; with_reducible exact H) | (have H2_ := (Option.bind_some _ _).symm.trans H; rw [hy470]; with_reducible exact H2_) | (have H2_ := (Option.bind_some _ _).symm.trans H; with_reducible exact H2_) | with_reducible exact H | (rw [hy470]; exact H) | exact H
        have Ny470 := Aside0.mk hy470
        clear hy470
        have H' := Aside0.mk H
        clear H
        have hnb21 := NB464_465.out
        have hnc21 := NB465_464.out
        have hnb22 := NB464_467.out
        have hnc22 := NB467_464.out
        have ⟨hcz23_0, hfz23_0⟩ := Yc1 BK464.out
        have p468 : 0 ≤ (x7_1 : Int) := oda
        have q468 : x7_1 < (l0_0.length : Int) := oda
        obtain ⟨ad468, e468, hx468_0, hx468_1, hx468_2⟩ := at_T45 (Kd.C_below HR0_0.out HB.out) x7_1 p468 q468
        cases e468
        replace p468 := eq_true p468
        replace q468 := eq_true q468
        try go_wp2
        refine Ya5 (Kd.R_drew HO_468000.out) (blk_drew BK464.out) (blk_drew BK465.out) (blk_drew BK467.out) (below_drew1 HB.out) ?_
        clear HO_468000 BK464 BK465 BK467 HB
        intro HO_468000 BK464 BK465 BK467 HB
        have p469 : 0 ≤ (x7_1 : Int) := oda
        have q469 : x7_1 < (l0_0.length : Int) := oda
        obtain ⟨ad469, e469, hx469_0, hx469_1, hx469_2⟩ := at_T45 HR0_0.out x7_1 p469 q469
        have hw469_2 := hx469_2
        have hw469_1 := hx469_1
        have hw469_0 := hx469_0
        obtain rfl : ad468 = ad469 := (by injection e469)
        replace hx469_0 := pw_cell_below HB.out hx469_0
        replace hx469_1 := pw_cell_below HB.out hx469_1
        replace hx469_2 := pw_cell_below HB.out hx469_2
        replace p469 := eq_true p469
        replace q469 := eq_true q469
        refine start_ (n := 11) (S := fun w' => w'.cell? ⟨gb467, 0, none⟩ = some (u468000) ∧ w'.cell? ⟨gb464, 0, none⟩ = some (.slice (some ad468) l0_0.length c0_0) ∧ w'.cell? (ad468.add ((x7_1).toNat * 3)) = some (.string ((rd_T45 l0_0 x7_1).f0)) ∧ w'.cell? ⟨(ad468.add ((x7_1).toNat * 3)).block, (ad468.add ((x7_1).toNat * 3)).off + 1, none⟩ = some (.string ((rd_T45 l0_0 x7_1).f1)) ∧ w'.cell? ⟨(ad468.add ((x7_1).toNat * 3)).block, (ad468.add ((x7_1).toNat * 3)).off + 2, none⟩ = some (.bool ((rd_T45 l0_0 x7_1).f2))) (ds := [10]) (fb 11 0) (by kernel_rfl) rfl rfl ⟨(blk_cell BK467.out 0).trans rfl, (blk_cell BK464.out 0).trans rfl, (pw_cell_below HB.out hw469_0), (pw_cell_below HB.out hw469_1), (pw_cell_below HB.out hw469_2)⟩ (fun hHeld => ?_); refine with_tabW spec_Remove.tab8 spec_Remove.bits8 (fun HT_ HW_ => ?_)
        generalize wr.drew = w24 at HO_468000 BK464 BK465 BK467 HB hx469_0 hx469_1 hx469_2 hHeld ⊢
        refine pu 0 28 (fb 11 1) HT_ ?_
        refine pu 2 30 (fb 11 5) HT_ ?_
        refine pu 4 32 (fb 11 21) HT_ ?_
        refine tk 1 29 (fb 11 23) HT_ HW_ hHeld ?_
        refine tk 3 31 (fb 11 31) HT_ HW_ hHeld ?_
        refine pu 5 33 (fb 11 63) HT_ ?_
        refine tk 6 34 (fb 11 127) HT_ HW_ hHeld ?_
        refine one_ (i := 7) (N := some 35) (fb 11 255) rfl rfl (one_of HT_.out (by kernel_rfl)) (by decide) (fun K hK => ?_)
        refine value_ (w1 := ?_) (v := ?_) (by rfl) rfl ?_ ?_
        rotate_left 2
        ·go_simp
         constructor
         ·rfl
         ·rfl
        refine hK.out _ _ ⟨(blk_cell (blk_alloc BK467.out _) 0).trans rfl, (blk_cell (blk_alloc BK464.out _) 0).trans rfl, (World.cell?_alloc_lt _ _ _ (World.block_lt_of_cell? _ _ ((pw_cell_below HB.out hw469_0)))).trans ((pw_cell_below HB.out hw469_0)), (World.cell?_alloc_lt _ _ _ (World.block_lt_of_cell? _ _ ((pw_cell_below HB.out hw469_1)))).trans ((pw_cell_below HB.out hw469_1)), (World.cell?_alloc_lt _ _ _ (World.block_lt_of_cell? _ _ ((pw_cell_below HB.out hw469_2)))).trans ((pw_cell_below HB.out hw469_2))⟩ (fun hHeld => ?_)
        clear hK K
        refine norm_ (a' := ?_) ?_ ?_
        rotate_left
        ·show Act.put _ (some 35) _ = _
         simp only [Act.put, List.setIfInBounds_toArray, List.set_cons_zero, List.set_cons_succ, i64_w, i32_w]
         rfl
        refine one_ (i := 8) (N := some 36) (fb 11 511) rfl rfl (one_of HT_.out (by kernel_rfl)) (by decide) (fun K hK => ?_)
        refine Kd.R_append_step k45 (w0 := w) w.heap.size (by rfl) (.tmp 29) (.tmp 35) 27 45 (.agg #[(.string ⟨#[]⟩), (.string ⟨#[]⟩), (.bool false)]) 40 rfl Tryd.underlying27 info45 rfl (by decide) (by omega) u468000 x468000_1 (⟨(rd_T45 l0_0 x7_1).f0, (rd_T45 l0_0 x7_1).f1, (rd_T45 l0_0 x7_1).f2⟩ : S45) [.string ((rd_T45 l0_0 x7_1).f0), .string ((rd_T45 l0_0 x7_1).f1), .bool ((rd_T45 l0_0 x7_1).f2)] (fun _ => True) (fun _ => False) rfl rfl ?aP (fun _ hk => hk.elim) ?aF ?aO ?aB ?aS ?aL ?_
        (case aP => exact k45_mkM _ _ _ (⟨(rd_T45 l0_0 x7_1).f0, (rd_T45 l0_0 x7_1).f1, (rd_T45 l0_0 x7_1).f2⟩ : S45))
        (case aB => exact (be3 HB.out GE464.out GE465.out GE467.out))
        (case aF => exact (fun _ _ => trivial))
        (case aO => exact (kr HO_468000.out))
        (case aS => exact (below_size (be3 HB.out GE464.out GE465.out GE467.out)))
        (case aL => have := LMc20.out; omega)
        intro v471 w25 ho hb hg hat
        rw [← Ny470.out] at ho
        refine Ya5 (blk_grown (g := gb464) (o := .cells #[.slice (some ad468) l0_0.length c0_0] 29 (0, 0)) (bk BK464.out) hg (Kd.R_ne HO_468000.out BK464.out (by decide))) (blk_grown (g := gb465) (o := .cells #[.slice none 0 0] 29 (0, 0)) (bk BK465.out) hg (Kd.R_ne HO_468000.out BK465.out (by decide))) (blk_grown (g := gb467) (o := .cells #[u468000] 29 (0, 0)) (bk BK467.out) hg (Kd.R_ne HO_468000.out BK467.out (by decide))) (hb) (ho) ?_
        clear BK464 BK465 BK467 HB HO_468000
        intro BK464 BK465 BK467 HB HO472
        clear ho hb hg hat
        obtain ⟨Ao26, co26, eo26⟩ := Kd.R_slice HO472.out
        (first | subst eo26 | (injection eo26 with f1_ f2_ f3_; have f4_ := f1_.symm; have f5_ := f3_.symm; clear f1_ f2_ f3_; subst f4_; subst f5_))
        refine hK.out _ _ ⟨(blk_cell BK467.out 0).trans rfl, (blk_cell BK464.out 0).trans rfl, (pw_cell_below HB.out hw469_0), (pw_cell_below HB.out hw469_1), (pw_cell_below HB.out hw469_2)⟩ (fun hHeld => ?_)
        clear hK K
        refine norm_ (a' := ?_) ?_ ?_
        rotate_left
        ·show Act.put _ (some 36) _ = _
         simp only [Act.put, List.setIfInBounds_toArray, List.set_cons_zero, List.set_cons_succ, i64_w, i32_w]
         rfl
        refine pu 9 37 (fb 11 1023) HT_ ?_
        refine last_ (i := 10) (N := none) (fb 11 2047) rfl rfl (one_of HT_.out (by kernel_rfl)) (by decide) (fun K hK => ?_)
        have hs27 : w25.cell? ⟨gb467, 0, none⟩ = some (u468000) := (blk_cell BK467.out 0).trans rfl
        have hfs27 := blk_frozen BK467.out 0
        have hns27_0 := NB464_467.out
        have hns27_1 := NB465_467.out
        have hms27_0 := NB467_464.out
        have hms27_1 := NB467_465.out
        refine skip_ (w1 := ?_) (by rfl) rfl ?_ ?_
        rotate_left
        ·go_simp
         rfl
        refine hK.out _ _ ?_
        clear hK K
        refine done_ (done_of HT_.out (by kernel_rfl)) ?_
        try go_wp2
        go_roundg k1
        case measure => have := HK1.out; omega
        case rel => exact ⟨(wrap64 (x7_1 + 1)), (y470), (.slice Ao26 y470.length co26), Ye1, H', ⟨by have := HK1.out; omega⟩, ⟨by (with_reducible repeat (first | apply Kd.R_alloc | apply Kd.R_drewN | apply Kd.R_drew)); exact Kd.R_mono (Kd.R_far (p := ⟨gb467, 0, none⟩) (Kd.R_types HO472.out BK467.out (by decide)) (fun _ hk => hk.2) (.slice Ao26 y470.length co26)) (fun _ hk => trivial)⟩, ⟨bkf BK464.out NB464_467.out⟩, ⟨bkf BK465.out NB465_467.out⟩, ⟨by (with_reducible repeat (first | refine blk_drewN ?_ _ | refine blk_drew ?_ | refine blk_alloc ?_ _)); refine blk_put (cs := #[u468000]) ?_ 0 _ rfl; (with_reducible repeat (first | refine blk_drewN ?_ _ | refine blk_drew ?_ | refine blk_alloc ?_ _)); exact BK467.out⟩, ⟨be3 HB.out GE464.out GE465.out GE467.out⟩⟩
       ·rw [if_neg c20] at H
        exact absurd H (by simp)
     ·rw [if_neg c15] at H
      exact absurd H (by simp)
    ·rw [if_neg c14] at H
     have c14b0 : decide (x7_1 < (l0_0.length : Int)) = false := decide_eq_false c14
     clear c14
     by_cases c28 : (x468000_1.length : Int) = (l0_0.length : Int)
     ·rw [if_pos c28] at H
      have c28b0 : ((x468000_1.length : Int) == (l0_0.length : Int)) = true := beq_iff_eq.mpr c28
      have c28b1 : ((x468000_1.length : Int) != (l0_0.length : Int)) = false := bne_eq_false_iff_eq.mpr c28
      have c28b2 : (x468000_1.length == l0_0.length) = true := by first | simpa using c28 | (simp at c28 ⊢; omega)
      clear c28
      simp only [Option.some.injEq, Prod.mk.injEq] at H
      obtain ⟨rfl, rfl⟩ := H
      have hnb29 := NB464_465.out
      have hnc29 := NB465_464.out
      have hnb30 := NB464_467.out
      have hnc30 := NB467_464.out
      have ⟨hcz31_0, hfz31_0⟩ := Yc1 BK464.out
      have hnb32 := NB467_465.out
      have hnc32 := NB465_467.out
      have ⟨hcz33_0, hfz33_0⟩ := Yc1 BK467.out
      obtain ⟨Ao34, co34, eo34⟩ := Kd.R_slice HO_468000.out
      subst eo34
      have ⟨hcz35_0, hfz35_0⟩ := Yc1 BK465.out
      go_wp2
      refine bodyPost_ret (results_ct rfl _ _ gb465 29 #[.slice none 0 0] (0, 0) _ rfl (by (with_reducible repeat (first | refine blk_drewN ?_ _ | refine blk_drew ?_ | refine blk_alloc ?_ _)); refine blk_put (cs := #[.slice none 0 0]) ?_ 0 _ rfl; (with_reducible repeat (first | refine blk_drewN ?_ _ | refine blk_drew ?_ | refine blk_alloc ?_ _)); exact BK465.out) Tryd.underlying29 rfl (by kernel_rfl)) rfl ?_
      exact ⟨_, Ye2, nl, (by first | exact be3 HB.out GE464.out GE465.out GE467.out | exact be2 HB.out GE464.out GE465.out | exact be1 HB.out GE464.out)⟩
     ·rw [if_neg c28] at H
      have c28b0 : ((x468000_1.length : Int) == (l0_0.length : Int)) = false := beq_eq_false_iff_ne.mpr c28
      have c28b1 : ((x468000_1.length : Int) != (l0_0.length : Int)) = true := bne_iff_ne.mpr c28
      have c28b2 : (x468000_1.length == l0_0.length) = false := by first | simpa using c28 | (simp at c28 ⊢; omega)
      simp only [Option.some.injEq, Prod.mk.injEq] at H
      obtain ⟨rfl, rfl⟩ := H
      have hnb36 := NB464_465.out
      have hnc36 := NB465_464.out
      have hnb37 := NB464_467.out
      have hnc37 := NB467_464.out
      have ⟨hcz38_0, hfz38_0⟩ := Yc1 BK464.out
      have hnb39 := NB467_465.out
      have hnc39 := NB465_467.out
      have ⟨hcz40_0, hfz40_0⟩ := Yc1 BK467.out
      obtain ⟨Ao41, co41, eo41⟩ := Kd.R_slice HO_468000.out
      subst eo41
      have ⟨hcz42_0, hfz42_0⟩ := Yc1 BK465.out
      go_wp2
      refine bodyPost_ret (results_ct rfl _ _ gb465 29 #[.slice Ao41 x468000_1.length co41] (0, 0) _ rfl (by (with_reducible repeat (first | refine blk_drewN ?_ _ | refine blk_drew ?_ | refine blk_alloc ?_ _)); refine blk_put (cs := #[.slice none 0 0]) ?_ 0 _ rfl; (with_reducible repeat (first | refine blk_drewN ?_ _ | refine blk_drew ?_ | refine blk_alloc ?_ _)); exact BK465.out) Tryd.underlying29 rfl (by kernel_rfl)) rfl ?_
      exact ⟨_, Ye2, by (with_reducible repeat (first | apply Kd.R_alloc | apply Kd.R_drewN | apply Kd.R_drew)); exact Kd.R_mono (Kd.R_far (p := ⟨gb465, 0, none⟩) (Kd.R_types HO_468000.out BK465.out (by decide)) (fun _ hk => hk.2) (.slice Ao41 x468000_1.length co41)) (fun _ hk => trivial), (by first | exact be3 HB.out GE464.out GE465.out GE467.out | exact be2 HB.out GE464.out GE465.out | exact be1 HB.out GE464.out)⟩
 ·replace c4 := Bool.eq_false_iff.mpr c4
  subst c4
  have H1 : (some (([] : List (S45)), 1)) = some (r1, r2) := by rw [if_neg (show ¬ (false = true) by decide)] at H; exact H
  clear H
  have H := H1
  clear H1
  simp only [Option.some.injEq, Prod.mk.injEq] at H
  obtain ⟨rfl, rfl⟩ := H
  go_enter Tryd.func33, Tryd.ntmps33
  go_wp2_with (first | ((with_reducible refine gd 2 rfl ?_); refine bx 2 29 (#[.slice A0_0 l0_0.length c0_0]) ?_; intro gb464 hg w43 hbox hb; refine Ya4 (below_step (be HB.out) hb) (hbox) (bs hg (be HB.out)) (bs hg (be HB.out)) ?_; clear HB; intro HB BK464 GW464 GE464; clear hb hbox hg) | ((with_reducible refine gd 4 rfl ?_); refine bx 4 29 (#[.slice none 0 0]) ?_; intro gb465 hg w44 hbox hb; refine Ya7 (bb BK464 hb) (below_step (be1 HB.out GE464.out) hb) (hbox) (bs hg (be1 HB.out GE464.out)) (bs hg (be1 HB.out GE464.out)) (bl hg BK464) (br hg BK464) ?_; clear BK464 HB; intro BK464 HB BK465 GW465 GE465 NB464_465 NB465_464; clear hb hbox hg; have hnb45 := NB464_465.out; have hnc45 := NB465_464.out; have ⟨hcz46_0, hfz46_0⟩ := Yc1 BK464.out) | ((with_reducible refine gc 13 rfl ?_); refine gl (some 9) _ (#[.agg #[.slice A0_0 l0_0.length c0_0]]) Tryd.func13 ?_; (with_reducible refine (spec_ValidTree.calls k _ _ l0_0 false _ ?side1 ?side2 A3.out).mono ?_); (case side1 => exact cb (Kd.C_below HR0_0.out HB.out)); (case side2 => exact HC0_0.out); rintro e w47 ⟨rfl, hb⟩; refine ⟨_, rfl, ?_⟩; refine Ya3 (bb BK464 hb) (bb BK465 hb) (below_step (be2 HB.out GE464.out GE465.out) hb) ?_; clear BK464 BK465 HB; intro BK464 BK465 HB; (try clear hb); (try clear hb2); (try clear hk); (try clear hi); have ⟨hcz48_0, hfz48_0⟩ := Yc1 BK465.out))
  refine bodyPost_ret (results_ct rfl _ _ gb465 29 #[.slice none 0 0] (0, 0) _ rfl (by (with_reducible repeat (first | refine blk_drewN ?_ _ | refine blk_drew ?_ | refine blk_alloc ?_ _)); refine blk_put (cs := #[.slice none 0 0]) ?_ 0 _ rfl; (with_reducible repeat (first | refine blk_drewN ?_ _ | refine blk_drew ?_ | refine blk_alloc ?_ _)); exact BK465.out) Tryd.underlying29 rfl (by kernel_rfl)) rfl ?_
  exact ⟨_, Ye2, nl, (by first | exact be2 HB.out GE464.out GE465.out | exact be1 HB.out GE464.out | exact be HB.out)⟩

end Go.Proofs.YtkdghhkpmkfjhaaDoor.P


namespace Go.Proofs.YtkdghhkpmkfjhaaDoor.P
open Go.RowKit Go.Proofs.YtkdghhkpmkfjhaaDoorW.PrintWords Go.Proofs.YtkdghhkpmkfjhaaDoorW.PrintLast Go.Proofs.YtkdghhkpmkfjhaaDoorW.PrintMore
attribute [local go_sem] max2_int min2_int max_two min_two max_three min_three max_four min_four
set_option linter.unusedVariables false
set_option linter.unusedSimpArgs false

/-! ### spec_l5Set: function 72 -/
mutual
def spec_l5Set.l0 : Nat → Bool → Int → List (S45) → ByteArray → ByteArray → Bool → List (S45) → Option ((List (S45)))
 | 0, _, _, _, _, _, _, _ => none
 | k + 1, x6, x7, x634000, x635000, x635001, x635002, x637000 => if x7 < (x634000.length : Int) then (if x6 = true then (spec_l5Set.j1 k x6 x7 false x634000 x635000 x635001 x635002 x637000) else (if 0 ≤ x7 then (spec_l5Set.j1 k x6 x7 (!(Op.bytesLess (((rd_T45 x634000 x7).f0).toList) x635000.toList)) x634000 x635000 x635001 x635002 x637000) else (none))) else (if x6 = true then (some x637000) else (if x637000.length < 3518437208883 then (some (x637000 ++ [(⟨x635000, x635001, x635002⟩ : S45)])) else (none)))
def spec_l5Set.j1 : Nat → Bool → Int → Bool → List (S45) → ByteArray → ByteArray → Bool → List (S45) → Option ((List (S45)))
 | 0, _, _, _, _, _, _, _, _ => none
 | k + 1, x6, x7, x28, x634000, x635000, x635001, x635002, x637000 => if x28 = true then (if x637000.length < 3518437208883 then ((some (x637000 ++ [(⟨x635000, x635001, x635002⟩ : S45)] : List (S45))).bind fun y641 => (if 0 ≤ x7 then (if x7 < (x634000.length : Int) then (if ((rd_T45 x634000 x7).f0).toList = x635000.toList then (spec_l5Set.l0 k true (wrap64 (x7 + 1)) x634000 x635000 x635001 x635002 y641) else (if y641.length < 3518437208883 then (spec_l5Set.l0 k true (wrap64 (x7 + 1)) x634000 x635000 x635001 x635002 (y641 ++ [(⟨(rd_T45 x634000 x7).f0, (rd_T45 x634000 x7).f1, (rd_T45 x634000 x7).f2⟩ : S45)])) else (none))) else (none)) else (none))) else (none)) else (if 0 ≤ x7 then (if x7 < (x634000.length : Int) then (if ((rd_T45 x634000 x7).f0).toList = x635000.toList then (spec_l5Set.l0 k x6 (wrap64 (x7 + 1)) x634000 x635000 x635001 x635002 x637000) else (if x637000.length < 3518437208883 then (spec_l5Set.l0 k x6 (wrap64 (x7 + 1)) x634000 x635000 x635001 x635002 (x637000 ++ [(⟨(rd_T45 x634000 x7).f0, (rd_T45 x634000 x7).f1, (rd_T45 x634000 x7).f2⟩ : S45)])) else (none))) else (none)) else (none))
end
def spec_l5Set.f (k : Nat) (l0_0 : List (S45)) (a1_0 : ByteArray) (a1_1 : ByteArray) (a1_2 : Bool) : Option ((List (S45))) := spec_l5Set.l0 k false 0 l0_0 a1_0 a1_1 a1_2 ([] : List (S45))
theorem spec_l5Set.mono_l : ∀ k, (∀ y0 y1 y2 y3 y4 y5 y6, LeO (spec_l5Set.l0 k y0 y1 y2 y3 y4 y5 y6) (spec_l5Set.l0 (k + 1) y0 y1 y2 y3 y4 y5 y6)) ∧ (∀ y0 y1 y2 y3 y4 y5 y6 y7, LeO (spec_l5Set.j1 k y0 y1 y2 y3 y4 y5 y6 y7) (spec_l5Set.j1 (k + 1) y0 y1 y2 y3 y4 y5 y6 y7))
 | 0 => ⟨fun _ _ _ _ _ _ _ r h => by simp [spec_l5Set.l0] at h, fun _ _ _ _ _ _ _ _ r h => by simp [spec_l5Set.j1] at h⟩
 | k + 1 => by
  obtain ⟨ih0, ih1⟩ := spec_l5Set.mono_l k
  refine ⟨?_, ?_⟩
  ·intro y0 y1 y2 y3 y4 y5 y6
   unfold spec_l5Set.l0
   repeat' first
   | (with_reducible exact ih0 _ _ _ _ _ _ _)
   | (with_reducible exact ih1 _ _ _ _ _ _ _ _)
   | (with_reducible exact LeO.refl _)
   | (with_reducible exact LeO.none _)
   | (with_reducible refine LeO.ite ?_ ?_)
   | (with_reducible refine LeO.bind ?_ (fun _ => ?_))
   | exact ih0 _ _ _ _ _ _ _
   | exact ih1 _ _ _ _ _ _ _ _
   | exact LeO.none _
   | refine LeO.ite ?_ ?_
   | refine LeO.bind ?_ (fun _ => ?_)
  ·intro y0 y1 y2 y3 y4 y5 y6 y7
   unfold spec_l5Set.j1
   repeat' first
   | (with_reducible exact ih0 _ _ _ _ _ _ _)
   | (with_reducible exact ih1 _ _ _ _ _ _ _ _)
   | (with_reducible exact LeO.refl _)
   | (with_reducible exact LeO.none _)
   | (with_reducible refine LeO.ite ?_ ?_)
   | (with_reducible refine LeO.bind ?_ (fun _ => ?_))
   | exact ih0 _ _ _ _ _ _ _
   | exact ih1 _ _ _ _ _ _ _ _
   | exact LeO.none _
   | refine LeO.ite ?_ ?_
   | refine LeO.bind ?_ (fun _ => ?_)
theorem spec_l5Set.mono : ∀ a0 a1 a2 a3 k, LeO (spec_l5Set.f k a0 a1 a2 a3) (spec_l5Set.f (k + 1) a0 a1 a2 a3) := by
 intro a0 a1 a2 a3 k
 obtain ⟨ih0, ih1⟩ := spec_l5Set.mono_l k
 unfold spec_l5Set.f
 repeat' first
   | (with_reducible exact ih0 _ _ _ _ _ _ _)
   | (with_reducible exact ih1 _ _ _ _ _ _ _ _)
   | (with_reducible exact LeO.refl _)
   | (with_reducible exact LeO.none _)
   | (with_reducible refine LeO.ite ?_ ?_)
   | (with_reducible refine LeO.bind ?_ (fun _ => ?_))
   | exact ih0 _ _ _ _ _ _ _
   | exact ih1 _ _ _ _ _ _ _ _
   | exact LeO.none _
   | refine LeO.ite ?_ ?_
   | refine LeO.bind ?_ (fun _ => ?_)
def spec_l5Set.T6 : Bool × List (List Nat × List Nat) := (true, [([], []), ([0], [0]), ([1], [1]), ([2], [2]), ([3, 2], [2, 3]), ([2], [2]), ([4, 5, 2], [2, 4, 5]), ([6, 2], [2, 6]), ([7, 2], [2, 7]), ([2], [2]), ([9, 2], [2, 9]), ([8, 10, 2], [2, 8, 10]), ([2, 11], [2, 11])])
def spec_l5Set.B6 : List Nat := [0, 1, 3, 7, 15, 7, 63, 127, 255, 7, 519, 2047, 4095]
theorem spec_l5Set.tab6 : rtab .any (opsOf Tryd.f72 6) = spec_l5Set.T6 := by kernel_rfl
theorem spec_l5Set.bits6 : waitsOk spec_l5Set.T6.2 spec_l5Set.B6 = true := by kernel_rfl
def spec_l5Set.T9 : Bool × List (List Nat × List Nat) := (true, [([], []), ([0], [0]), ([], []), ([1, 2], [1, 2]), ([3], [3]), ([4], [4]), ([], []), ([6], [6]), ([5, 7], [5, 7])])
def spec_l5Set.B9 : List Nat := [0, 1, 0, 7, 15, 31, 0, 64, 255]
theorem spec_l5Set.tab9 : rtab .any (opsOf Tryd.f72 9) = spec_l5Set.T9 := by kernel_rfl
theorem spec_l5Set.bits9 : waitsOk spec_l5Set.T9.2 spec_l5Set.B9 = true := by kernel_rfl
def spec_l5Set.T10 : Bool × List (List Nat × List Nat) := (true, [([], []), ([0], [0]), ([], []), ([2], [2]), ([], []), ([3, 4], [3, 4]), ([5], [5]), ([6], [6]), ([1, 7], [1, 7]), ([0, 1, 2, 3, 4, 5, 6, 7, 8], []), ([9, 8, 8, 0, 1, 2, 3, 4, 5, 6, 7, 8], [8, 9])])
def spec_l5Set.B10 : List Nat := [0, 1, 0, 4, 0, 28, 60, 124, 255, 511, 1023]
theorem spec_l5Set.tab10 : rtab .any (opsOf Tryd.f72 10) = spec_l5Set.T10 := by kernel_rfl
theorem spec_l5Set.bits10 : waitsOk spec_l5Set.T10.2 spec_l5Set.B10 = true := by kernel_rfl
set_option maxHeartbeats 8000000 in
set_option maxRecDepth 100000 in
theorem spec_l5Set.calls (k : Nat) (A0_0 : Option Addr) (c0_0 : Nat) (l0_0 : List (S45)) (a1_0 : ByteArray) (a1_1 : ByteArray) (a1_2 : Bool) (r : List (S45)) (w : World) (hr0_0 : Kd.C k45 w A0_0 l0_0.length l0_0) (hc0_0 : l0_0.length ≤ c0_0) (h : spec_l5Set.f k l0_0 a1_0 a1_1 a1_2 = some r) :
  Calls Tryd.prog 72 #[.agg #[.slice A0_0 l0_0.length c0_0], .agg #[.string a1_0, .string a1_1, .bool a1_2]] w fun e w' => ∃ v0_ : Value, e = .returned (.agg #[v0_]) ∧ Kd.R k45 45 w' w.heap.size (fun _ => True) v0_ r ∧ Below w.heap.size w w' := by
 have hu29 := Tryd.underlying29
 have hu45 := Tryd.underlying45
 have HR0_0 := Aside0.mk hr0_0
 have HC0_0 := Aside0.mk hc0_0
 clear hr0_0 hc0_0
 have HB := Aside0.mk (Below.refl w.heap.size w)
 have H : (spec_l5Set.l0 k false 0 l0_0 a1_0 a1_1 a1_2 ([] : List (S45))) = some r := h
 clear h
 have H' := Aside0.mk H
 clear H
 go_enter Tryd.func72, Tryd.ntmps72
 go_wp2_with (first | ((with_reducible refine gd 2 rfl ?_); refine bx 2 29 (#[.slice A0_0 l0_0.length c0_0]) ?_; intro gb633 hg w3 hbox hb; refine Ya4 (below_step (be HB.out) hb) (hbox) (bs hg (be HB.out)) (bs hg (be HB.out)) ?_; clear HB; intro HB BK633 GW633 GE633; clear hb hbox hg) | ((with_reducible refine gd 3 rfl ?_); refine bx 3 45 (#[.string a1_0, .string a1_1, .bool a1_2]) ?_; intro gb634 hg w4 hbox hb; refine Ya7 (bb BK633 hb) (below_step (be1 HB.out GE633.out) hb) (hbox) (bs hg (be1 HB.out GE633.out)) (bs hg (be1 HB.out GE633.out)) (bl hg BK633) (br hg BK633) ?_; clear BK633 HB; intro BK633 HB BK634 GW634 GE634 NB633_634 NB634_633; clear hb hbox hg) | ((with_reducible refine gd 4 rfl ?_); refine bx 4 29 (#[.slice none 0 0]) ?_; intro gb635 hg w5 hbox hb; have n0_ := Aside0.mk (bb BK633 hb); have n1_ := Aside0.mk (bb BK634 hb); have n2_ := Aside0.mk (below_step (be2 HB.out GE633.out GE634.out) hb); have n3_ := Aside0.mk (hbox); have n4_ := Aside0.mk (bs hg (be2 HB.out GE633.out GE634.out)); have n5_ := Aside0.mk (bs hg (be2 HB.out GE633.out GE634.out)); have n6_ := Aside0.mk (bl hg BK633); have n7_ := Aside0.mk (br hg BK633); have n8_ := Aside0.mk (bl hg BK634); have n9_ := Aside0.mk (br hg BK634); clear BK633; clear BK634; clear HB; have BK633 := n0_; have BK634 := n1_; have HB := n2_; have BK635 := n3_; have GW635 := n4_; have GE635 := n5_; have NB633_635 := n6_; have NB635_633 := n7_; have NB634_635 := n8_; have NB635_634 := n9_; clear n0_ n1_ n2_ n3_ n4_ n5_ n6_ n7_ n8_ n9_; clear hb hbox hg) | ((with_reducible refine gd 5 rfl ?_); refine bx 5 29 (#[.slice none 0 0]) ?_; intro gb636 hg w6 hbox hb; have n0_ := Aside0.mk (bb BK633 hb); have n1_ := Aside0.mk (bb BK634 hb); have n2_ := Aside0.mk (bb BK635 hb); have n3_ := Aside0.mk (below_step (be3 HB.out GE633.out GE634.out GE635.out) hb); have n4_ := Aside0.mk (hbox); have n5_ := Aside0.mk (bs hg (be3 HB.out GE633.out GE634.out GE635.out)); have n6_ := Aside0.mk (bs hg (be3 HB.out GE633.out GE634.out GE635.out)); have n7_ := Aside0.mk (bl hg BK633); have n8_ := Aside0.mk (br hg BK633); have n9_ := Aside0.mk (bl hg BK634); have n10_ := Aside0.mk (br hg BK634); have n11_ := Aside0.mk (bl hg BK635); have n12_ := Aside0.mk (br hg BK635); clear BK633; clear BK634; clear BK635; clear HB; have BK633 := n0_; have BK634 := n1_; have BK635 := n2_; have HB := n3_; have BK636 := n4_; have GW636 := n5_; have GE636 := n6_; have NB633_636 := n7_; have NB636_633 := n8_; have NB634_636 := n9_; have NB636_634 := n10_; have NB635_636 := n11_; have NB636_635 := n12_; clear n0_ n1_ n2_ n3_ n4_ n5_ n6_ n7_ n8_ n9_ n10_ n11_ n12_; clear hb hbox hg; have hnb7 := NB636_633.out; have hnc7 := NB633_636.out; have hnb8 := NB636_634.out; have hnc8 := NB634_636.out; have hnb9 := NB636_635.out; have hnc9 := NB635_636.out; have ⟨hcz10_0, hfz10_0⟩ := Yc1 BK636.out))
 go_loopg [6, 7] k (fun kq v6 v7 w' => ∃ (x6_1 : Bool) (x7_1 : Int) (x637000_1 : List (S45)) (u637000 : Value), v6 = .bool x6_1 ∧ v7 = .int .i64 x7_1 ∧ Aside0 (spec_l5Set.l0 kq x6_1 x7_1 l0_0 a1_0 a1_1 a1_2 x637000_1 = some r) ∧ Aside0 (kq ≤ k) ∧ Aside0 (Kd.R k45 45 w' w.heap.size (fun k_ => k_ ≠ gb634) u637000 x637000_1) ∧ Aside0 (w'.heap[gb633]? = some (.cells #[(.slice A0_0 l0_0.length c0_0)] 29 (0, 0))) ∧ Aside0 (w'.heap[gb634]? = some (.cells #[.string a1_0, .string a1_1, .bool a1_2] 45 (0, 0))) ∧ Aside0 (w'.heap[gb635]? = some (.cells #[(.slice none 0 0)] 29 (0, 0))) ∧ Aside0 (w'.heap[gb636]? = some (.cells #[u637000] 29 (0, 0))) ∧ Aside0 (Below w.heap.size w w'))
 case atStart => exact ⟨(false), (0), (([] : List (S45))), (.slice none 0 0), Ye1, Ye1, H', ⟨Nat.le_refl _⟩, ⟨nl⟩, ⟨bkf BK633.out NB633_636.out⟩, ⟨bkf BK634.out NB634_636.out⟩, ⟨bkf BK635.out NB635_636.out⟩, ⟨by (with_reducible repeat (first | refine blk_drewN ?_ _ | refine blk_drew ?_ | refine blk_alloc ?_ _)); refine blk_put (cs := #[.slice none 0 0]) ?_ 0 _ rfl; (with_reducible repeat (first | refine blk_drewN ?_ _ | refine blk_drew ?_ | refine blk_alloc ?_ _)); exact BK636.out⟩, ⟨be4 HB.out GE633.out GE634.out GE635.out GE636.out⟩⟩
 case round =>
  clear H'
  try clear p2
  try clear c7
  try clear c8
  try clear c9
  try clear hcz10_0
  try clear hfz10_0
  obtain ⟨x6_1, x7_1, x637000_1, u637000, rfl, rfl, HA, HK1, HO_637000, BK633, BK634, BK635, BK636, HB⟩ := hrel
  cases gk with
  | zero => exact absurd HA.out (by simp [spec_l5Set.l0])
  | succ k1 =>
   have H := HA.out
   clear HA
   simp only [spec_l5Set.l0] at H
   by_cases c11 : x7_1 < (l0_0.length : Int)
   ·rw [if_pos c11] at H
    have c11b0 : decide (x7_1 < (l0_0.length : Int)) = true := decide_eq_true c11
    clear c11
    have HC12 := Aside0.mk H
    clear H
    have hnb13 := NB633_634.out
    have hnc13 := NB634_633.out
    have hnb14 := NB633_635.out
    have hnc14 := NB635_633.out
    have hnb15 := NB633_636.out
    have hnc15 := NB636_633.out
    have ⟨hcz16_0, hfz16_0⟩ := Yc1 BK633.out
    go_upto_region 6 with (fail)
    go_cut [28] (fun v28 wc => ∃ (kq : Nat) (x28_11 : Bool), v28 = .bool x28_11 ∧ Aside0 (spec_l5Set.j1 kq x6_1 x7_1 x28_11 l0_0 a1_0 a1_1 a1_2 x637000_1 = some r) ∧ Aside0 (kq ≤ k1) ∧ Aside0 (Kd.R k45 45 wc w.heap.size (fun k_ => k_ ≠ gb634) u637000 x637000_1) ∧ Aside0 (wc.heap[gb633]? = some (.cells #[(.slice A0_0 l0_0.length c0_0)] 29 (0, 0))) ∧ Aside0 (wc.heap[gb634]? = some (.cells #[.string a1_0, .string a1_1, .bool a1_2] 45 (0, 0))) ∧ Aside0 (wc.heap[gb635]? = some (.cells #[(.slice none 0 0)] 29 (0, 0))) ∧ Aside0 (wc.heap[gb636]? = some (.cells #[u637000] 29 (0, 0))) ∧ Aside0 (Below w.heap.size w wc))
    case first =>
     have H := HC12.out
     clear HC12
     by_cases c17 : x6_1 = true
     ·subst c17
      have H1 : (spec_l5Set.j1 k1 true x7_1 false l0_0 a1_0 a1_1 a1_2 x637000_1) = some r := by rw [if_pos rfl] at H; exact H
      clear H
      have H := H1
      clear H1
      have H' := Aside0.mk H
      clear H
      try go_wp2
      refine Ya6 (Kd.R_drew HO_637000.out) (blk_drew BK633.out) (blk_drew BK634.out) (blk_drew BK635.out) (blk_drew BK636.out) (below_drew1 HB.out) ?_
      clear HO_637000 BK633 BK634 BK635 BK636 HB
      intro HO_637000 BK633 BK634 BK635 BK636 HB
      refine start_ (n := 13) (S := fun w' => True) (ds := []) (fb 13 0) (by kernel_rfl) rfl rfl trivial (fun hHeld => ?_); refine with_tabW spec_l5Set.tab6 spec_l5Set.bits6 (fun HT_ HW_ => ?_)
      generalize wr.drew = w18 at HO_637000 BK633 BK634 BK635 BK636 HB hHeld ⊢
      refine pu 0 16 (fb 13 1) HT_ ?_
      refine pu 1 17 (fb 13 3) HT_ ?_
      refine pu 2 18 (fb 13 7) HT_ ?_
      refine pn 3 19 (fb 13 15) HT_ ?_
      refine pn 4 20 (fb 13 31) HT_ ?_
      refine pn 5 21 (fb 13 63) HT_ ?_
      refine pn 6 22 (fb 13 127) HT_ ?_
      refine pn 7 23 (fb 13 255) HT_ ?_
      refine pn 8 24 (fb 13 511) HT_ ?_
      refine pn 9 25 (fb 13 1023) HT_ ?_
      refine pn 10 26 (fb 13 2047) HT_ ?_
      refine pn 11 27 (fb 13 4095) HT_ ?_
      refine pu 12 28 (fb 13 8191) HT_ ?_
      refine done_ (done_of HT_.out (by kernel_rfl)) ?_
      try go_wp2
      go_meet
      case rel => exact ⟨_, (false), Ye1, H', ⟨by have := HK1.out; first | omega | exact Nat.le_refl _⟩, ⟨kr HO_637000.out⟩, ⟨bk BK633.out⟩, ⟨bk BK634.out⟩, ⟨bk BK635.out⟩, ⟨bk BK636.out⟩, ⟨be4 HB.out GE633.out GE634.out GE635.out GE636.out⟩⟩
     ·replace c17 := Bool.eq_false_iff.mpr c17
      subst c17
      have H1 : (if 0 ≤ x7_1 then (spec_l5Set.j1 k1 false x7_1 (!(Op.bytesLess (((rd_T45 l0_0 x7_1).f0).toList) a1_0.toList)) l0_0 a1_0 a1_1 a1_2 x637000_1) else (none)) = some r := by rw [if_neg (show ¬ (false = true) by decide)] at H; exact H
      clear H
      have H := H1
      clear H1
      by_cases c19 : 0 ≤ x7_1
      ·rw [if_pos c19] at H
       have c19b0 : decide (0 ≤ x7_1) = true := decide_eq_true c19
       clear c19
       (first | rw [c19b0] | (simp only [i64_w, i32_w]; rw [c19b0]) | skip)
       have H' := Aside0.mk H
       clear H
       try go_wp2
       refine Ya6 (Kd.R_drew HO_637000.out) (blk_drew BK633.out) (blk_drew BK634.out) (blk_drew BK635.out) (blk_drew BK636.out) (below_drew1 HB.out) ?_
       clear HO_637000 BK633 BK634 BK635 BK636 HB
       intro HO_637000 BK633 BK634 BK635 BK636 HB
       have p640 : 0 ≤ (x7_1 : Int) := oda
       have q640 : x7_1 < (l0_0.length : Int) := oda
       obtain ⟨ad640, e640, hx640_0, hx640_1, hx640_2⟩ := at_T45 HR0_0.out x7_1 p640 q640
       have hw640_2 := hx640_2
       have hw640_1 := hx640_1
       have hw640_0 := hx640_0
       cases e640
       replace hx640_0 := pw_cell_below HB.out hx640_0
       replace hx640_1 := pw_cell_below HB.out hx640_1
       replace hx640_2 := pw_cell_below HB.out hx640_2
       replace p640 := eq_true p640
       replace q640 := eq_true q640
       refine start_ (n := 13) (S := fun w' => w'.cell? ⟨gb633, 0, none⟩ = some (.slice (some ad640) l0_0.length c0_0) ∧ w'.cell? ⟨gb634, 0, none⟩ = some (.string a1_0) ∧ w'.cell? ⟨gb634, 1, none⟩ = some (.string a1_1) ∧ w'.cell? ⟨gb634, 2, none⟩ = some (.bool a1_2) ∧ w'.cell? (ad640.add ((x7_1).toNat * 3)) = some (.string ((rd_T45 l0_0 x7_1).f0)) ∧ w'.cell? ⟨(ad640.add ((x7_1).toNat * 3)).block, (ad640.add ((x7_1).toNat * 3)).off + 1, none⟩ = some (.string ((rd_T45 l0_0 x7_1).f1)) ∧ w'.cell? ⟨(ad640.add ((x7_1).toNat * 3)).block, (ad640.add ((x7_1).toNat * 3)).off + 2, none⟩ = some (.bool ((rd_T45 l0_0 x7_1).f2))) (ds := []) (fb 13 0) (by kernel_rfl) rfl rfl ⟨(blk_cell BK633.out 0).trans rfl, (blk_cell BK634.out 0).trans rfl, (blk_cell BK634.out 1).trans rfl, (blk_cell BK634.out 2).trans rfl, (pw_cell_below HB.out hw640_0), (pw_cell_below HB.out hw640_1), (pw_cell_below HB.out hw640_2)⟩ (fun hHeld => ?_); refine with_tabW spec_l5Set.tab6 spec_l5Set.bits6 (fun HT_ HW_ => ?_)
       generalize wr.drew = w20 at HO_637000 BK633 BK634 BK635 BK636 HB hx640_0 hx640_1 hx640_2 hHeld ⊢
       refine pu 0 16 (fb 13 1) HT_ ?_
       refine pu 1 17 (fb 13 3) HT_ ?_
       refine pu 2 18 (fb 13 7) HT_ ?_
       refine pu 3 19 (fb 13 15) HT_ ?_
       refine pu 5 21 (fb 13 47) HT_ ?_
       refine pu 9 25 (fb 13 559) HT_ ?_
       refine tk 4 20 (fb 13 575) HT_ HW_ hHeld ?_
       refine pu 6 22 (fb 13 639) HT_ ?_
       refine pu 7 23 (fb 13 767) HT_ ?_
       refine tk 8 24 (fb 13 1023) HT_ HW_ hHeld ?_
       refine tk 10 26 (fb 13 2047) HT_ HW_ hHeld ?_
       refine pu 11 27 (fb 13 4095) HT_ ?_
       refine pu 12 28 (fb 13 8191) HT_ ?_
       refine done_ (done_of HT_.out (by kernel_rfl)) ?_
       try go_wp2
       go_meet
       case rel => exact ⟨_, (!(Op.bytesLess (((rd_T45 l0_0 x7_1).f0).toList) a1_0.toList)), Ye1, H', ⟨by have := HK1.out; first | omega | exact Nat.le_refl _⟩, ⟨kr HO_637000.out⟩, ⟨bk BK633.out⟩, ⟨bk BK634.out⟩, ⟨bk BK635.out⟩, ⟨bk BK636.out⟩, ⟨be4 HB.out GE633.out GE634.out GE635.out GE636.out⟩⟩
      ·rw [if_neg c19] at H
       exact absurd H (by simp)
    case rest =>
     clear HC12
     try clear c1
     try clear p2
     try clear p6
     try clear q6
     try clear hx6
     try clear c7
     try clear c8
     try clear c9
     try clear c11
     try clear c11b0
     try clear c13
     try clear c14
     try clear c15
     try clear c17
     try clear c19
     try clear c19b0
     try clear hcz10_0
     try clear hcz16_0
     try clear hfz10_0
     try clear hfz16_0
     try clear hx640_0
     try clear hx640_1
     try clear hx640_2
     try clear p2
     try clear p640
     try clear q640
     obtain ⟨kq, x28_11, rfl, HA, HJ11, HO_637000, BK633, BK634, BK635, BK636, HB⟩ := hcut
     cases kq with
     | zero => exact absurd HA.out (by simp [spec_l5Set.j1])
     | succ kj11 =>
      have H := HA.out
      clear HA
      simp only [spec_l5Set.j1] at H
      by_cases c21 : x28_11 = true
      ·subst c21
       have H1 : (if x637000_1.length < 3518437208883 then ((some (x637000_1 ++ [(⟨a1_0, a1_1, a1_2⟩ : S45)] : List (S45))).bind fun y641 => (if 0 ≤ x7_1 then (if x7_1 < (l0_0.length : Int) then (if ((rd_T45 l0_0 x7_1).f0).toList = a1_0.toList then (spec_l5Set.l0 kj11 true (wrap64 (x7_1 + 1)) l0_0 a1_0 a1_1 a1_2 y641) else (if y641.length < 3518437208883 then (spec_l5Set.l0 kj11 true (wrap64 (x7_1 + 1)) l0_0 a1_0 a1_1 a1_2 (y641 ++ [(⟨(rd_T45 l0_0 x7_1).f0, (rd_T45 l0_0 x7_1).f1, (rd_T45 l0_0 x7_1).f2⟩ : S45)])) else (none))) else (none)) else (none))) else (none)) = some r := by rw [if_pos rfl] at H; exact H
       clear H
       have H := H1
       clear H1
       by_cases c22 : x637000_1.length < 3518437208883
       ·rw [if_pos c22] at H
        have LMc22 := Aside0.mk c22
        clear c22
        obtain ⟨y641, hy641⟩ : ∃ y_ : List (S45), y_ = (x637000_1 ++ [(⟨a1_0, a1_1, a1_2⟩ : S45)]) := ⟨_, rfl⟩
        replace H : (if 0 ≤ x7_1 then (if x7_1 < (l0_0.length : Int) then (if ((rd_T45 l0_0 x7_1).f0).toList = a1_0.toList then (spec_l5Set.l0 kj11 true (wrap64 (x7_1 + 1)) l0_0 a1_0 a1_1 a1_2 y641) else (if y641.length < 3518437208883 then (spec_l5Set.l0 kj11 true (wrap64 (x7_1 + 1)) l0_0 a1_0 a1_1 a1_2 (y641 ++ [(⟨(rd_T45 l0_0 x7_1).f0, (rd_T45 l0_0 x7_1).f1, (rd_T45 l0_0 x7_1).f2⟩ : S45)])) else (none))) else (none)) else (none)) = some r := by first | (rw [hy641]; with_reducible exact H) | (have H2_ := (Option.bind_some _ _).symm.trans H; rw [hy641]; with_reducible exact H2_) | (have H2_ := (Option.bind_some _ _).symm.trans H; with_reducible exact H2_) | with_reducible exact H | (rw [hy641]; exact H) | exact H
        have Ny641 := Aside0.mk hy641
        clear hy641
        by_cases c23 : 0 ≤ x7_1
        ·rw [if_pos c23] at H
         have c23b0 : decide (0 ≤ x7_1) = true := decide_eq_true c23
         clear c23
         by_cases c24 : x7_1 < (l0_0.length : Int)
         ·rw [if_pos c24] at H
          have c24b0 : decide (x7_1 < (l0_0.length : Int)) = true := decide_eq_true c24
          clear c24
          by_cases c25 : ((rd_T45 l0_0 x7_1).f0).toList = a1_0.toList
          ·rw [if_pos c25] at H
           have c25b0 : (((rd_T45 l0_0 x7_1).f0).toList == a1_0.toList) = true := beq_iff_eq.mpr c25
           have c25b1 : (((rd_T45 l0_0 x7_1).f0).toList != a1_0.toList) = false := bne_eq_false_iff_eq.mpr c25
           clear c25
           have H' := Aside0.mk H
           clear H
           have hnb26 := NB636_633.out
           have hnc26 := NB633_636.out
           have hnb27 := NB636_634.out
           have hnc27 := NB634_636.out
           have hnb28 := NB636_635.out
           have hnc28 := NB635_636.out
           have ⟨hcz29_0, hfz29_0⟩ := Yc1 BK636.out
           have hnb30 := NB634_633.out
           have hnc30 := NB633_634.out
           have hnb31 := NB634_635.out
           have hnc31 := NB635_634.out
           have ⟨hcz32_0, hcz32_1, hcz32_2, hfz32_0, hfz32_1, hfz32_2⟩ := Yc3 BK634.out
           try go_wp2_with (first | ((with_reducible refine gate_builtin (b := .append) (xs := #[.tmp 30, .tmp 32]) rfl ?_); at_builtin; refine Kd.R_append k45 (w0 := w) w.heap.size rfl (.tmp 30) (.tmp 32) 27 45 (.agg #[(.string ⟨#[]⟩), (.string ⟨#[]⟩), (.bool false)]) 40 rfl Tryd.underlying27 info45 rfl (by decide) (by omega) u637000 x637000_1 (⟨a1_0, a1_1, a1_2⟩ : S45) [.string a1_0, .string a1_1, .bool a1_2] (fun k_ => k_ ≠ gb634) (fun _ => False) rfl rfl ?aP (fun _ hk => hk.elim) ?aF ?aO ?aB ?aS ?aL ?_; (case aP => exact k45_mkM _ _ _ (⟨a1_0, a1_1, a1_2⟩ : S45)); (case aB => exact (be4 HB.out GE633.out GE634.out GE635.out GE636.out)); (case aF => exact (fun k_ hk => Kd.freshB (g := gb634) (o := .cells #[.string a1_0, .string a1_1, .bool a1_2] 45 (0, 0)) (bk BK634.out) k_ hk)); (case aO => exact (kr HO_637000.out)); (case aS => exact (below_size (be4 HB.out GE633.out GE634.out GE635.out GE636.out))); (case aL => have := LMc22.out; omega); intro v642 w33 ho hb hg hat; rw [← Ny641.out] at ho; refine Ya6 (blk_grown (g := gb633) (o := .cells #[.slice A0_0 l0_0.length c0_0] 29 (0, 0)) (bk BK633.out) hg (Kd.R_ne HO_637000.out BK633.out (by decide))) (blk_grown (g := gb634) (o := .cells #[.string a1_0, .string a1_1, .bool a1_2] 45 (0, 0)) (bk BK634.out) hg (Kd.R_away HO_637000.out (fun _ hk => hk))) (blk_grown (g := gb635) (o := .cells #[.slice none 0 0] 29 (0, 0)) (bk BK635.out) hg (Kd.R_ne HO_637000.out BK635.out (by decide))) (blk_grown (g := gb636) (o := .cells #[u637000] 29 (0, 0)) (bk BK636.out) hg (Kd.R_ne HO_637000.out BK636.out (by decide))) (hb) (ho) ?_; clear BK633 BK634 BK635 BK636 HB HO_637000; intro BK633 BK634 BK635 BK636 HB HO643; clear ho hb hg hat; obtain ⟨Ao34, co34, eo34⟩ := Kd.R_slice HO643.out; subst eo34; have ⟨hcz35_0, hfz35_0⟩ := Yc1 BK636.out))
           have n0_ : Aside0 (Kd.R k45 45 (w33.setCell ⟨gb636, 0, none⟩ (.slice Ao34 y641.length co34)) w.heap.size (fun k_ => k_ ≠ gb634) (.slice Ao34 y641.length co34) y641) := ⟨by (with_reducible repeat (first | apply Kd.R_alloc | apply Kd.R_drewN | apply Kd.R_drew)); exact Kd.R_mono (Kd.R_far (p := ⟨gb636, 0, none⟩) (Kd.R_types HO643.out BK636.out (by decide)) (fun _ hk => hk.2) (.slice Ao34 y641.length co34)) (fun _ hk => hk.1)⟩
           have n1_ : Aside0 ((w33.setCell ⟨gb636, 0, none⟩ (.slice Ao34 y641.length co34)).heap[gb633]? = some (.cells #[.slice A0_0 l0_0.length c0_0] 29 (0, 0))) := ⟨bkf BK633.out NB633_636.out⟩
           have n2_ : Aside0 ((w33.setCell ⟨gb636, 0, none⟩ (.slice Ao34 y641.length co34)).heap[gb634]? = some (.cells #[.string a1_0, .string a1_1, .bool a1_2] 45 (0, 0))) := ⟨bkf BK634.out NB634_636.out⟩
           have n3_ : Aside0 ((w33.setCell ⟨gb636, 0, none⟩ (.slice Ao34 y641.length co34)).heap[gb635]? = some (.cells #[.slice none 0 0] 29 (0, 0))) := ⟨bkf BK635.out NB635_636.out⟩
           have n4_ : Aside0 ((w33.setCell ⟨gb636, 0, none⟩ (.slice Ao34 y641.length co34)).heap[gb636]? = some (.cells #[.slice Ao34 y641.length co34] 29 (0, 0))) := ⟨by (with_reducible repeat (first | refine blk_drewN ?_ _ | refine blk_drew ?_ | refine blk_alloc ?_ _)); refine blk_put (cs := #[u637000]) ?_ 0 _ rfl; (with_reducible repeat (first | refine blk_drewN ?_ _ | refine blk_drew ?_ | refine blk_alloc ?_ _)); exact BK636.out⟩
           have n5_ : Aside0 (Below w.heap.size w (w33.setCell ⟨gb636, 0, none⟩ (.slice Ao34 y641.length co34))) := ⟨be4 HB.out GE633.out GE634.out GE635.out GE636.out⟩
           (try clear HO643)
           (try clear BK633)
           (try clear BK634)
           (try clear BK635)
           (try clear BK636)
           (try clear HB)
           generalize (w33.setCell ⟨gb636, 0, none⟩ (.slice Ao34 y641.length co34)) = w36 at n0_ n1_ n2_ n3_ n4_ n5_ ⊢
           have HO643 := n0_
           have BK633 := n1_
           have BK634 := n2_
           have BK635 := n3_
           have BK636 := n4_
           have HB := n5_
           clear n0_ n1_ n2_ n3_ n4_ n5_
           refine Ya6 (Kd.R_drew HO643.out) (blk_drew BK633.out) (blk_drew BK634.out) (blk_drew BK635.out) (blk_drew BK636.out) (below_drew1 HB.out) ?_
           clear HO643 BK633 BK634 BK635 BK636 HB
           intro HO643 BK633 BK634 BK635 BK636 HB
           have p644 : 0 ≤ (x7_1 : Int) := oda
           have q644 : x7_1 < (l0_0.length : Int) := oda
           obtain ⟨ad644, e644, hx644_0, hx644_1, hx644_2⟩ := at_T45 HR0_0.out x7_1 p644 q644
           have hw644_2 := hx644_2
           have hw644_1 := hx644_1
           have hw644_0 := hx644_0
           cases e644
           replace hx644_0 := pw_cell_below HB.out hx644_0
           replace hx644_1 := pw_cell_below HB.out hx644_1
           replace hx644_2 := pw_cell_below HB.out hx644_2
           replace p644 := eq_true p644
           replace q644 := eq_true q644
           refine start_ (n := 9) (S := fun w' => w'.cell? ⟨gb633, 0, none⟩ = some (.slice (some ad644) l0_0.length c0_0) ∧ w'.cell? ⟨gb634, 0, none⟩ = some (.string a1_0) ∧ w'.cell? ⟨gb634, 1, none⟩ = some (.string a1_1) ∧ w'.cell? ⟨gb634, 2, none⟩ = some (.bool a1_2) ∧ w'.cell? (ad644.add ((x7_1).toNat * 3)) = some (.string ((rd_T45 l0_0 x7_1).f0)) ∧ w'.cell? ⟨(ad644.add ((x7_1).toNat * 3)).block, (ad644.add ((x7_1).toNat * 3)).off + 1, none⟩ = some (.string ((rd_T45 l0_0 x7_1).f1)) ∧ w'.cell? ⟨(ad644.add ((x7_1).toNat * 3)).block, (ad644.add ((x7_1).toNat * 3)).off + 2, none⟩ = some (.bool ((rd_T45 l0_0 x7_1).f2))) (ds := []) (fb 9 0) (by kernel_rfl) rfl rfl ⟨(blk_cell BK633.out 0).trans rfl, (blk_cell BK634.out 0).trans rfl, (blk_cell BK634.out 1).trans rfl, (blk_cell BK634.out 2).trans rfl, (pw_cell_below HB.out hw644_0), (pw_cell_below HB.out hw644_1), (pw_cell_below HB.out hw644_2)⟩ (fun hHeld => ?_); refine with_tabW spec_l5Set.tab9 spec_l5Set.bits9 (fun HT_ HW_ => ?_)
           generalize w36.drew = w37 at HO643 BK633 BK634 BK635 BK636 HB hx644_0 hx644_1 hx644_2 hHeld ⊢
           refine pu 0 35 (fb 9 1) HT_ ?_
           refine pu 2 37 (fb 9 5) HT_ ?_
           refine pu 6 41 (fb 9 69) HT_ ?_
           refine tk 1 36 (fb 9 71) HT_ HW_ hHeld ?_
           refine pu 3 38 (fb 9 79) HT_ ?_
           refine pu 4 39 (fb 9 95) HT_ ?_
           refine tk 5 40 (fb 9 127) HT_ HW_ hHeld ?_
           refine tk 7 42 (fb 9 255) HT_ HW_ hHeld ?_
           refine pu 8 43 (fb 9 511) HT_ ?_
           refine done_ (done_of HT_.out (by kernel_rfl)) ?_
           try go_wp2
           go_roundg kj11
           case measure => have := HK1.out; have := HJ11.out; omega
           case rel => exact ⟨(true), (wrap64 (x7_1 + 1)), (y641), (.slice Ao34 y641.length co34), Ye1, Ye1, H', ⟨by have := HK1.out; have := HJ11.out; omega⟩, ⟨kr HO643.out⟩, ⟨bk BK633.out⟩, ⟨bk BK634.out⟩, ⟨bk BK635.out⟩, ⟨bk BK636.out⟩, ⟨be4 HB.out GE633.out GE634.out GE635.out GE636.out⟩⟩
          ·rw [if_neg c25] at H
           have c25b0 : (((rd_T45 l0_0 x7_1).f0).toList == a1_0.toList) = false := beq_eq_false_iff_ne.mpr c25
           have c25b1 : (((rd_T45 l0_0 x7_1).f0).toList != a1_0.toList) = true := bne_iff_ne.mpr c25
           by_cases c38 : y641.length < 3518437208883
           ·rw [if_pos c38] at H
            have LMc38 := Aside0.mk c38
            clear c38
            obtain ⟨y646, hy646⟩ : ∃ y_ : List (S45), y_ = (y641 ++ [(⟨(rd_T45 l0_0 x7_1).f0, (rd_T45 l0_0 x7_1).f1, (rd_T45 l0_0 x7_1).f2⟩ : S45)]) := ⟨_, rfl⟩
            replace H : (spec_l5Set.l0 kj11 true (wrap64 (x7_1 + 1)) l0_0 a1_0 a1_1 a1_2 y646) = some r := by first | (rw [hy646]; with_reducible exact H) | (have H2_ := (Option.bind_some _ _).symm.trans H; rw [hy646]; with_reducible exact H2_) | (have H2_ := (Option.bind_some _ _).symm.trans H; with_reducible exact H2_) | with_reducible exact H | (rw [hy646]; exact H) | exact H
            have Ny646 := Aside0.mk hy646
            clear hy646
            have H' := Aside0.mk H
            clear H
            have hnb39 := NB636_633.out
            have hnc39 := NB633_636.out
            have hnb40 := NB636_634.out
            have hnc40 := NB634_636.out
            have hnb41 := NB636_635.out
            have hnc41 := NB635_636.out
            have ⟨hcz42_0, hfz42_0⟩ := Yc1 BK636.out
            have hnb43 := NB634_633.out
            have hnc43 := NB633_634.out
            have hnb44 := NB634_635.out
            have hnc44 := NB635_634.out
            have ⟨hcz45_0, hcz45_1, hcz45_2, hfz45_0, hfz45_1, hfz45_2⟩ := Yc3 BK634.out
            try go_wp2_with (first | ((with_reducible refine gate_builtin (b := .append) (xs := #[.tmp 30, .tmp 32]) rfl ?_); at_builtin; refine Kd.R_append k45 (w0 := w) w.heap.size rfl (.tmp 30) (.tmp 32) 27 45 (.agg #[(.string ⟨#[]⟩), (.string ⟨#[]⟩), (.bool false)]) 40 rfl Tryd.underlying27 info45 rfl (by decide) (by omega) u637000 x637000_1 (⟨a1_0, a1_1, a1_2⟩ : S45) [.string a1_0, .string a1_1, .bool a1_2] (fun k_ => k_ ≠ gb634) (fun _ => False) rfl rfl ?aP (fun _ hk => hk.elim) ?aF ?aO ?aB ?aS ?aL ?_; (case aP => exact k45_mkM _ _ _ (⟨a1_0, a1_1, a1_2⟩ : S45)); (case aB => exact (be4 HB.out GE633.out GE634.out GE635.out GE636.out)); (case aF => exact (fun k_ hk => Kd.freshB (g := gb634) (o := .cells #[.string a1_0, .string a1_1, .bool a1_2] 45 (0, 0)) (bk BK634.out) k_ hk)); (case aO => exact (kr HO_637000.out)); (case aS => exact (below_size (be4 HB.out GE633.out GE634.out GE635.out GE636.out))); (case aL => have := LMc22.out; omega); intro v642 w46 ho hb hg hat; rw [← Ny641.out] at ho; refine Ya6 (blk_grown (g := gb633) (o := .cells #[.slice A0_0 l0_0.length c0_0] 29 (0, 0)) (bk BK633.out) hg (Kd.R_ne HO_637000.out BK633.out (by decide))) (blk_grown (g := gb634) (o := .cells #[.string a1_0, .string a1_1, .bool a1_2] 45 (0, 0)) (bk BK634.out) hg (Kd.R_away HO_637000.out (fun _ hk => hk))) (blk_grown (g := gb635) (o := .cells #[.slice none 0 0] 29 (0, 0)) (bk BK635.out) hg (Kd.R_ne HO_637000.out BK635.out (by decide))) (blk_grown (g := gb636) (o := .cells #[u637000] 29 (0, 0)) (bk BK636.out) hg (Kd.R_ne HO_637000.out BK636.out (by decide))) (hb) (ho) ?_; clear BK633 BK634 BK635 BK636 HB HO_637000; intro BK633 BK634 BK635 BK636 HB HO643; clear ho hb hg hat; obtain ⟨Ao47, co47, eo47⟩ := Kd.R_slice HO643.out; subst eo47; have ⟨hcz48_0, hfz48_0⟩ := Yc1 BK636.out))
            have n0_ : Aside0 (Kd.R k45 45 (w46.setCell ⟨gb636, 0, none⟩ (.slice Ao47 y641.length co47)) w.heap.size (fun k_ => k_ ≠ gb634) (.slice Ao47 y641.length co47) y641) := ⟨by (with_reducible repeat (first | apply Kd.R_alloc | apply Kd.R_drewN | apply Kd.R_drew)); exact Kd.R_mono (Kd.R_far (p := ⟨gb636, 0, none⟩) (Kd.R_types HO643.out BK636.out (by decide)) (fun _ hk => hk.2) (.slice Ao47 y641.length co47)) (fun _ hk => hk.1)⟩
            have n1_ : Aside0 ((w46.setCell ⟨gb636, 0, none⟩ (.slice Ao47 y641.length co47)).heap[gb633]? = some (.cells #[.slice A0_0 l0_0.length c0_0] 29 (0, 0))) := ⟨bkf BK633.out NB633_636.out⟩
            have n2_ : Aside0 ((w46.setCell ⟨gb636, 0, none⟩ (.slice Ao47 y641.length co47)).heap[gb634]? = some (.cells #[.string a1_0, .string a1_1, .bool a1_2] 45 (0, 0))) := ⟨bkf BK634.out NB634_636.out⟩
            have n3_ : Aside0 ((w46.setCell ⟨gb636, 0, none⟩ (.slice Ao47 y641.length co47)).heap[gb635]? = some (.cells #[.slice none 0 0] 29 (0, 0))) := ⟨bkf BK635.out NB635_636.out⟩
            have n4_ : Aside0 ((w46.setCell ⟨gb636, 0, none⟩ (.slice Ao47 y641.length co47)).heap[gb636]? = some (.cells #[.slice Ao47 y641.length co47] 29 (0, 0))) := ⟨by (with_reducible repeat (first | refine blk_drewN ?_ _ | refine blk_drew ?_ | refine blk_alloc ?_ _)); refine blk_put (cs := #[u637000]) ?_ 0 _ rfl; (with_reducible repeat (first | refine blk_drewN ?_ _ | refine blk_drew ?_ | refine blk_alloc ?_ _)); exact BK636.out⟩
            have n5_ : Aside0 (Below w.heap.size w (w46.setCell ⟨gb636, 0, none⟩ (.slice Ao47 y641.length co47))) := ⟨be4 HB.out GE633.out GE634.out GE635.out GE636.out⟩
            (try clear HO643)
            (try clear BK633)
            (try clear BK634)
            (try clear BK635)
            (try clear BK636)
            (try clear HB)
            generalize (w46.setCell ⟨gb636, 0, none⟩ (.slice Ao47 y641.length co47)) = w49 at n0_ n1_ n2_ n3_ n4_ n5_ ⊢
            have HO643 := n0_
            have BK633 := n1_
            have BK634 := n2_
            have BK635 := n3_
            have BK636 := n4_
            have HB := n5_
            clear n0_ n1_ n2_ n3_ n4_ n5_
            refine Ya6 (Kd.R_drew HO643.out) (blk_drew BK633.out) (blk_drew BK634.out) (blk_drew BK635.out) (blk_drew BK636.out) (below_drew1 HB.out) ?_
            clear HO643 BK633 BK634 BK635 BK636 HB
            intro HO643 BK633 BK634 BK635 BK636 HB
            have p644 : 0 ≤ (x7_1 : Int) := oda
            have q644 : x7_1 < (l0_0.length : Int) := oda
            obtain ⟨ad644, e644, hx644_0, hx644_1, hx644_2⟩ := at_T45 HR0_0.out x7_1 p644 q644
            have hw644_2 := hx644_2
            have hw644_1 := hx644_1
            have hw644_0 := hx644_0
            cases e644
            replace hx644_0 := pw_cell_below HB.out hx644_0
            replace hx644_1 := pw_cell_below HB.out hx644_1
            replace hx644_2 := pw_cell_below HB.out hx644_2
            replace p644 := eq_true p644
            replace q644 := eq_true q644
            refine start_ (n := 9) (S := fun w' => w'.cell? ⟨gb633, 0, none⟩ = some (.slice (some ad644) l0_0.length c0_0) ∧ w'.cell? ⟨gb634, 0, none⟩ = some (.string a1_0) ∧ w'.cell? ⟨gb634, 1, none⟩ = some (.string a1_1) ∧ w'.cell? ⟨gb634, 2, none⟩ = some (.bool a1_2) ∧ w'.cell? (ad644.add ((x7_1).toNat * 3)) = some (.string ((rd_T45 l0_0 x7_1).f0)) ∧ w'.cell? ⟨(ad644.add ((x7_1).toNat * 3)).block, (ad644.add ((x7_1).toNat * 3)).off + 1, none⟩ = some (.string ((rd_T45 l0_0 x7_1).f1)) ∧ w'.cell? ⟨(ad644.add ((x7_1).toNat * 3)).block, (ad644.add ((x7_1).toNat * 3)).off + 2, none⟩ = some (.bool ((rd_T45 l0_0 x7_1).f2))) (ds := []) (fb 9 0) (by kernel_rfl) rfl rfl ⟨(blk_cell BK633.out 0).trans rfl, (blk_cell BK634.out 0).trans rfl, (blk_cell BK634.out 1).trans rfl, (blk_cell BK634.out 2).trans rfl, (pw_cell_below HB.out hw644_0), (pw_cell_below HB.out hw644_1), (pw_cell_below HB.out hw644_2)⟩ (fun hHeld => ?_); refine with_tabW spec_l5Set.tab9 spec_l5Set.bits9 (fun HT_ HW_ => ?_)
            generalize w49.drew = w50 at HO643 BK633 BK634 BK635 BK636 HB hx644_0 hx644_1 hx644_2 hHeld ⊢
            refine pu 0 35 (fb 9 1) HT_ ?_
            refine pu 2 37 (fb 9 5) HT_ ?_
            refine pu 6 41 (fb 9 69) HT_ ?_
            refine tk 1 36 (fb 9 71) HT_ HW_ hHeld ?_
            refine pu 3 38 (fb 9 79) HT_ ?_
            refine pu 4 39 (fb 9 95) HT_ ?_
            refine tk 5 40 (fb 9 127) HT_ HW_ hHeld ?_
            refine tk 7 42 (fb 9 255) HT_ HW_ hHeld ?_
            refine pu 8 43 (fb 9 511) HT_ ?_
            refine done_ (done_of HT_.out (by kernel_rfl)) ?_
            try go_wp2
            refine Ya6 (Kd.R_drew HO643.out) (blk_drew BK633.out) (blk_drew BK634.out) (blk_drew BK635.out) (blk_drew BK636.out) (below_drew1 HB.out) ?_
            clear HO643 BK633 BK634 BK635 BK636 HB
            intro HO643 BK633 BK634 BK635 BK636 HB
            have p645 : 0 ≤ (x7_1 : Int) := oda
            have q645 : x7_1 < (l0_0.length : Int) := oda
            obtain ⟨ad645, e645, hx645_0, hx645_1, hx645_2⟩ := at_T45 HR0_0.out x7_1 p645 q645
            have hw645_2 := hx645_2
            have hw645_1 := hx645_1
            have hw645_0 := hx645_0
            obtain rfl : ad644 = ad645 := (by injection e645)
            replace hx645_0 := pw_cell_below HB.out hx645_0
            replace hx645_1 := pw_cell_below HB.out hx645_1
            replace hx645_2 := pw_cell_below HB.out hx645_2
            replace p645 := eq_true p645
            replace q645 := eq_true q645
            refine start_ (n := 11) (S := fun w' => w'.cell? ⟨gb636, 0, none⟩ = some (.slice Ao47 y641.length co47) ∧ w'.cell? ⟨gb633, 0, none⟩ = some (.slice (some ad644) l0_0.length c0_0) ∧ w'.cell? (ad644.add ((x7_1).toNat * 3)) = some (.string ((rd_T45 l0_0 x7_1).f0)) ∧ w'.cell? ⟨(ad644.add ((x7_1).toNat * 3)).block, (ad644.add ((x7_1).toNat * 3)).off + 1, none⟩ = some (.string ((rd_T45 l0_0 x7_1).f1)) ∧ w'.cell? ⟨(ad644.add ((x7_1).toNat * 3)).block, (ad644.add ((x7_1).toNat * 3)).off + 2, none⟩ = some (.bool ((rd_T45 l0_0 x7_1).f2))) (ds := [10]) (fb 11 0) (by kernel_rfl) rfl rfl ⟨(blk_cell BK636.out 0).trans rfl, (blk_cell BK633.out 0).trans rfl, (pw_cell_below HB.out hw645_0), (pw_cell_below HB.out hw645_1), (pw_cell_below HB.out hw645_2)⟩ (fun hHeld => ?_); refine with_tabW spec_l5Set.tab10 spec_l5Set.bits10 (fun HT_ HW_ => ?_)
            generalize w50.drew = w51 at HO643 BK633 BK634 BK635 BK636 HB hx645_0 hx645_1 hx645_2 hHeld ⊢
            refine pu 0 44 (fb 11 1) HT_ ?_
            refine pu 2 46 (fb 11 5) HT_ ?_
            refine pu 4 48 (fb 11 21) HT_ ?_
            refine tk 1 45 (fb 11 23) HT_ HW_ hHeld ?_
            refine tk 3 47 (fb 11 31) HT_ HW_ hHeld ?_
            refine pu 5 49 (fb 11 63) HT_ ?_
            refine tk 6 50 (fb 11 127) HT_ HW_ hHeld ?_
            refine one_ (i := 7) (N := some 51) (fb 11 255) rfl rfl (one_of HT_.out (by kernel_rfl)) (by decide) (fun K hK => ?_)
            refine value_ (w1 := ?_) (v := ?_) (by rfl) rfl ?_ ?_
            rotate_left 2
            ·go_simp
             constructor
             ·rfl
             ·rfl
            refine hK.out _ _ ⟨(blk_cell (blk_alloc BK636.out _) 0).trans rfl, (blk_cell (blk_alloc BK633.out _) 0).trans rfl, (World.cell?_alloc_lt _ _ _ (World.block_lt_of_cell? _ _ ((pw_cell_below HB.out hw645_0)))).trans ((pw_cell_below HB.out hw645_0)), (World.cell?_alloc_lt _ _ _ (World.block_lt_of_cell? _ _ ((pw_cell_below HB.out hw645_1)))).trans ((pw_cell_below HB.out hw645_1)), (World.cell?_alloc_lt _ _ _ (World.block_lt_of_cell? _ _ ((pw_cell_below HB.out hw645_2)))).trans ((pw_cell_below HB.out hw645_2))⟩ (fun hHeld => ?_)
            clear hK K
            refine norm_ (a' := ?_) ?_ ?_
            rotate_left
            ·show Act.put _ (some 51) _ = _
             simp only [Act.put, List.setIfInBounds_toArray, List.set_cons_zero, List.set_cons_succ, i64_w, i32_w]
             rfl
            refine one_ (i := 8) (N := some 52) (fb 11 511) rfl rfl (one_of HT_.out (by kernel_rfl)) (by decide) (fun K hK => ?_)
            refine Kd.R_append_step k45 (w0 := w) w.heap.size (by rfl) (.tmp 45) (.tmp 51) 27 45 (.agg #[(.string ⟨#[]⟩), (.string ⟨#[]⟩), (.bool false)]) 40 rfl Tryd.underlying27 info45 rfl (by decide) (by omega) (.slice Ao47 y641.length co47) y641 (⟨(rd_T45 l0_0 x7_1).f0, (rd_T45 l0_0 x7_1).f1, (rd_T45 l0_0 x7_1).f2⟩ : S45) [.string ((rd_T45 l0_0 x7_1).f0), .string ((rd_T45 l0_0 x7_1).f1), .bool ((rd_T45 l0_0 x7_1).f2)] (fun k_ => k_ ≠ gb634) (fun _ => False) rfl rfl ?aP (fun _ hk => hk.elim) ?aF ?aO ?aB ?aS ?aL ?_
            (case aP => exact k45_mkM _ _ _ (⟨(rd_T45 l0_0 x7_1).f0, (rd_T45 l0_0 x7_1).f1, (rd_T45 l0_0 x7_1).f2⟩ : S45))
            (case aB => exact (be4 HB.out GE633.out GE634.out GE635.out GE636.out))
            (case aF => exact (fun k_ hk => Kd.freshB (g := gb634) (o := .cells #[.string a1_0, .string a1_1, .bool a1_2] 45 (0, 0)) (bk BK634.out) k_ hk))
            (case aO => exact (kr HO643.out))
            (case aS => exact (below_size (be4 HB.out GE633.out GE634.out GE635.out GE636.out)))
            (case aL => have := LMc38.out; omega)
            intro v647 w52 ho hb hg hat
            rw [← Ny646.out] at ho
            refine Ya6 (blk_grown (g := gb633) (o := .cells #[.slice (some ad644) l0_0.length c0_0] 29 (0, 0)) (bk BK633.out) hg (Kd.R_ne HO643.out BK633.out (by decide))) (blk_grown (g := gb634) (o := .cells #[.string a1_0, .string a1_1, .bool a1_2] 45 (0, 0)) (bk BK634.out) hg (Kd.R_away HO643.out (fun _ hk => hk))) (blk_grown (g := gb635) (o := .cells #[.slice none 0 0] 29 (0, 0)) (bk BK635.out) hg (Kd.R_ne HO643.out BK635.out (by decide))) (blk_grown (g := gb636) (o := .cells #[.slice Ao47 y641.length co47] 29 (0, 0)) (bk BK636.out) hg (Kd.R_ne HO643.out BK636.out (by decide))) (hb) (ho) ?_
            clear BK633 BK634 BK635 BK636 HB HO643
            intro BK633 BK634 BK635 BK636 HB HO648
            clear ho hb hg hat
            obtain ⟨Ao53, co53, eo53⟩ := Kd.R_slice HO648.out
            (first | subst eo53 | (injection eo53 with f1_ f2_ f3_; have f4_ := f1_.symm; have f5_ := f3_.symm; clear f1_ f2_ f3_; subst f4_; subst f5_))
            refine hK.out _ _ ⟨(blk_cell BK636.out 0).trans rfl, (blk_cell BK633.out 0).trans rfl, (pw_cell_below HB.out hw645_0), (pw_cell_below HB.out hw645_1), (pw_cell_below HB.out hw645_2)⟩ (fun hHeld => ?_)
            clear hK K
            refine norm_ (a' := ?_) ?_ ?_
            rotate_left
            ·show Act.put _ (some 52) _ = _
             simp only [Act.put, List.setIfInBounds_toArray, List.set_cons_zero, List.set_cons_succ, i64_w, i32_w]
             rfl
            refine pu 9 53 (fb 11 1023) HT_ ?_
            refine last_ (i := 10) (N := none) (fb 11 2047) rfl rfl (one_of HT_.out (by kernel_rfl)) (by decide) (fun K hK => ?_)
            have hs54 : w52.cell? ⟨gb636, 0, none⟩ = some (.slice Ao47 y641.length co47) := (blk_cell BK636.out 0).trans rfl
            have hfs54 := blk_frozen BK636.out 0
            have hns54_0 := NB633_636.out
            have hns54_1 := NB634_636.out
            have hns54_2 := NB635_636.out
            have hms54_0 := NB636_633.out
            have hms54_1 := NB636_634.out
            have hms54_2 := NB636_635.out
            refine skip_ (w1 := ?_) (by rfl) rfl ?_ ?_
            rotate_left
            ·go_simp
             rfl
            refine hK.out _ _ ?_
            clear hK K
            refine done_ (done_of HT_.out (by kernel_rfl)) ?_
            try go_wp2
            go_roundg kj11
            case measure => have := HK1.out; have := HJ11.out; omega
            case rel => exact ⟨(true), (wrap64 (x7_1 + 1)), (y646), (.slice Ao53 y646.length co53), Ye1, Ye1, H', ⟨by have := HK1.out; have := HJ11.out; omega⟩, ⟨by (with_reducible repeat (first | apply Kd.R_alloc | apply Kd.R_drewN | apply Kd.R_drew)); exact Kd.R_mono (Kd.R_far (p := ⟨gb636, 0, none⟩) (Kd.R_types HO648.out BK636.out (by decide)) (fun _ hk => hk.2) (.slice Ao53 y646.length co53)) (fun _ hk => hk.1)⟩, ⟨bkf BK633.out NB633_636.out⟩, ⟨bkf BK634.out NB634_636.out⟩, ⟨bkf BK635.out NB635_636.out⟩, ⟨by (with_reducible repeat (first | refine blk_drewN ?_ _ | refine blk_drew ?_ | refine blk_alloc ?_ _)); refine blk_put (cs := #[.slice Ao47 y641.length co47]) ?_ 0 _ rfl; (with_reducible repeat (first | refine blk_drewN ?_ _ | refine blk_drew ?_ | refine blk_alloc ?_ _)); exact BK636.out⟩, ⟨be4 HB.out GE633.out GE634.out GE635.out GE636.out⟩⟩
           ·rw [if_neg c38] at H
            exact absurd H (by simp)
         ·rw [if_neg c24] at H
          exact absurd H (by simp)
        ·rw [if_neg c23] at H
         exact absurd H (by simp)
       ·rw [if_neg c22] at H
        exact absurd H (by simp)
      ·replace c21 := Bool.eq_false_iff.mpr c21
       subst c21
       have H1 : (if 0 ≤ x7_1 then (if x7_1 < (l0_0.length : Int) then (if ((rd_T45 l0_0 x7_1).f0).toList = a1_0.toList then (spec_l5Set.l0 kj11 x6_1 (wrap64 (x7_1 + 1)) l0_0 a1_0 a1_1 a1_2 x637000_1) else (if x637000_1.length < 3518437208883 then (spec_l5Set.l0 kj11 x6_1 (wrap64 (x7_1 + 1)) l0_0 a1_0 a1_1 a1_2 (x637000_1 ++ [(⟨(rd_T45 l0_0 x7_1).f0, (rd_T45 l0_0 x7_1).f1, (rd_T45 l0_0 x7_1).f2⟩ : S45)])) else (none))) else (none)) else (none)) = some r := by rw [if_neg (show ¬ (false = true) by decide)] at H; exact H
       clear H
       have H := H1
       clear H1
       by_cases c55 : 0 ≤ x7_1
       ·rw [if_pos c55] at H
        have c55b0 : decide (0 ≤ x7_1) = true := decide_eq_true c55
        clear c55
        by_cases c56 : x7_1 < (l0_0.length : Int)
        ·rw [if_pos c56] at H
         have c56b0 : decide (x7_1 < (l0_0.length : Int)) = true := decide_eq_true c56
         clear c56
         by_cases c57 : ((rd_T45 l0_0 x7_1).f0).toList = a1_0.toList
         ·rw [if_pos c57] at H
          have c57b0 : (((rd_T45 l0_0 x7_1).f0).toList == a1_0.toList) = true := beq_iff_eq.mpr c57
          have c57b1 : (((rd_T45 l0_0 x7_1).f0).toList != a1_0.toList) = false := bne_eq_false_iff_eq.mpr c57
          clear c57
          have H' := Aside0.mk H
          clear H
          try go_wp2
          refine Ya6 (Kd.R_drew HO_637000.out) (blk_drew BK633.out) (blk_drew BK634.out) (blk_drew BK635.out) (blk_drew BK636.out) (below_drew1 HB.out) ?_
          clear HO_637000 BK633 BK634 BK635 BK636 HB
          intro HO_637000 BK633 BK634 BK635 BK636 HB
          have p649 : 0 ≤ (x7_1 : Int) := oda
          have q649 : x7_1 < (l0_0.length : Int) := oda
          obtain ⟨ad649, e649, hx649_0, hx649_1, hx649_2⟩ := at_T45 HR0_0.out x7_1 p649 q649
          have hw649_2 := hx649_2
          have hw649_1 := hx649_1
          have hw649_0 := hx649_0
          cases e649
          replace hx649_0 := pw_cell_below HB.out hx649_0
          replace hx649_1 := pw_cell_below HB.out hx649_1
          replace hx649_2 := pw_cell_below HB.out hx649_2
          replace p649 := eq_true p649
          replace q649 := eq_true q649
          refine start_ (n := 9) (S := fun w' => w'.cell? ⟨gb633, 0, none⟩ = some (.slice (some ad649) l0_0.length c0_0) ∧ w'.cell? ⟨gb634, 0, none⟩ = some (.string a1_0) ∧ w'.cell? ⟨gb634, 1, none⟩ = some (.string a1_1) ∧ w'.cell? ⟨gb634, 2, none⟩ = some (.bool a1_2) ∧ w'.cell? (ad649.add ((x7_1).toNat * 3)) = some (.string ((rd_T45 l0_0 x7_1).f0)) ∧ w'.cell? ⟨(ad649.add ((x7_1).toNat * 3)).block, (ad649.add ((x7_1).toNat * 3)).off + 1, none⟩ = some (.string ((rd_T45 l0_0 x7_1).f1)) ∧ w'.cell? ⟨(ad649.add ((x7_1).toNat * 3)).block, (ad649.add ((x7_1).toNat * 3)).off + 2, none⟩ = some (.bool ((rd_T45 l0_0 x7_1).f2))) (ds := []) (fb 9 0) (by kernel_rfl) rfl rfl ⟨(blk_cell BK633.out 0).trans rfl, (blk_cell BK634.out 0).trans rfl, (blk_cell BK634.out 1).trans rfl, (blk_cell BK634.out 2).trans rfl, (pw_cell_below HB.out hw649_0), (pw_cell_below HB.out hw649_1), (pw_cell_below HB.out hw649_2)⟩ (fun hHeld => ?_); refine with_tabW spec_l5Set.tab9 spec_l5Set.bits9 (fun HT_ HW_ => ?_)
          generalize wc.drew = w58 at HO_637000 BK633 BK634 BK635 BK636 HB hx649_0 hx649_1 hx649_2 hHeld ⊢
          refine pu 0 35 (fb 9 1) HT_ ?_
          refine pu 2 37 (fb 9 5) HT_ ?_
          refine pu 6 41 (fb 9 69) HT_ ?_
          refine tk 1 36 (fb 9 71) HT_ HW_ hHeld ?_
          refine pu 3 38 (fb 9 79) HT_ ?_
          refine pu 4 39 (fb 9 95) HT_ ?_
          refine tk 5 40 (fb 9 127) HT_ HW_ hHeld ?_
          refine tk 7 42 (fb 9 255) HT_ HW_ hHeld ?_
          refine pu 8 43 (fb 9 511) HT_ ?_
          refine done_ (done_of HT_.out (by kernel_rfl)) ?_
          try go_wp2
          go_roundg kj11
          case measure => have := HK1.out; have := HJ11.out; omega
          case rel => exact ⟨(x6_1), (wrap64 (x7_1 + 1)), (x637000_1), (u637000), Ye1, Ye1, H', ⟨by have := HK1.out; have := HJ11.out; omega⟩, ⟨kr HO_637000.out⟩, ⟨bk BK633.out⟩, ⟨bk BK634.out⟩, ⟨bk BK635.out⟩, ⟨bk BK636.out⟩, ⟨be4 HB.out GE633.out GE634.out GE635.out GE636.out⟩⟩
         ·rw [if_neg c57] at H
          have c57b0 : (((rd_T45 l0_0 x7_1).f0).toList == a1_0.toList) = false := beq_eq_false_iff_ne.mpr c57
          have c57b1 : (((rd_T45 l0_0 x7_1).f0).toList != a1_0.toList) = true := bne_iff_ne.mpr c57
          by_cases c59 : x637000_1.length < 3518437208883
          ·rw [if_pos c59] at H
           have LMc59 := Aside0.mk c59
           clear c59
           obtain ⟨y651, hy651⟩ : ∃ y_ : List (S45), y_ = (x637000_1 ++ [(⟨(rd_T45 l0_0 x7_1).f0, (rd_T45 l0_0 x7_1).f1, (rd_T45 l0_0 x7_1).f2⟩ : S45)]) := ⟨_, rfl⟩
           replace H : (spec_l5Set.l0 kj11 x6_1 (wrap64 (x7_1 + 1)) l0_0 a1_0 a1_1 a1_2 y651) = some r := by first | (rw [hy651]; with_reducible exact H) | (have H2_ := (Option.bind_some _ _).symm.trans H; rw [hy651]; with_reducible exact H2_) | (have H2_ := (Option.bind_some _ _).symm.trans H; with_reducible exact H2_) | with_reducible exact H | (rw [hy651]; exact H) | exact H
           have Ny651 := Aside0.mk hy651
           clear hy651
           have H' := Aside0.mk H
           clear H
           try go_wp2
           refine Ya6 (Kd.R_drew HO_637000.out) (blk_drew BK633.out) (blk_drew BK634.out) (blk_drew BK635.out) (blk_drew BK636.out) (below_drew1 HB.out) ?_
           clear HO_637000 BK633 BK634 BK635 BK636 HB
           intro HO_637000 BK633 BK634 BK635 BK636 HB
           have p649 : 0 ≤ (x7_1 : Int) := oda
           have q649 : x7_1 < (l0_0.length : Int) := oda
           obtain ⟨ad649, e649, hx649_0, hx649_1, hx649_2⟩ := at_T45 HR0_0.out x7_1 p649 q649
           have hw649_2 := hx649_2
           have hw649_1 := hx649_1
           have hw649_0 := hx649_0
           cases e649
           replace hx649_0 := pw_cell_below HB.out hx649_0
           replace hx649_1 := pw_cell_below HB.out hx649_1
           replace hx649_2 := pw_cell_below HB.out hx649_2
           replace p649 := eq_true p649
           replace q649 := eq_true q649
           refine start_ (n := 9) (S := fun w' => w'.cell? ⟨gb633, 0, none⟩ = some (.slice (some ad649) l0_0.length c0_0) ∧ w'.cell? ⟨gb634, 0, none⟩ = some (.string a1_0) ∧ w'.cell? ⟨gb634, 1, none⟩ = some (.string a1_1) ∧ w'.cell? ⟨gb634, 2, none⟩ = some (.bool a1_2) ∧ w'.cell? (ad649.add ((x7_1).toNat * 3)) = some (.string ((rd_T45 l0_0 x7_1).f0)) ∧ w'.cell? ⟨(ad649.add ((x7_1).toNat * 3)).block, (ad649.add ((x7_1).toNat * 3)).off + 1, none⟩ = some (.string ((rd_T45 l0_0 x7_1).f1)) ∧ w'.cell? ⟨(ad649.add ((x7_1).toNat * 3)).block, (ad649.add ((x7_1).toNat * 3)).off + 2, none⟩ = some (.bool ((rd_T45 l0_0 x7_1).f2))) (ds := []) (fb 9 0) (by kernel_rfl) rfl rfl ⟨(blk_cell BK633.out 0).trans rfl, (blk_cell BK634.out 0).trans rfl, (blk_cell BK634.out 1).trans rfl, (blk_cell BK634.out 2).trans rfl, (pw_cell_below HB.out hw649_0), (pw_cell_below HB.out hw649_1), (pw_cell_below HB.out hw649_2)⟩ (fun hHeld => ?_); refine with_tabW spec_l5Set.tab9 spec_l5Set.bits9 (fun HT_ HW_ => ?_)
           generalize wc.drew = w60 at HO_637000 BK633 BK634 BK635 BK636 HB hx649_0 hx649_1 hx649_2 hHeld ⊢
           refine pu 0 35 (fb 9 1) HT_ ?_
           refine pu 2 37 (fb 9 5) HT_ ?_
           refine pu 6 41 (fb 9 69) HT_ ?_
           refine tk 1 36 (fb 9 71) HT_ HW_ hHeld ?_
           refine pu 3 38 (fb 9 79) HT_ ?_
           refine pu 4 39 (fb 9 95) HT_ ?_
           refine tk 5 40 (fb 9 127) HT_ HW_ hHeld ?_
           refine tk 7 42 (fb 9 255) HT_ HW_ hHeld ?_
           refine pu 8 43 (fb 9 511) HT_ ?_
           refine done_ (done_of HT_.out (by kernel_rfl)) ?_
           try go_wp2
           refine Ya6 (Kd.R_drew HO_637000.out) (blk_drew BK633.out) (blk_drew BK634.out) (blk_drew BK635.out) (blk_drew BK636.out) (below_drew1 HB.out) ?_
           clear HO_637000 BK633 BK634 BK635 BK636 HB
           intro HO_637000 BK633 BK634 BK635 BK636 HB
           have p650 : 0 ≤ (x7_1 : Int) := oda
           have q650 : x7_1 < (l0_0.length : Int) := oda
           obtain ⟨ad650, e650, hx650_0, hx650_1, hx650_2⟩ := at_T45 HR0_0.out x7_1 p650 q650
           have hw650_2 := hx650_2
           have hw650_1 := hx650_1
           have hw650_0 := hx650_0
           obtain rfl : ad649 = ad650 := (by injection e650)
           replace hx650_0 := pw_cell_below HB.out hx650_0
           replace hx650_1 := pw_cell_below HB.out hx650_1
           replace hx650_2 := pw_cell_below HB.out hx650_2
           replace p650 := eq_true p650
           replace q650 := eq_true q650
           refine start_ (n := 11) (S := fun w' => w'.cell? ⟨gb636, 0, none⟩ = some (u637000) ∧ w'.cell? ⟨gb633, 0, none⟩ = some (.slice (some ad649) l0_0.length c0_0) ∧ w'.cell? (ad649.add ((x7_1).toNat * 3)) = some (.string ((rd_T45 l0_0 x7_1).f0)) ∧ w'.cell? ⟨(ad649.add ((x7_1).toNat * 3)).block, (ad649.add ((x7_1).toNat * 3)).off + 1, none⟩ = some (.string ((rd_T45 l0_0 x7_1).f1)) ∧ w'.cell? ⟨(ad649.add ((x7_1).toNat * 3)).block, (ad649.add ((x7_1).toNat * 3)).off + 2, none⟩ = some (.bool ((rd_T45 l0_0 x7_1).f2))) (ds := [10]) (fb 11 0) (by kernel_rfl) rfl rfl ⟨(blk_cell BK636.out 0).trans rfl, (blk_cell BK633.out 0).trans rfl, (pw_cell_below HB.out hw650_0), (pw_cell_below HB.out hw650_1), (pw_cell_below HB.out hw650_2)⟩ (fun hHeld => ?_); refine with_tabW spec_l5Set.tab10 spec_l5Set.bits10 (fun HT_ HW_ => ?_)
           generalize w60.drew = w61 at HO_637000 BK633 BK634 BK635 BK636 HB hx650_0 hx650_1 hx650_2 hHeld ⊢
           refine pu 0 44 (fb 11 1) HT_ ?_
           refine pu 2 46 (fb 11 5) HT_ ?_
           refine pu 4 48 (fb 11 21) HT_ ?_
           refine tk 1 45 (fb 11 23) HT_ HW_ hHeld ?_
           refine tk 3 47 (fb 11 31) HT_ HW_ hHeld ?_
           refine pu 5 49 (fb 11 63) HT_ ?_
           refine tk 6 50 (fb 11 127) HT_ HW_ hHeld ?_
           refine one_ (i := 7) (N := some 51) (fb 11 255) rfl rfl (one_of HT_.out (by kernel_rfl)) (by decide) (fun K hK => ?_)
           refine value_ (w1 := ?_) (v := ?_) (by rfl) rfl ?_ ?_
           rotate_left 2
           ·go_simp
            constructor
            ·rfl
            ·rfl
           refine hK.out _ _ ⟨(blk_cell (blk_alloc BK636.out _) 0).trans rfl, (blk_cell (blk_alloc BK633.out _) 0).trans rfl, (World.cell?_alloc_lt _ _ _ (World.block_lt_of_cell? _ _ ((pw_cell_below HB.out hw650_0)))).trans ((pw_cell_below HB.out hw650_0)), (World.cell?_alloc_lt _ _ _ (World.block_lt_of_cell? _ _ ((pw_cell_below HB.out hw650_1)))).trans ((pw_cell_below HB.out hw650_1)), (World.cell?_alloc_lt _ _ _ (World.block_lt_of_cell? _ _ ((pw_cell_below HB.out hw650_2)))).trans ((pw_cell_below HB.out hw650_2))⟩ (fun hHeld => ?_)
           clear hK K
           refine norm_ (a' := ?_) ?_ ?_
           rotate_left
           ·show Act.put _ (some 51) _ = _
            simp only [Act.put, List.setIfInBounds_toArray, List.set_cons_zero, List.set_cons_succ, i64_w, i32_w]
            rfl
           refine one_ (i := 8) (N := some 52) (fb 11 511) rfl rfl (one_of HT_.out (by kernel_rfl)) (by decide) (fun K hK => ?_)
           refine Kd.R_append_step k45 (w0 := w) w.heap.size (by rfl) (.tmp 45) (.tmp 51) 27 45 (.agg #[(.string ⟨#[]⟩), (.string ⟨#[]⟩), (.bool false)]) 40 rfl Tryd.underlying27 info45 rfl (by decide) (by omega) u637000 x637000_1 (⟨(rd_T45 l0_0 x7_1).f0, (rd_T45 l0_0 x7_1).f1, (rd_T45 l0_0 x7_1).f2⟩ : S45) [.string ((rd_T45 l0_0 x7_1).f0), .string ((rd_T45 l0_0 x7_1).f1), .bool ((rd_T45 l0_0 x7_1).f2)] (fun k_ => k_ ≠ gb634) (fun _ => False) rfl rfl ?aP (fun _ hk => hk.elim) ?aF ?aO ?aB ?aS ?aL ?_
           (case aP => exact k45_mkM _ _ _ (⟨(rd_T45 l0_0 x7_1).f0, (rd_T45 l0_0 x7_1).f1, (rd_T45 l0_0 x7_1).f2⟩ : S45))
           (case aB => exact (be4 HB.out GE633.out GE634.out GE635.out GE636.out))
           (case aF => exact (fun k_ hk => Kd.freshB (g := gb634) (o := .cells #[.string a1_0, .string a1_1, .bool a1_2] 45 (0, 0)) (bk BK634.out) k_ hk))
           (case aO => exact (kr HO_637000.out))
           (case aS => exact (below_size (be4 HB.out GE633.out GE634.out GE635.out GE636.out)))
           (case aL => have := LMc59.out; omega)
           intro v652 w62 ho hb hg hat
           rw [← Ny651.out] at ho
           refine Ya6 (blk_grown (g := gb633) (o := .cells #[.slice (some ad649) l0_0.length c0_0] 29 (0, 0)) (bk BK633.out) hg (Kd.R_ne HO_637000.out BK633.out (by decide))) (blk_grown (g := gb634) (o := .cells #[.string a1_0, .string a1_1, .bool a1_2] 45 (0, 0)) (bk BK634.out) hg (Kd.R_away HO_637000.out (fun _ hk => hk))) (blk_grown (g := gb635) (o := .cells #[.slice none 0 0] 29 (0, 0)) (bk BK635.out) hg (Kd.R_ne HO_637000.out BK635.out (by decide))) (blk_grown (g := gb636) (o := .cells #[u637000] 29 (0, 0)) (bk BK636.out) hg (Kd.R_ne HO_637000.out BK636.out (by decide))) (hb) (ho) ?_
           clear BK633 BK634 BK635 BK636 HB HO_637000
           intro BK633 BK634 BK635 BK636 HB HO653
           clear ho hb hg hat
           obtain ⟨Ao63, co63, eo63⟩ := Kd.R_slice HO653.out
           (first | subst eo63 | (injection eo63 with f1_ f2_ f3_; have f4_ := f1_.symm; have f5_ := f3_.symm; clear f1_ f2_ f3_; subst f4_; subst f5_))
           refine hK.out _ _ ⟨(blk_cell BK636.out 0).trans rfl, (blk_cell BK633.out 0).trans rfl, (pw_cell_below HB.out hw650_0), (pw_cell_below HB.out hw650_1), (pw_cell_below HB.out hw650_2)⟩ (fun hHeld => ?_)
           clear hK K
           refine norm_ (a' := ?_) ?_ ?_
           rotate_left
           ·show Act.put _ (some 52) _ = _
            simp only [Act.put, List.setIfInBounds_toArray, List.set_cons_zero, List.set_cons_succ, i64_w, i32_w]
            rfl
           refine pu 9 53 (fb 11 1023) HT_ ?_
           refine last_ (i := 10) (N := none) (fb 11 2047) rfl rfl (one_of HT_.out (by kernel_rfl)) (by decide) (fun K hK => ?_)
           have hs64 : w62.cell? ⟨gb636, 0, none⟩ = some (u637000) := (blk_cell BK636.out 0).trans rfl
           have hfs64 := blk_frozen BK636.out 0
           have hns64_0 := NB633_636.out
           have hns64_1 := NB634_636.out
           have hns64_2 := NB635_636.out
           have hms64_0 := NB636_633.out
           have hms64_1 := NB636_634.out
           have hms64_2 := NB636_635.out
           refine skip_ (w1 := ?_) (by rfl) rfl ?_ ?_
           rotate_left
           ·go_simp
            rfl
           refine hK.out _ _ ?_
           clear hK K
           refine done_ (done_of HT_.out (by kernel_rfl)) ?_
           try go_wp2
           go_roundg kj11
           case measure => have := HK1.out; have := HJ11.out; omega
           case rel => exact ⟨(x6_1), (wrap64 (x7_1 + 1)), (y651), (.slice Ao63 y651.length co63), Ye1, Ye1, H', ⟨by have := HK1.out; have := HJ11.out; omega⟩, ⟨by (with_reducible repeat (first | apply Kd.R_alloc | apply Kd.R_drewN | apply Kd.R_drew)); exact Kd.R_mono (Kd.R_far (p := ⟨gb636, 0, none⟩) (Kd.R_types HO653.out BK636.out (by decide)) (fun _ hk => hk.2) (.slice Ao63 y651.length co63)) (fun _ hk => hk.1)⟩, ⟨bkf BK633.out NB633_636.out⟩, ⟨bkf BK634.out NB634_636.out⟩, ⟨bkf BK635.out NB635_636.out⟩, ⟨by (with_reducible repeat (first | refine blk_drewN ?_ _ | refine blk_drew ?_ | refine blk_alloc ?_ _)); refine blk_put (cs := #[u637000]) ?_ 0 _ rfl; (with_reducible repeat (first | refine blk_drewN ?_ _ | refine blk_drew ?_ | refine blk_alloc ?_ _)); exact BK636.out⟩, ⟨be4 HB.out GE633.out GE634.out GE635.out GE636.out⟩⟩
          ·rw [if_neg c59] at H
           exact absurd H (by simp)
        ·rw [if_neg c56] at H
         exact absurd H (by simp)
       ·rw [if_neg c55] at H
        exact absurd H (by simp)
   ·rw [if_neg c11] at H
    have c11b0 : decide (x7_1 < (l0_0.length : Int)) = false := decide_eq_false c11
    clear c11
    by_cases c65 : x6_1 = true
    ·subst c65
     have H1 : (some x637000_1) = some r := by rw [if_pos rfl] at H; exact H
     clear H
     have H := H1
     clear H1
     obtain rfl := Option.some.inj H
     have hnb66 := NB633_634.out
     have hnc66 := NB634_633.out
     have hnb67 := NB633_635.out
     have hnc67 := NB635_633.out
     have hnb68 := NB633_636.out
     have hnc68 := NB636_633.out
     have ⟨hcz69_0, hfz69_0⟩ := Yc1 BK633.out
     have hnb70 := NB636_634.out
     have hnc70 := NB634_636.out
     have hnb71 := NB636_635.out
     have hnc71 := NB635_636.out
     have ⟨hcz72_0, hfz72_0⟩ := Yc1 BK636.out
     obtain ⟨Ao73, co73, eo73⟩ := Kd.R_slice HO_637000.out
     subst eo73
     have hnb74 := NB635_634.out
     have hnc74 := NB634_635.out
     have ⟨hcz75_0, hfz75_0⟩ := Yc1 BK635.out
     go_wp2
     refine bodyPost_ret (results_cell_row rfl _ _ gb635 29 #[.slice Ao73 x637000_1.length co73] (0, 0) _ rfl (by (with_reducible repeat (first | refine blk_drewN ?_ _ | refine blk_drew ?_ | refine blk_alloc ?_ _)); refine blk_put (cs := #[.slice none 0 0]) ?_ 0 _ rfl; (with_reducible repeat (first | refine blk_drewN ?_ _ | refine blk_drew ?_ | refine blk_alloc ?_ _)); exact BK635.out) Tryd.underlying29 rfl (by kernel_rfl)) rfl ?_
     exact ⟨_, Ye2, by (with_reducible repeat (first | apply Kd.R_alloc | apply Kd.R_drewN | apply Kd.R_drew)); exact Kd.R_mono (Kd.R_far (p := ⟨gb635, 0, none⟩) (Kd.R_types HO_637000.out BK635.out (by decide)) (fun _ hk => hk.2) (.slice Ao73 x637000_1.length co73)) (fun _ hk => trivial), (by first | exact be4 HB.out GE633.out GE634.out GE635.out GE636.out | exact be3 HB.out GE633.out GE634.out GE635.out | exact be2 HB.out GE633.out GE634.out)⟩
    ·replace c65 := Bool.eq_false_iff.mpr c65
     subst c65
     have H1 : (if x637000_1.length < 3518437208883 then (some (x637000_1 ++ [(⟨a1_0, a1_1, a1_2⟩ : S45)])) else (none)) = some r := by rw [if_neg (show ¬ (false = true) by decide)] at H; exact H
     clear H
     have H := H1
     clear H1
     by_cases c76 : x637000_1.length < 3518437208883
     ·rw [if_pos c76] at H
      have LMc76 := Aside0.mk c76
      clear c76
      obtain ⟨y637, hy637⟩ : ∃ y_ : List (S45), y_ = (x637000_1 ++ [(⟨a1_0, a1_1, a1_2⟩ : S45)]) := ⟨_, rfl⟩
      replace H : (some y637) = some r := by first | (rw [hy637]; with_reducible exact H) | (have H2_ := (Option.bind_some _ _).symm.trans H; rw [hy637]; with_reducible exact H2_) | (have H2_ := (Option.bind_some _ _).symm.trans H; with_reducible exact H2_) | with_reducible exact H | (rw [hy637]; exact H) | exact H
      have Ny637 := Aside0.mk hy637
      clear hy637
      obtain rfl := Option.some.inj H
      have hnb77 := NB633_634.out
      have hnc77 := NB634_633.out
      have hnb78 := NB633_635.out
      have hnc78 := NB635_633.out
      have hnb79 := NB633_636.out
      have hnc79 := NB636_633.out
      have ⟨hcz80_0, hfz80_0⟩ := Yc1 BK633.out
      have hnb81 := NB636_634.out
      have hnc81 := NB634_636.out
      have hnb82 := NB636_635.out
      have hnc82 := NB635_636.out
      have ⟨hcz83_0, hfz83_0⟩ := Yc1 BK636.out
      have hnb84 := NB634_635.out
      have hnc84 := NB635_634.out
      have ⟨hcz85_0, hcz85_1, hcz85_2, hfz85_0, hfz85_1, hfz85_2⟩ := Yc3 BK634.out
      go_wp2_with (first | ((with_reducible refine gate_builtin (b := .append) (xs := #[.tmp 57, .tmp 59]) rfl ?_); at_builtin; refine Kd.R_append k45 (w0 := w) w.heap.size rfl (.tmp 57) (.tmp 59) 27 45 (.agg #[(.string ⟨#[]⟩), (.string ⟨#[]⟩), (.bool false)]) 40 rfl Tryd.underlying27 info45 rfl (by decide) (by omega) u637000 x637000_1 (⟨a1_0, a1_1, a1_2⟩ : S45) [.string a1_0, .string a1_1, .bool a1_2] (fun k_ => k_ ≠ gb634) (fun _ => False) rfl rfl ?aP (fun _ hk => hk.elim) ?aF ?aO ?aB ?aS ?aL ?_; (case aP => exact k45_mkM _ _ _ (⟨a1_0, a1_1, a1_2⟩ : S45)); (case aB => exact (be4 HB.out GE633.out GE634.out GE635.out GE636.out)); (case aF => exact (fun k_ hk => Kd.freshB (g := gb634) (o := .cells #[.string a1_0, .string a1_1, .bool a1_2] 45 (0, 0)) (bk BK634.out) k_ hk)); (case aO => exact (kr HO_637000.out)); (case aS => exact (below_size (be4 HB.out GE633.out GE634.out GE635.out GE636.out))); (case aL => have := LMc76.out; omega); intro v638 w86 ho hb hg hat; rw [← Ny637.out] at ho; refine Ya6 (blk_grown (g := gb633) (o := .cells #[.slice A0_0 l0_0.length c0_0] 29 (0, 0)) (bk BK633.out) hg (Kd.R_ne HO_637000.out BK633.out (by decide))) (blk_grown (g := gb634) (o := .cells #[.string a1_0, .string a1_1, .bool a1_2] 45 (0, 0)) (bk BK634.out) hg (Kd.R_away HO_637000.out (fun _ hk => hk))) (blk_grown (g := gb635) (o := .cells #[.slice none 0 0] 29 (0, 0)) (bk BK635.out) hg (Kd.R_ne HO_637000.out BK635.out (by decide))) (blk_grown (g := gb636) (o := .cells #[u637000] 29 (0, 0)) (bk BK636.out) hg (Kd.R_ne HO_637000.out BK636.out (by decide))) (hb) (ho) ?_; clear BK633 BK634 BK635 BK636 HB HO_637000; intro BK633 BK634 BK635 BK636 HB HO639; clear ho hb hg hat; obtain ⟨Ao87, co87, eo87⟩ := Kd.R_slice HO639.out; subst eo87; have ⟨hcz88_0, hfz88_0⟩ := Yc1 BK636.out; have ⟨hcz89_0, hfz89_0⟩ := Yc1 BK635.out))
      refine bodyPost_ret (results_cell_row rfl _ _ gb635 29 #[.slice Ao87 y637.length co87] (0, 0) _ rfl (by (with_reducible repeat (first | refine blk_drewN ?_ _ | refine blk_drew ?_ | refine blk_alloc ?_ _)); refine blk_put (cs := #[.slice none 0 0]) ?_ 0 _ rfl; (with_reducible repeat (first | refine blk_drewN ?_ _ | refine blk_drew ?_ | refine blk_alloc ?_ _)); refine blk_far ?_ NB635_636.out _; (with_reducible repeat (first | refine blk_drewN ?_ _ | refine blk_drew ?_ | refine blk_alloc ?_ _)); exact BK635.out) Tryd.underlying29 rfl (by kernel_rfl)) rfl ?_
      exact ⟨_, Ye2, by (with_reducible repeat (first | apply Kd.R_alloc | apply Kd.R_drewN | apply Kd.R_drew)); exact Kd.R_mono (Kd.R_far (p := ⟨gb635, 0, none⟩) (Kd.R_far (p := ⟨gb636, 0, none⟩) (Kd.R_types (Kd.R_types HO639.out BK636.out (by decide)) BK635.out (by decide)) (fun _ hk => hk.1.2) (.slice Ao87 y637.length co87)) (fun _ hk => hk.2) (.slice Ao87 y637.length co87)) (fun _ hk => trivial), (by first | exact be4 HB.out GE633.out GE634.out GE635.out GE636.out | exact be3 HB.out GE633.out GE634.out GE635.out | exact be2 HB.out GE633.out GE634.out)⟩
     ·rw [if_neg c76] at H
      exact absurd H (by simp)

end Go.Proofs.YtkdghhkpmkfjhaaDoor.P

